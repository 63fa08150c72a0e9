/- the plain law -/
import Derived.Test.YtdjnlmmhbeeihaaGreatDoorP1
namespace Go.Proofs.YtdjnlmmhbeeihaaGreatDoor
open Go Go.Sk
set_option linter.unusedSimpArgs false
set_option linter.unusedVariables false
def bf : Frc := ⟨bad, big 1⟩
def fits (r : Rat) : Prop := InM r.num ∧ InM r.den
noncomputable instance (r : Rat) : Decidable (fits r) := Classical.propDecidable _
def mk (r : Rat) : Frc := ⟨big r.num, big r.den⟩
noncomputable def ofR (r : Rat) : Frc := if fits r then mk r else bf
abbrev inF (x : Frc) : Prop := inB x.N ∧ inB x.D
def qF (x : Frc) : Option Rat := match iv x.N, iv x.D with
 | some n, some d => if 0 < d ∧ Nat.gcd n.natAbs d.natAbs = 1 then some (Rat.divInt n d) else none
 | _, _ => none
noncomputable def mkB (n d : Big) : Frc := match iv n, iv d with
 | some a, some b => if b = 0 then bf else ofR (Rat.divInt a b)
 | _, _ => bf
theorem in_mk {N D : Big} (h1 : inB N) (h2 : inB D) : inF ⟨N, D⟩ := And.intro h1 h2
theorem bf_in : inF bf := in_mk bad_in (big_in 1)
theorem mk_in (r : Rat) : inF (mk r) := in_mk (big_in _) (big_in _)
theorem ofR_in (r : Rat) : inF (ofR r) := by unfold ofR; split; exact mk_in r; exact bf_in
theorem mkB_in (n d : Big) : inF (mkB n d) := by
 unfold mkB; split
 ·split; exact bf_in; exact ofR_in _
 ·exact bf_in
theorem ofR_fits {r : Rat} (h : fits r) : ofR r = mk r := by unfold ofR; rw [if_pos h]
theorem ofR_not {r : Rat} (h : ¬ fits r) : ofR r = bf := by unfold ofR; rw [if_neg h]
theorem qF_none {N D : Big} (h : iv N = none) : qF ⟨N, D⟩ = none := by
 unfold qF
 dsimp only
 rw [h]
theorem qF_bf : qF bf = none := by
 unfold bf
 exact qF_none iv_bad
theorem qF_of {N D : Big} {n d : Int} (hn : iv N = some n) (hd : iv D = some d) (h0 : 0 < d) (hc : Nat.gcd n.natAbs d.natAbs = 1) : qF ⟨N, D⟩ = some (Rat.divInt n d) := by
 unfold qF
 dsimp only
 rw [hn, hd]
 dsimp only
 rw [if_pos ⟨h0, hc⟩]
theorem qF_mk {r : Rat} (h : fits r) : qF (mk r) = some r := by
 have hc : Nat.gcd r.num.natAbs ((r.den : Int)).natAbs = 1 := by rw [Int.natAbs_natCast]; exact r.reduced
 have := qF_of (iv_big h.1) (iv_big h.2) (den_pos r) hc
 rw [Rat.num_divInt_den] at this
 exact this
theorem qF_ofR (r : Rat) : qF (ofR r) = if fits r then some r else none := by
 unfold ofR
 split
 ·exact qF_mk (by assumption)
 ·exact qF_bf
theorem qF_some {x : Frc} {r : Rat} (hx : inF x) (h : qF x = some r) : fits r ∧ x = mk r := by
 unfold qF at h
 split at h
 ·next n d hn hd =>
  obtain ⟨_, en, rn⟩ := iv_some hx.1 hn
  obtain ⟨_, ed, rd⟩ := iv_some hx.2 hd
  split at h
  ·next hc =>
   have e := divInt_cop hc.1 hc.2
   cases h
   refine ⟨⟨by rw [e.1]; exact rn, by rw [e.2]; exact rd⟩, ?_⟩
   unfold mk
   rw [e.1, e.2, ← en, ← ed]
  ·cases h
 ·cases h
theorem fq_mul {q g : Int} (h : g ≠ 0) : fq (q * g) g = q := by
 refine (fq_unique h (r := 0) (by rw [Int.mul_comm]; omega) ?_ (.inl rfl)).1.symm
 have := absZ_pos h
 simpa [absZ] using this
theorem red_fits {n d : Int} (hd : d ≠ 0) (rn : InM n) (rd : InM d) : fits (Rat.divInt n d) := by
 obtain ⟨g0, e1, e2⟩ := red (n := n) hd
 have key : ∀ {a g m : Int}, g ≠ 0 → a * g = m → InM m → InM a := fun {a g m} hg e hm => by
  have h1 : a.natAbs * g.natAbs = m.natAbs := by rw [← Int.natAbs_mul, e]
  have h2 : a.natAbs * 1 ≤ a.natAbs * g.natAbs := Nat.mul_le_mul_left _ (by omega)
  constructor <;> have := hm.1 <;> have := hm.2 <;> omega
 exact ⟨key g0 e1 rn, key g0 e2 rd⟩
theorem goodz_y {x : Big} : ratio_good_S FF x = some (goodB x) := by
 refine Yld.eq ?_
 unfold ratio_good_S goodB
 cases h : x.Bad with
 | true => exact Yld.g0 rfl (Yld.some (by simp))
 | false => exact Yld.g1 rfl (Yld.bindE (Valid_y FF x) (Yld.some (by simp [h])))
theorem one_y : ratio_one_S FF = some (big 1) := by
 unfold ratio_one_S
 rw [Of_v (by decide) (by decide)]; rfl
theorem Bad_f : ratio_Bad_S FF = some bf := by
 unfold ratio_Bad_S
 rw [Bad_y, Option.bind_some, one_y]; rfl
theorem sgn_pos {d : Int} : decide (0 < sgn d) = decide (0 < d) := by rw [decide_eq_decide]; unfold sgn; split <;> (try split) <;> omega
theorem sgn_neg {d : Int} : decide (sgn d < 0) = decide (d < 0) := by rw [decide_eq_decide]; unfold sgn; split <;> (try split) <;> omega
theorem sgn_zero {d : Int} : decide (sgn d = 0) = decide (d = 0) := by rw [decide_eq_decide]; unfold sgn; split <;> (try split) <;> omega
theorem Good_f {x : Frc} (hx : inF x) : ratio_Good_S FF x = some (qF x).isSome := by
 refine Yld.eq ?_
 unfold ratio_Good_S qF
 refine Yld.bindE goodz_y ?_
 cases hn : iv x.N with
 | none =>
  rw [iv_none hn]
  exact Yld.g0 rfl (Yld.g0 rfl (Yld.g0 rfl (Yld.g0 rfl (Yld.some rfl))))
 | some n =>
  obtain ⟨gn, en, rn⟩ := iv_some hx.1 hn
  rw [gn]
  refine Yld.g1 rfl (Yld.bindE goodz_y ?_)
  cases hd : iv x.D with
  | none =>
   rw [iv_none hd]
   exact Yld.g0 rfl (Yld.g0 rfl (Yld.g0 rfl (Yld.some rfl)))
  | some d =>
   obtain ⟨gd, ed, rd⟩ := iv_some hx.2 hd
   rw [gd, en, ed]
   refine Yld.g1 rfl (Yld.bindE (Sign_v rd) ?_)
   rw [sgn_pos]
   by_cases h0 : 0 < d
   ·rw [decide_eq_true h0]
    refine Yld.g1 rfl (Yld.bindE (Gcd_v rn rd) (Yld.g1 rfl (Yld.bindE one_y (Yld.some ?_))))
    have hg : InM (Nat.gcd n.natAbs d.natAbs : Nat) := by
     have := Nat.gcd_le_right n.natAbs (show 0 < d.natAbs by omega)
     have := rd.1; have := rd.2
     constructor <;> omega
    have e : (big (Nat.gcd n.natAbs d.natAbs : Nat) = big 1) = (Nat.gcd n.natAbs d.natAbs = 1) := by
     rw [eq_iff_iff, big_inj hg one_InM]; omega
    simp only [e]
    by_cases h1 : Nat.gcd n.natAbs d.natAbs = 1
    ·simp [h1, h0]
    ·simp [h1]
   ·rw [decide_eq_false h0]
    refine Yld.g0 rfl (Yld.g0 rfl (Yld.some ?_))
    simp [h0]
theorem Make_f {n d : Big} (hn : inB n) (hd : inB d) : ratio_Make_S FF n d = some (mkB n d) := by
 refine Yld.eq ?_
 unfold ratio_Make_S mkB
 refine Yld.bindE goodz_y ?_
 cases ha : iv n with
 | none =>
  rw [iv_none ha]
  exact Yld.g0 rfl (Yld.g0 rfl (Yld.ift rfl (Yld.bindE Bad_f (Yld.some rfl))))
 | some a =>
  obtain ⟨ga, rfl, ra⟩ := iv_some hn ha
  rw [ga]
  refine Yld.g1 rfl (Yld.bindE goodz_y ?_)
  cases hb : iv d with
  | none =>
   rw [iv_none hb]
   exact Yld.g0 rfl (Yld.ift rfl (Yld.bindE Bad_f (Yld.some rfl)))
  | some b =>
   obtain ⟨gb, rfl, rb⟩ := iv_some hd hb
   rw [gb]
   refine Yld.g1 rfl (Yld.bindE (Sign_v rb) ?_)
   rw [sgn_zero]
   by_cases h0 : b = 0
   ·rw [decide_eq_true h0]
    exact Yld.ift rfl (Yld.bindE Bad_f (Yld.some (by simp [h0])))
   ·rw [decide_eq_false h0]
    have hg : InM (Nat.gcd a.natAbs b.natAbs : Nat) := by
     have := Nat.gcd_le_right a.natAbs (show 0 < b.natAbs by omega)
     have := rb.1; have := rb.2
     constructor <;> omega
    have hgs : InM (gcdS a b) := by unfold gcdS; split <;> (have := hg.1; have := hg.2; constructor <;> omega)
    obtain ⟨g0, e1, e2⟩ := red (n := a) h0
    refine Yld.iff rfl (Yld.bindE (Gcd_v ra rb) (Yld.bind (P := fun g => g = big (gcdS a b)) (Yld.bindE (Sign_v rb) ?_) ?_))
    ·rw [sgn_neg]
     unfold gcdS
     refine Yld.ite (fun h => ?_) (fun h => ?_)
     ·rw [if_pos (of_decide_eq_true h), Neg_y FF1 (big_in _), one_big hg]; exact Yld.some rfl
     ·rw [if_neg (of_decide_eq_false h)]; exact Yld.some rfl
    ·rintro g rfl
     refine Yld.bindE (Quo_v ra hgs g0) (Yld.bindE (Quo_v rb hgs g0) (Yld.some ?_))
     dsimp only
     rw [if_neg h0, ofR_fits (red_fits h0 ra rb)]
     unfold mk
     have f1 : fq a (gcdS a b) = (Rat.divInt a b).num := by
      have := fq_mul (q := (Rat.divInt a b).num) g0
      rwa [e1] at this
     have f2 : fq b (gcdS a b) = ((Rat.divInt a b).den : Int) := by
      have := fq_mul (q := ((Rat.divInt a b).den : Int)) g0
      rwa [e2] at this
     rw [f1, f2]
end Go.Proofs.YtdjnlmmhbeeihaaGreatDoor

namespace Go.Proofs.YtdjnlmmhbeeihaaGreatDoor
open Go Go.Sk
set_option linter.unusedSimpArgs false
set_option linter.unusedVariables false
def un (f : Rat → Frc) (x : Frc) : Frc := match qF x with
 | some r => f r
 | none => bf
def bi (f : Rat → Rat → Frc) (x y : Frc) : Frc := match qF x, qF y with
 | some r, some s => f r s
 | _, _ => bf
theorem un_none {f : Rat → Frc} {x : Frc} (h : qF x = none) : un f x = bf := by unfold un; rw [h]
theorem un_some {f : Rat → Frc} {x : Frc} {r : Rat} (h : qF x = some r) : un f x = f r := by unfold un; rw [h]
theorem bi_none1 {f : Rat → Rat → Frc} {x y : Frc} (h : qF x = none) : bi f x y = bf := by unfold bi; rw [h]
theorem bi_none2 {f : Rat → Rat → Frc} {x y : Frc} (h : qF y = none) : bi f x y = bf := by unfold bi; rw [h]; cases qF x <;> rfl
theorem bi_some {f : Rat → Rat → Frc} {x y : Frc} {r s : Rat} (h : qF x = some r) (h2 : qF y = some s) : bi f x y = f r s := by unfold bi; rw [h, h2]
theorem neg_nd (r : Rat) : (-r).num = -r.num ∧ (-r).den = r.den := ⟨rfl, rfl⟩
theorem neg_fits {r : Rat} (h : fits r) : fits (-r) := by
 obtain ⟨⟨h1, h2⟩, h3⟩ := h
 exact ⟨by rw [(neg_nd r).1]; constructor <;> omega, by rw [(neg_nd r).2]; exact h3⟩
theorem mk_N (r : Rat) : (mk r).N = big r.num := by simp only [mk]
theorem mk_D (r : Rat) : (mk r).D = big r.den := by simp only [mk]
theorem Neg_f {x : Frc} (hx : inF x) : ratio_Neg_S FF x = some (un (fun r => ofR (-r)) x) := by
 refine Yld.eq ?_
 unfold ratio_Neg_S
 refine Yld.bindE (Good_f hx) ?_
 cases hq : qF x with
 | none => rw [un_none hq]; exact Yld.ift rfl (Yld.bindE Bad_f (Yld.some rfl))
 | some r =>
  obtain ⟨hf, rfl⟩ := qF_some hx hq
  rw [un_some hq, ofR_fits (neg_fits hf), mk_N, mk_D]
  refine Yld.iff rfl (Yld.bindE (x := big (-r.num)) (by rw [Neg_y FF1 (big_in _), one_big hf.1]; rfl) (Yld.some ?_))
  unfold mk
  rw [(neg_nd r).1, (neg_nd r).2]
theorem un_in {f : Rat → Frc} (hf : ∀ r, inF (f r)) (x : Frc) : inF (un f x) := by unfold un; split; exact hf _; exact bf_in
theorem bi_in {f : Rat → Rat → Frc} (hf : ∀ r s, inF (f r s)) (x y : Frc) : inF (bi f x y) := by unfold bi; split; exact hf _ _; exact bf_in
theorem mkB_big {a b : Int} (ra : InM a) (rb : InM b) (h : b ≠ 0) : mkB (big a) (big b) = ofR (Rat.divInt a b) := by
 unfold mkB
 rw [iv_big ra, iv_big rb]
 dsimp only
 rw [if_neg h]
def qd (r s : Rat) : Int := ((r.den / Nat.gcd r.den s.den : Nat) : Int)
theorem qd_mul (r s : Rat) : (r.den : Int) = qd r s * (Nat.gcd r.den s.den : Nat) := by
 unfold qd
 have := Nat.div_mul_cancel (Nat.gcd_dvd_left r.den s.den)
 rw [← Int.natCast_mul, this]
theorem gcd_den_pos (r s : Rat) : (0 : Int) < (Nat.gcd r.den s.den : Nat) := by
 have := Nat.gcd_pos_of_pos_left s.den (show 0 < r.den from r.den_pos)
 omega
theorem qd_pos (r s : Rat) : 0 < qd r s := by
 have h := qd_mul r s
 have h0 := den_pos r
 have h1 := gcd_den_pos r s
 rcases (by omega : qd r s ≤ 0 ∨ 0 < qd r s) with h2 | h2
 ·have := Int.mul_nonpos_of_nonpos_of_nonneg h2 (Int.le_of_lt h1)
  omega
 ·exact h2
theorem qd_le (r s : Rat) : qd r s ≤ r.den := by
 unfold qd
 have := Nat.div_le_self r.den (Nat.gcd r.den s.den)
 omega
abbrev plus := fun a b : Int => some (a + b)
noncomputable def addR (r s : Rat) : Frc := mkB (two plus (big (r.num * qd s r)) (big (s.num * qd r s))) (big (qd r s * s.den))
theorem toB_some (z : Int) : toB (some z) = big z := rfl
theorem addR_ok {r s : Rat} (h1 : InM (r.num * qd s r)) (h2 : InM (s.num * qd r s)) (h3 : InM (r.num * qd s r + s.num * qd r s)) (h4 : InM (qd r s * s.den)) : addR r s = ofR (r + s) := by
 unfold addR
 rw [two_big h1 h2, toB_some, mkB_big h3 h4 (by have := Int.mul_pos (qd_pos r s) (den_pos s); omega), sum_q r s (qd_mul r s) (by have := qd_mul s r; rwa [Nat.gcd_comm] at this)]
theorem mkB_bad1 {x y : Big} (h : iv x = none) : mkB x y = bf := by unfold mkB; rw [h]
theorem mkB_bad2 {x y : Big} (h : iv y = none) : mkB x y = bf := by unfold mkB; rw [h]; cases iv x <;> rfl
theorem iv_out {z : Int} (h : ¬ InM z) : iv (big z) = none := by rw [big_out h, iv_bad]
theorem two_bad1 {f : Int → Int → Option Int} {x y : Big} (h : iv x = none) : two f x y = bad := by unfold two; rw [h]
theorem two_bad2 {f : Int → Int → Option Int} {x y : Big} (h : iv y = none) : two f x y = bad := by unfold two; rw [h]; cases iv x <;> rfl
theorem addR_or (r s : Rat) : addR r s = ofR (r + s) ∨ addR r s = bf := by
 by_cases h1 : InM (r.num * qd s r)
 ·by_cases h2 : InM (s.num * qd r s)
  ·by_cases h3 : InM (r.num * qd s r + s.num * qd r s)
   ·by_cases h4 : InM (qd r s * s.den)
    ·exact .inl (addR_ok h1 h2 h3 h4)
    ·exact .inr (by unfold addR; exact mkB_bad2 (iv_out h4))
   ·exact .inr (by unfold addR; exact mkB_bad1 (by rw [two_big h1 h2, toB_some]; exact iv_out h3))
  ·exact .inr (by unfold addR; exact mkB_bad1 (by rw [two_bad2 (iv_out h2)]; exact iv_bad))
 ·exact .inr (by unfold addR; exact mkB_bad1 (by rw [two_bad1 (iv_out h1)]; exact iv_bad))
theorem qd_in {r s : Rat} (h : fits r) : InM (qd r s) := by
 have := qd_pos r s
 have := qd_le r s
 have := h.2.2
 have := MM_pos
 constructor <;> omega
theorem fq_den (r s : Rat) : fq (r.den : Int) (Nat.gcd r.den s.den : Nat) = qd r s := by
 have := fq_mul (q := qd r s) (g := (Nat.gcd r.den s.den : Nat)) (by have := gcd_den_pos r s; omega)
 rwa [← qd_mul] at this
theorem gcd_in {r s : Rat} (h : fits r) : InM (Nat.gcd r.den s.den : Nat) := by
 have := Nat.gcd_le_left s.den (show 0 < r.den from r.den_pos)
 have := h.2.2
 have := MM_pos
 constructor <;> omega
theorem addR_in (r s : Rat) : inF (addR r s) := mkB_in _ _
theorem Add_f {x y : Frc} (hx : inF x) (hy : inF y) : ratio_Add_S FF x y = some (bi addR x y) := by
 refine Yld.eq ?_
 unfold ratio_Add_S
 refine Yld.bindE (Good_f hx) ?_
 cases hq : qF x with
 | none => rw [bi_none1 hq]; exact Yld.g0 rfl (Yld.ift rfl (Yld.bindE Bad_f (Yld.some rfl)))
 | some r =>
  obtain ⟨hf, rfl⟩ := qF_some hx hq
  refine Yld.g1 rfl (Yld.bindE (Good_f hy) ?_)
  cases hq2 : qF y with
  | none => rw [bi_none2 hq2]; exact Yld.ift rfl (Yld.bindE Bad_f (Yld.some rfl))
  | some s =>
   obtain ⟨hs, rfl⟩ := qF_some hy hq2
   rw [bi_some hq hq2, mk_N, mk_D, mk_N, mk_D]
   have e1 := fq_den r s
   have e2 := fq_den s r
   rw [Nat.gcd_comm] at e2
   have hg := gcd_den_pos r s
   have gi := gcd_in (s := s) hf
   refine Yld.iff rfl (Yld.bindE (Gcd_v hf.2 hs.2) ?_)
   rw [Int.natAbs_natCast, Int.natAbs_natCast]
   refine Yld.bindE (Quo_v hf.2 gi (by omega)) (Yld.bindE (Quo_v hs.2 gi (by omega)) ?_)
   rw [e1, e2]
   refine Yld.bindE (Mul_v hf.1 (qd_in hs)) (Yld.bindE (Mul_v hs.1 (qd_in hf)) (Yld.bindE (Add_y FF1 (big_in _) (big_in _)) (Yld.bindE (Mul_v (qd_in hf) hs.2) (Yld.bindE (Make_f (two_in _ _ _) (big_in _)) (Yld.some rfl)))))
noncomputable def subR (r s : Rat) : Frc := addR r (-s)
theorem Sub_f {x y : Frc} (hx : inF x) (hy : inF y) : ratio_Sub_S FF x y = some (bi subR x y) := by
 refine Yld.eq ?_
 unfold ratio_Sub_S
 refine Yld.bindE (Neg_f hy) (Yld.bindE (Add_f hx (un_in (fun r => ofR_in _) _)) (Yld.some ?_))
 cases hq2 : qF y with
 | none => rw [un_none hq2, bi_none2 hq2, bi_none2 qF_bf]
 | some s =>
  obtain ⟨hs, rfl⟩ := qF_some hy hq2
  rw [un_some hq2, ofR_fits (neg_fits hs)]
  cases hq : qF x with
  | none => rw [bi_none1 hq, bi_none1 hq]
  | some r => rw [bi_some hq hq2, bi_some hq (qF_mk (neg_fits hs))]; rfl
theorem prod_fits {r s : Rat} (hr : fits r) (hs : fits s) : fits (Rat.divInt r.num s.den) ∧ fits (Rat.divInt s.num r.den) :=
 ⟨red_fits (by have := den_pos s; omega) hr.1 hs.2, red_fits (by have := den_pos r; omega) hs.1 hr.2⟩
noncomputable def mulR (r s : Rat) : Frc := ofR (r * s)
theorem Mul_f {x y : Frc} (hx : inF x) (hy : inF y) : ratio_Mul_S FF x y = some (bi mulR x y) := by
 refine Yld.eq ?_
 unfold ratio_Mul_S
 refine Yld.bindE (Good_f hx) ?_
 cases hq : qF x with
 | none => rw [bi_none1 hq]; exact Yld.g0 rfl (Yld.ift rfl (Yld.bindE Bad_f (Yld.some rfl)))
 | some r =>
  obtain ⟨hf, rfl⟩ := qF_some hx hq
  refine Yld.g1 rfl (Yld.bindE (Good_f hy) ?_)
  cases hq2 : qF y with
  | none => rw [bi_none2 hq2]; exact Yld.ift rfl (Yld.bindE Bad_f (Yld.some rfl))
  | some s =>
   obtain ⟨hs, rfl⟩ := qF_some hy hq2
   rw [bi_some hq hq2, mk_N, mk_D, mk_N, mk_D]
   have h0 := den_pos r
   have h1 := den_pos s
   obtain ⟨fa, fb⟩ := prod_fits hf hs
   have hp := prod_q r s
   refine Yld.iff rfl (Yld.bindE (Make_f (big_in _) (big_in _)) (Yld.bindE (Make_f (big_in _) (big_in _)) ?_))
   rw [mkB_big hf.1 hs.2 (by omega), mkB_big hs.1 hf.2 (by omega), ofR_fits fa, ofR_fits fb, mk_N, mk_D, mk_N, mk_D]
   refine Yld.bindE (Mul_v fa.1 fb.1) (Yld.bindE (Mul_v fa.2 fb.2) ?_)
   rw [← hp.1, ← hp.2, big_Bad, big_Bad]
   unfold mulR
   by_cases h : fits (r * s)
   ·rw [ofR_fits h, decide_eq_true h.1, decide_eq_true h.2]
    exact Yld.iff rfl (Yld.some rfl)
   ·rw [ofR_not h]
    refine Yld.ift ?_ (Yld.bindE Bad_f (Yld.some rfl))
    by_cases h2 : InM (r * s).num
    ·have h3 : ¬ InM (r * s).den := fun h3 => h ⟨h2, h3⟩
     simp [h3]
    ·simp [h2]
theorem inv_r (s : Rat) : Rat.divInt s.den s.num = s⁻¹ := (Rat.inv_def s).symm
noncomputable def divR (r s : Rat) : Frc := if s.num = 0 then bf else ofR (r / s)
theorem divR_in (r s : Rat) : inF (divR r s) := by unfold divR; split; exact bf_in; exact ofR_in _
theorem mkB_zero {a : Int} {x : Big} : mkB x (big 0) = bf := by
 unfold mkB
 rw [iv_big zero_InM]
 cases iv x with
 | none => rfl
 | some a => dsimp only; rw [if_pos rfl]
theorem inv_fits {s : Rat} (h : s.num ≠ 0) (hs : fits s) : fits s⁻¹ := by rw [← inv_r]; exact red_fits h hs.2 hs.1
theorem mkB_inv {s : Rat} (hs : fits s) (h : s.num ≠ 0) : mkB (big s.den) (big s.num) = mk s⁻¹ := by
 rw [mkB_big hs.2 hs.1 h, inv_r, ofR_fits (inv_fits h hs)]
theorem Div_f {x y : Frc} (hx : inF x) (hy : inF y) : ratio_Div_S FF x y = some (bi divR x y) := by
 refine Yld.eq ?_
 unfold ratio_Div_S
 refine Yld.bindE (Good_f hy) ?_
 cases hq2 : qF y with
 | none => rw [bi_none2 hq2]; exact Yld.ift rfl (Yld.bindE Bad_f (Yld.some rfl))
 | some s =>
  obtain ⟨hs, rfl⟩ := qF_some hy hq2
  refine Yld.iff rfl ?_
  rw [mk_N, mk_D]
  refine Yld.bindE (Make_f (big_in _) (big_in _)) (Yld.bindE (Mul_f hx (mkB_in _ _)) (Yld.some ?_))
  cases hq : qF x with
  | none => rw [bi_none1 hq, bi_none1 hq]
  | some r =>
   rw [bi_some hq hq2]
   unfold divR
   by_cases h : s.num = 0
   ·rw [if_pos h, h, mkB_zero (a := 0), bi_none2 qF_bf]
   ·rw [if_neg h, mkB_inv hs h, bi_some hq (qF_mk (inv_fits h hs))]
    unfold mulR
    rw [Rat.div_def]
theorem Sign_f {x : Frc} (hx : inF x) : ratio_Sign_S FF x = some (match qF x with | some r => sgn r.num | none => 0) := by
 refine Yld.eq ?_
 unfold ratio_Sign_S
 refine Yld.bindE (Good_f hx) ?_
 cases hq : qF x with
 | none => exact Yld.ift rfl (Yld.some rfl)
 | some r =>
  obtain ⟨hf, rfl⟩ := qF_some hx hq
  exact Yld.iff rfl (Yld.bindE (Sign_v hf.1) (Yld.some rfl))
theorem floor_fq (r : Rat) : fq r.num r.den = r.floor := by
 rw [Rat.floor_def]
 exact (fq_fr_pos r.num (den_pos r)).1
def unB (f : Rat → Int) (x : Frc) : Big := match qF x with
 | some r => big (f r)
 | none => bad
theorem unB_none {f : Rat → Int} {x : Frc} (h : qF x = none) : unB f x = bad := by unfold unB; rw [h]
theorem unB_some {f : Rat → Int} {x : Frc} {r : Rat} (h : qF x = some r) : unB f x = big (f r) := by unfold unB; rw [h]
theorem unB_in (f : Rat → Int) (x : Frc) : inB (unB f x) := by unfold unB; split; exact big_in _; exact bad_in
theorem floor_in {r : Rat} (h : fits r) : InM r.floor := by
 rw [← floor_fq]
 exact fq_rng (by have := den_pos r; omega) h.1
theorem Floor_f {x : Frc} (hx : inF x) : ratio_Floor_S FF x = some (unB Rat.floor x) := by
 refine Yld.eq ?_
 unfold ratio_Floor_S
 refine Yld.bindE (Good_f hx) ?_
 cases hq : qF x with
 | none => rw [unB_none hq]; exact Yld.ift rfl (Yld.bindE (Bad_y FF) (Yld.some rfl))
 | some r =>
  obtain ⟨hf, rfl⟩ := qF_some hx hq
  rw [unB_some hq, mk_N, mk_D]
  refine Yld.iff rfl (Yld.bindE (Quo_v hf.1 hf.2 (by have := den_pos r; omega)) (Yld.some ?_))
  rw [floor_fq]
theorem ceil_in {r : Rat} (h : fits r) : InM r.ceil := by
 have := floor_in (neg_fits h)
 rw [Rat.ceil_eq_neg_floor_neg]
 obtain ⟨h1, h2⟩ := this
 constructor <;> omega
theorem Ceil_f {x : Frc} (hx : inF x) : ratio_Ceil_S FF x = some (unB Rat.ceil x) := by
 refine Yld.eq ?_
 unfold ratio_Ceil_S
 refine Yld.bindE (Neg_f hx) (Yld.bindE (Floor_f (un_in (fun r => ofR_in _) _)) (Yld.bindE (Neg_y FF1 (unB_in _ _)) (Yld.some ?_)))
 cases hq : qF x with
 | none => rw [un_none hq, unB_none hq, unB_none qF_bf]; rfl
 | some r =>
  obtain ⟨hf, rfl⟩ := qF_some hx hq
  rw [un_some hq, unB_some hq, ofR_fits (neg_fits hf), unB_some (qF_mk (neg_fits hf)), one_big (floor_in (neg_fits hf)), Rat.ceil_eq_neg_floor_neg]; rfl
theorem Whole_f {n : Big} (hn : inB n) : ratio_Whole_S FF n = some (mkB n (big 1)) := by
 unfold ratio_Whole_S
 rw [one_y, Option.bind_some, Make_f hn (big_in 1)]; rfl
theorem int_nd (z : Int) : ((z : Rat)).num = z ∧ ((z : Rat)).den = 1 := ⟨rfl, rfl⟩
theorem int_fits {z : Int} (h : InM z) : fits (z : Rat) := by
 refine ⟨by rw [(int_nd z).1]; exact h, ?_⟩
 rw [(int_nd z).2]
 exact one_InM
theorem divInt_one (z : Int) : Rat.divInt z 1 = (z : Rat) := by
 rw [divInt_q]
 have : ((1 : Int) : Rat) = 1 := rfl
 rw [this, Rat.div_def]
 grind
theorem mkB_one {z : Int} (h : InM z) : mkB (big z) (big 1) = mk (z : Rat) := by
 rw [mkB_big h one_InM (by decide), divInt_one, ofR_fits (int_fits h)]
theorem in64_M {n : Int} (h : -9223372036854775808 ≤ n ∧ n ≤ 9223372036854775807) : InM n := by
 have := MM_big
 constructor <;> omega
theorem Of_f {n : Int} (h : -9223372036854775808 ≤ n ∧ n ≤ 9223372036854775807) : ratio_Of_S FF n = some (mk (n : Rat)) := by
 unfold ratio_Of_S
 rw [Of_v h.1 h.2, Option.bind_some, Whole_f (big_in _), mkB_one (in64_M h)]; rfl
theorem Frac_f {a b : Int} (ha : -9223372036854775808 ≤ a ∧ a ≤ 9223372036854775807) (hb : -9223372036854775808 ≤ b ∧ b ≤ 9223372036854775807) : ratio_Frac_S FF a b = some (mkB (big a) (big b)) := by
 unfold ratio_Frac_S
 rw [Of_v ha.1 ha.2, Option.bind_some, Of_v hb.1 hb.2, Option.bind_some, Make_f (big_in _) (big_in _)]; rfl
end Go.Proofs.YtdjnlmmhbeeihaaGreatDoor

namespace Go.Proofs.YtdjnlmmhbeeihaaGreatDoor
open Go Go.Sk
set_option linter.unusedSimpArgs false
set_option linter.unusedVariables false
theorem rSign_v {a : Int} (ra : InM a) : r3_Sign_S FF (big a) = some (sgn a) := by rw [rSign_y FF2 (big_in a), iv_big ra]
theorem rOf_v {n : Int} (h0 : -9223372036854775808 ≤ n) (h1 : n ≤ 9223372036854775807) : r3_Of_S FF n = some (big n) := rOf_y FF2 h0 h1
theorem rone_y : r4_one_S FF = some (big 1) := by
 unfold r4_one_S
 rw [rOf_v (by decide) (by decide)]; rfl
theorem rGood_f {x : Frc} (hx : inF x) : r4_Good_S FF x = some (qF x).isSome := by
 refine Yld.eq ?_
 unfold r4_Good_S qF
 refine Yld.bindE (rGood_y FF2 hx.1) ?_
 cases hn : iv x.N with
 | none =>
  rw [iv_none hn]
  exact Yld.g0 rfl (Yld.ift rfl (Yld.some rfl))
 | some n =>
  obtain ⟨gn, en, rn⟩ := iv_some hx.1 hn
  rw [gn]
  refine Yld.g1 rfl (Yld.bindE (rGood_y FF2 hx.2) ?_)
  cases hd : iv x.D with
  | none =>
   rw [iv_none hd]
   exact Yld.ift rfl (Yld.some rfl)
  | some d =>
   obtain ⟨gd, ed, rd⟩ := iv_some hx.2 hd
   rw [gd, en, ed]
   refine Yld.iff rfl (Yld.bindE (rSign_v rd) ?_)
   rw [sgn_pos]
   by_cases h0 : 0 < d
   ·rw [decide_eq_true h0]
    refine Yld.g1 rfl (Yld.bindE (rGcd_v rn rd) (Yld.g1 rfl (Yld.bindE rone_y (Yld.some ?_))))
    have hg : InM (Nat.gcd n.natAbs d.natAbs : Nat) := by
     have := Nat.gcd_le_right n.natAbs (show 0 < d.natAbs by omega)
     have := rd.1; have := rd.2
     constructor <;> omega
    have e : (big (Nat.gcd n.natAbs d.natAbs : Nat) = big 1) = (Nat.gcd n.natAbs d.natAbs = 1) := by
     rw [eq_iff_iff, big_inj hg one_InM]; omega
    simp only [e]
    by_cases h1 : Nat.gcd n.natAbs d.natAbs = 1
    ·simp [h1, h0]
    ·simp [h1]
   ·rw [decide_eq_false h0]
    refine Yld.g0 rfl (Yld.g0 rfl (Yld.some ?_))
    simp [h0]
end Go.Proofs.YtdjnlmmhbeeihaaGreatDoor

namespace Go.Sk
set_option linter.unusedSimpArgs false
set_option linter.unusedVariables false
def sim : Nat → Rat → Rat → Rat
 | 0, _, _ => 0
 | n + 1, r, s => if (r.ceil : Rat) ≤ s then r.ceil else r.floor + 1 / sim n (1 / (s - r.floor)) (1 / (r - r.floor))
structure SimStep (r s : Rat) : Prop where
 lo : (0 : Rat) < r - r.floor
 hi : r - r.floor ≤ s - r.floor
 one : s - r.floor < 1
 fl : 0 ≤ r.floor
end Go.Sk

namespace Go.Sk
set_option linter.unusedSimpArgs false
set_option linter.unusedVariables false
theorem zl : A16.zero.l = List.replicate 16 0 := rfl
theorem dg_up (w : A16) {q i : Nat} (hq : q < 16) (hi : i < 16) : dg (A16.of (spliceE A16.zero.l q ((w.l.drop 0).take (min 16 (16 - q))))).l i = if i < q then 0 else dg w.l (i - q) := by
 have hm : min 16 (16 - q) = 16 - q := by omega
 have hl : (spliceE A16.zero.l q ((w.l.drop 0).take (16 - q))).length = 16 := by
  unfold spliceE
  simp only [List.length_append, List.length_take, List.length_drop, A16.l_len]
  omega
 rw [hm, A16.l_of hl]
 unfold spliceE
 have h1 : (A16.zero.l.take q).length = q := by simp [A16.l_len]; omega
 have h2 : ((w.l.drop 0).take (16 - q)).length = 16 - q := by simp [A16.l_len]
 rw [List.append_assoc, dg_append, h1]
 split
 ·next h => rw [dg_take, if_pos h, zl, dg_replicate]
 ·next h =>
  rw [dg_append, h2, if_pos (by omega), dg_take, if_pos (by omega), List.drop_zero]
theorem pow_32 (q : Nat) : (4294967296 : Int) ^ q = 2 ^ (32 * q) := by rw [Int.pow_mul]; rfl
def shO (a n : Int) : Option Int := if a = 0 then some 0 else if 512 ≤ n ∨ (0 < n ∧ 512 < blen a + n) then none else if 0 ≤ n then some (a * 2 ^ n.toNat) else some (a / 2 ^ (-n).toNat)
theorem blen_fit {a : Int} (h0 : 0 < a) {n : Nat} : (blen a + n ≤ 512 ↔ a * 2 ^ n < MM) := by
 obtain ⟨h1, h2, h3⟩ := blen_spec h0
 have hp := pow2_pos n
 have eM : MM = 2 ^ 512 := by rw [MM_eq]; decide +kernel
 rw [eM]
 constructor
 ·intro h
  have g := Int.mul_lt_mul_of_pos_right h3 hp
  rw [← Int.pow_add] at g
  have := pow2_le (show (blen a).toNat + n ≤ 512 by omega)
  omega
 ·intro h
  have g := Int.mul_le_mul_of_nonneg_right h2 (Int.le_of_lt hp)
  rw [← Int.pow_add] at g
  rcases (by omega : blen a + n ≤ 512 ∨ 512 ≤ (blen a).toNat - 1 + n) with e | e
  ·exact e
  ·have := pow2_le e
   omega
end Go.Sk
namespace Go.Proofs.YtdjnlmmhbeeihaaGreatDoor
open Go Go.Sk
set_option linter.unusedSimpArgs false
set_option linter.unusedVariables false
end Go.Proofs.YtdjnlmmhbeeihaaGreatDoor

namespace Go.Proofs.YtdjnlmmhbeeihaaGreatDoor
open Go Go.Sk
set_option linter.unusedSimpArgs false
set_option linter.unusedVariables false
theorem pow2_pos' (k : Nat) : (0 : Int) < 2 ^ k := Int.pow_pos (by decide)
theorem sh_out {a : Int} {k : Nat} (h : ¬ absZ a * 2 ^ k < MM) : ¬ InM (a * 2 ^ k) := fun hi => by
 have := (absZ_lt hi).2
 rw [absZ_mul] at this
 have e : absZ ((2 : Int) ^ k) = 2 ^ k := by
  unfold absZ
  rw [if_neg (by have := pow2_pos' k; omega)]
 rw [e] at this
 exact h this
theorem sh_sign {a m : Int} {k : Nat} (hm : m = absZ a) : (if decide (a < 0) = true then -(m * 2 ^ k) else m * 2 ^ k) = a * 2 ^ k := by
 subst hm
 unfold absZ
 by_cases h : a < 0
 ·rw [if_pos (decide_eq_true h), if_pos h, Int.neg_mul, Int.neg_neg]
 ·rw [if_neg (by simpa using h), if_neg h]
theorem dec_sgn' {z : Int} : decide (sgn z = 0) = decide (z = 0) := sgn_zero
theorem Shift_n {a : Int} {k : Nat} (ra : InM a) (hk : k ≤ 256) : whole_Shift_S FF (big a) (k : Int) = some (big (a * 2 ^ k)) := by
 refine Yld.eq ?_
 unfold whole_Shift_S
 obtain ⟨wa, na⟩ := sv_big_W ra
 have ia := big_in a
 change av (big a).W = absZ a at wa
 refine Yld.bindE (good1 FF1 _) ?_
 rw [goodB_big ra]
 refine Yld.iff rfl (Yld.bindE (Sign_v ra) ?_)
 rw [dec_sgn']
 by_cases hz : a = 0
 ·subst hz
  rw [Int.zero_mul]
  exact Yld.ift rfl (Yld.some rfl)
 ·rw [decide_eq_false hz]
  have hap : 0 < absZ a := absZ_pos hz
  obtain ⟨m, hm⟩ : ∃ m, m = absZ a := ⟨_, rfl⟩
  rw [← hm] at wa hap
  have hml : m < MM := by rw [hm]; exact (absZ_lt ra).2
  refine Yld.iff rfl ?_
  have hbl := blen_nonneg m
  have hbl2 : blen m ≤ 512 := by
   have := (blen_fit hap (n := 0)).2 (by rw [Int.pow_zero, Int.mul_one]; exact hml)
   omega
  refine Yld.bind (P := fun b => ((decide (512 ≤ (k : Int))) || ((decide (0 < (k : Int))) && (decide (512 < (IntKind.i64.wrap (b + (k : Int))))))) = decide (0 < (k : Int) ∧ 512 < blen m + (k : Int))) ?_ ?_
  ·have h1 : ¬ 512 ≤ (k : Int) := by omega
   by_cases h2 : 0 < (k : Int)
   ·rw [decide_eq_false h1, decide_eq_true h2]
    have hbv := Bits_v ra
    rw [← hm] at hbv
    refine ⟨blen m, hbv, ?_⟩
    dsimp only
    rw [wi64' (by omega) (by omega)]
    rw [Bool.eq_iff_iff]
    simp only [Bool.false_or, Bool.true_and, decide_eq_true_eq, h2, true_and]
   ·rw [decide_eq_false h1, decide_eq_false h2]
    refine ⟨default, rfl, ?_⟩
    dsimp only
    rw [Bool.eq_iff_iff]
    simp only [Bool.false_or, Bool.false_and, decide_eq_true_eq, h2, false_and, Bool.false_eq_true]
  ·intro b hb
   rw [hb]
   refine Yld.ln ?_
   by_cases hov : 0 < (k : Int) ∧ 512 < blen m + (k : Int)
   ·rw [big_out (sh_out (a := a) (k := k) fun h => by rw [← hm] at h; have := (blen_fit hap (n := k)).2 h; omega)]
    refine Yld.ift (decide_eq_true hov) (Yld.bindE (Bad_y FF) (Yld.some rfl))
   ·refine Yld.iff (decide_eq_false hov) (Yld.iff (decide_eq_false (by omega)) (Yld.quo (by decide) ?_))
    have hq : IntKind.i64.wrap (Int.tdiv (k : Int) 32) = ((k / 32 : Nat) : Int) := by rw [tdiv_pos (by omega), wi64]; omega
    have hr : Int.tmod (k : Int) 32 = ((k % 32 : Nat) : Int) := by rw [tmod_pos (by omega)]; omega
    rw [hq, hr]
    refine Yld.ift (decide_eq_true (by omega)) ?_
    have hslo : slo? 16 ((k / 32 : Nat) : Int) = some (k / 32) := by unfold slo?; rw [if_pos (by omega), Int.toNat_natCast]
    refine Yld.bindE hslo ?_
    rw [Int.toNat_natCast]
    obtain ⟨w, hw⟩ : ∃ w, w = A16.of (spliceE A16.zero.l (k / 32) (((big a).W.l.drop 0).take (min 16 (16 - k / 32)))) := ⟨_, rfl⟩
    rw [← hw]
    refine Yld.ln ?_
    have hwd : ∀ i, i < 16 → dg w.l i = if i < k / 32 then 0 else dg (big a).W.l (i - k / 32) := fun i hi => by rw [hw]; exact dg_up _ (by omega) hi
    have win_ : inD 4294967296 w.l := fun i => by
     by_cases hi : i < 16
     ·rw [hwd i hi]; split
      ·decide
      ·exact ia _
     ·rw [dg_ge (by rw [A16.l_len]; omega)]; decide
    have hfit : m * 2 ^ k < MM := by
     by_cases h0 : 0 < (k : Int)
     ·exact (blen_fit hap).1 (by omega)
     ·have : k = 0 := by omega
      subst this
      rw [Int.pow_zero, Int.mul_one]; exact hml
    have hav : av w = m * 4294967296 ^ (k / 32) := by
     have e16 : 16 = k / 32 + (16 - k / 32) := by omega
     have e0 : av w = ds 4294967296 (dg w.l) (k / 32 + (16 - k / 32)) := by rw [← e16]; rfl
     rw [e0, ds_split]
     have e1 : ds 4294967296 (dg w.l) (k / 32) = 0 := ds_zero fun i hi => by rw [hwd i (by omega), if_pos hi]
     have e2 : ds 4294967296 (fun i => dg w.l (k / 32 + i)) (16 - k / 32) = ds 4294967296 (dg (big a).W.l) (16 - k / 32) := ds_congr fun i hi => by
      rw [hwd _ (by omega), if_neg (by omega)]
      congr 1
      omega
     have e3 : ds 4294967296 (dg (big a).W.l) (16 - k / 32) = m := by
      refine Eq.trans ?_ wa
      refine (ds_ext (b := 4294967296) (f := dg (big a).W.l) (n := 16 - k / 32) (m := 16) (by omega) fun i h1 h2 => ?_).symm
      refine win_zero ia (n := 16) (k := 16 - k / 32) (by rw [A16.l_len]; omega) ?_ h1
      rw [win0]
      show av (big a).W < _
      rw [wa]
      have g1 : m * 4294967296 ^ (k / 32) ≤ m * 2 ^ k := by
       rw [pow_32]
       exact Int.mul_le_mul_of_nonneg_left (pow2_le (by omega)) (Int.le_of_lt hap)
      have g2 : (4294967296 : Int) ^ (16 - k / 32) * 4294967296 ^ (k / 32) = MM := by rw [← Int.pow_add, MM32]; congr 1; omega
      have g3 : m * 4294967296 ^ (k / 32) < 4294967296 ^ (16 - k / 32) * 4294967296 ^ (k / 32) := by omega
      exact Int.lt_of_mul_lt_mul_right g3 (Int.le_of_lt (pw_pos _))
     rw [e1, e2, e3, Int.zero_add, Int.mul_comm]
    refine Yld.bind (up_y FF1 win_ (n := k % 32) (by omega)) ?_
    rintro ⟨v, c⟩ ⟨vin, c0, c1, vs⟩
    dsimp only at vin c0 c1 vs
    dsimp only [un2]
    have e4 : av w * 2 ^ (k % 32) = m * 2 ^ k := by
     rw [hav, pow_32, Int.mul_assoc, ← Int.pow_add]
     congr 2
     omega
    rw [e4] at vs
    have hvr := av_range vin
    have hc : c = 0 := by
     rcases (by omega : c = 0 ∨ 1 ≤ c) with g | g
     ·exact g
     ·have := Int.mul_le_mul_of_nonneg_right g (show 0 ≤ MM by have := MM_pos; omega)
      omega
    subst hc
    refine Yld.bindE (signed_y FF _ vin) (Yld.some ?_)
    have e5 : av v = m * 2 ^ k := by omega
    rw [na, e5, sh_sign hm]
theorem power_y (F : Nat) {k : Nat} (hk : k ≤ 256) : Yld (r3_power_S F (k : Int)) fun l => inD 65536 l ∧ lv l = 2 ^ k ∧ l.length ≤ 17 := by
 unfold r3_power_S
 have hq : IntKind.i64.wrap (Int.tdiv (k : Int) 16) = ((k / 16 : Nat) : Int) := by rw [tdiv_pos (by omega), wi64]; omega
 have hr : Int.tmod (k : Int) 16 = ((k % 16 : Nat) : Int) := by rw [tmod_pos (by omega)]; omega
 refine Yld.quo (by decide) ?_
 rw [hq, hr]
 have hw : IntKind.i64.wrap (((k / 16 : Nat) : Int) + 1) = ((k / 16 + 1 : Nat) : Int) := by rw [wi64]; omega
 rw [hw]
 have hmk : mk? (0 : Int) ((k / 16 + 1 : Nat) : Int) ((k / 16 + 1 : Nat) : Int) = some (List.replicate (k / 16 + 1) 0) := by
  unfold mk?
  rw [if_pos (by omega), Int.toNat_natCast]
 refine Yld.bindE hmk (Yld.quo (by decide) ?_)
 have hs : shl? .i64 1 ((k % 16 : Nat) : Int) = some (2 ^ (k % 16)) := by
  unfold shl?
  have hmin : min ((k % 16 : Nat) : Int).toNat IntKind.i64.bits = k % 16 := by
   rw [Int.toNat_natCast]
   show min (k % 16) 64 = k % 16
   omega
  have hb : (2 : Int) ^ (k % 16) ≤ 2 ^ 15 := pow2_le (by omega)
  have hp := pow2_pos' (k % 16)
  have e15 : (2 : Int) ^ 15 = 32768 := by decide
  rw [if_neg (by omega), hmin, Int.one_mul, wi64' (by omega) (by omega)]
 refine Yld.bindE hs (Yld.idx (by omega) (by rw [List.length_replicate]; omega) (Yld.some ?_))
 have hb : (2 : Int) ^ (k % 16) ≤ 2 ^ 15 := pow2_le (by omega)
 have hp := pow2_pos' (k % 16)
 have e15 : (2 : Int) ^ 15 = 32768 := by decide
 have hl : ((List.replicate (k / 16 + 1) (0 : Int)).set (((k / 16 : Nat) : Int)).toNat (2 ^ (k % 16))).length = k / 16 + 1 := by rw [List.length_set, List.length_replicate]
 rw [hq]
 refine ⟨?_, ?_, by rw [hl]; omega⟩
 ·rw [Int.toNat_natCast]
  exact set_inl (by rw [List.length_replicate]; omega) (rep_in _) (by omega)
 ·unfold lv
  rw [hl, Int.toNat_natCast, ds_setl (by omega) (by rw [List.length_replicate]; omega)]
  have e0 : ds 65536 (dg (List.replicate (k / 16 + 1) 0)) (k / 16 + 1) = 0 := ds_zero fun i _ => dg_replicate
  rw [e0, dg_replicate]
  have e1 : (65536 : Int) ^ (k / 16) = 2 ^ (16 * (k / 16)) := by rw [Int.pow_mul]; rfl
  have e2 : (2 : Int) ^ (k % 16) * 2 ^ (16 * (k / 16)) = 2 ^ k := by rw [← Int.pow_add]; congr 1; omega
  rw [e1, ← e2, Int.sub_zero, Int.zero_add]
theorem rShift_n {a : Int} {k : Nat} (ra : InM a) (hk : k ≤ 256) : r3_Shift_S FF (big a) (k : Int) = some (big (a * 2 ^ k)) := by
 refine Yld.eq ?_
 unfold r3_Shift_S
 obtain ⟨_, na⟩ := sv_big_W ra
 refine Yld.bindE (rGood_y FF2 (big_in a)) ?_
 rw [goodB_big ra]
 refine Yld.iff rfl (Yld.bind (dig_y FF2 ra) ?_)
 rintro c ⟨c1, c2, c3, c4⟩
 have hl := len_pos c1 c2
 rw [c3] at hl
 refine Yld.ite (fun h => ?_) (fun h => ?_)
 ·have hz : a = 0 := by
   rw [← absZ_zero]
   have := of_decide_eq_true h
   by_cases e : absZ a = 0
   ·exact e
   ·have := hl.2 e; omega
  subst hz
  rw [Int.zero_mul]
  exact Yld.some rfl
 ·refine Yld.iff (decide_eq_false (by omega)) (Yld.ift (decide_eq_true (by omega)) (Yld.bind (dig_y FF2 ra) ?_))
  rintro d ⟨d1, d2, d3, d4⟩
  refine Yld.bind (power_y FF hk) ?_
  rintro p ⟨p1, p2, p3⟩
  refine Yld.bind (times_y FF2 d1 p1 (by omega) (by omega)) ?_
  rintro t ⟨t1, _, t3, t4⟩
  refine Yld.bindE (num_y FF2 _ (by omega) t1) (Yld.some ?_)
  rw [t3, d3, p2, na, sh_sign rfl]
end Go.Proofs.YtdjnlmmhbeeihaaGreatDoor

namespace Go.Proofs.YtdjnlmmhbeeihaaGreatDoor
open Go Go.Sk
set_option linter.unusedSimpArgs false
set_option linter.unusedVariables false
theorem mk_eq (r : Rat) : mk r = ⟨big r.num, big r.den⟩ := by simp only [mk]
def cmpR (r s : Rat) : Int := if r < s then -1 else if s < r then 1 else 0
theorem cross_r (r s : Rat) : cross r.num r.den s.num s.den = cmpR r s := by
 unfold cross cmpZ cmpR
 simp only [Rat.lt_iff]
def cmpF (x y : Frc) : Int := match qF x, qF y with
 | none, none => 0
 | none, some _ => -1
 | some _, none => 1
 | some r, some s => cmpR r s
theorem cmpZ_rng (a b : Int) : -1 ≤ cmpZ a b ∧ cmpZ a b ≤ 1 := by unfold cmpZ; split <;> (try split) <;> omega
theorem sg_mul {o c : Int} (ho : o = 1 ∨ o = -1) (hc : -1 ≤ c ∧ c ≤ 1) : IntKind.i64.wrap (o * c) = o * c := by
 refine wi64' ?_ ?_ <;> rcases ho with rfl | rfl <;> omega
theorem sgn_nn {z : Int} (h : 0 ≤ z) : 0 ≤ sgn z ∧ sgn z ≤ 1 := by unfold sgn; split <;> (try split) <;> omega
theorem dec_sgn {z : Int} : decide (sgn z = 0) = decide (z = 0) := sgn_zero
structure CmpI (c : Int) (p q r s o : Int) : Prop where
 ip : InM p
 iq : InM q
 ir : InM r
 is : InM s
 q0 : 0 < q
 s0 : 0 < s
 o1 : o = 1 ∨ o = -1
 val : o * cross p q r s = c
theorem CmpI.next {c p q r s o : Int} (h : CmpI c p q r s o) (he : p / q = r / s) (h1 : p % q ≠ 0) (h2 : r % s ≠ 0) : CmpI c q (p % q) s (r % s) (-o) := by
 have a0 := Int.emod_nonneg p (show q ≠ 0 by have := h.q0; omega)
 have a1 := Int.emod_lt_of_pos p h.q0
 have b0 := Int.emod_nonneg r (show s ≠ 0 by have := h.s0; omega)
 have b1 := Int.emod_lt_of_pos r h.s0
 have := h.iq.2
 have := h.is.2
 have := MM_pos
 refine ⟨h.iq, ⟨by omega, by omega⟩, h.is, ⟨by omega, by omega⟩, by omega, by omega, by have := h.o1; omega, ?_⟩
 rw [← h.val, cross_next he, Int.neg_mul, Int.mul_neg]
theorem CmpI.start {r s : Rat} (hr : fits r) (hs : fits s) : CmpI (cmpR r s) r.num r.den s.num s.den 1 :=
 ⟨hr.1, hr.2, hs.1, hs.2, den_pos r, den_pos s, .inl rfl, by rw [Int.one_mul, cross_r]⟩
theorem cmpZ_zero {a b : Int} : cmpZ a b = 0 ↔ a = b := by unfold cmpZ; split <;> (try split) <;> omega
def dn (x : Big) : Nat := match iv x with
 | some d => d.toNat
 | none => 0
theorem dn_big {d : Int} (h : InM d) : dn (big d) = d.toNat := by unfold dn; rw [iv_big h]
theorem dn_lt {r : Rat} (h : fits r) : dn (big r.den) < FF := by
 have h1 := h.2.2
 have h2 := FF_MM
 rw [dn_big h.2]
 omega
theorem Cmp_f {x y : Frc} (hx : inF x) (hy : inF y) : ratio_Cmp_S FF x y = some (cmpF x y) := by
 refine Yld.eq ?_
 unfold ratio_Cmp_S cmpF
 refine Yld.bindE (Good_f hx) (Yld.bindE (Good_f hy) ?_)
 cases hq : qF x with
 | none =>
  cases hq2 : qF y with
  | none => exact Yld.ift rfl (Yld.some rfl)
  | some s => exact Yld.iff rfl (Yld.ift rfl (Yld.some rfl))
 | some r =>
  cases hq2 : qF y with
  | none => exact Yld.iff rfl (Yld.iff rfl (Yld.ift rfl (Yld.some rfl)))
  | some s =>
   obtain ⟨hr, rfl⟩ := qF_some hx hq
   obtain ⟨hs, rfl⟩ := qF_some hy hq2
   refine Yld.iff rfl (Yld.iff rfl (Yld.iff rfl ?_))
   refine Yld.bind (P := fun z => z = cmpR r s) (Yld.loop (fun st : Frc × Frc × Int => ∃ p q u v, st.1 = ⟨big p, big q⟩ ∧ st.2.1 = ⟨big u, big v⟩ ∧ CmpI (cmpR r s) p q u v st.2.2) (fun st => dn st.1.D) ⟨r.num, r.den, s.num, s.den, mk_eq r, mk_eq s, CmpI.start hr hs⟩ ?_ ?_) (fun z hz => Yld.some hz)
   ·rw [mk_D]; exact dn_lt hr
   ·rintro ⟨_, _, o⟩ ⟨p, q, u, v, rfl, rfl, hI⟩
    dsimp only at hI
    dsimp only [un3]
    have hq0 : q ≠ 0 := by have := hI.q0; omega
    have hv0 : v ≠ 0 := by have := hI.s0; omega
    refine Yld.bindE (Quo_v hI.ip hI.iq hq0) (Yld.bindE (Quo_v hI.ir hI.is hv0) (Yld.bindE (Cmp_v (fq_rng hq0 hI.ip) (fq_rng hv0 hI.ir)) ?_))
    obtain ⟨f1, g1⟩ := fq_fr_pos p hI.q0
    obtain ⟨f2, g2⟩ := fq_fr_pos u hI.s0
    rw [f1, f2]
    refine Yld.ite (fun h => ?_) (fun h => ?_)
    ·have h' : cmpZ (p / q) (u / v) ≠ 0 := of_decide_eq_true h
     refine Yld.some (.inr ⟨_, rfl, ?_⟩)
     rw [sg_mul hI.o1 (cmpZ_rng _ _), ← hI.val, cross_floor hI.q0 hI.s0 h']
    ·have h' : cmpZ (p / q) (u / v) = 0 := by have := of_decide_eq_false h; omega
     have he := cmpZ_zero.1 h'
     refine Yld.bindE (Rem_v hI.ip hI.iq hq0) (Yld.bindE (Rem_v hI.ir hI.is hv0) (Yld.bindE (Sign_v (fr_rng hq0 hI.iq)) (Yld.bindE (Sign_v (fr_rng hv0 hI.is)) ?_)))
     rw [g1, g2, dec_sgn, dec_sgn]
     have a0 := Int.emod_nonneg p hq0
     have b0 := Int.emod_nonneg u hv0
     have a1 := Int.emod_lt_of_pos p hI.q0
     refine Yld.ite (fun h => ?_) (fun h => ?_)
     ·simp only [Bool.or_eq_true, decide_eq_true_eq] at h
      refine Yld.ln (Yld.some (.inr ⟨_, rfl, ?_⟩))
      have c1 := sgn_nn a0
      have c2 := sgn_nn b0
      rw [wi64' (z := sgn (p % q) - sgn (u % v)) (by omega) (by omega), sg_mul hI.o1 (by omega), ← hI.val, cross_end hI.q0 hI.s0 he h]
     ·simp only [Bool.or_eq_false_iff, decide_eq_false_iff_not] at h
      have ho : IntKind.i64.wrap (-o) = -o := by have := hI.o1; exact wi64' (by omega) (by omega)
      have hn := hI.next he h.1 h.2
      refine Yld.some (.inl ⟨_, rfl, ⟨_, _, _, _, rfl, rfl, by dsimp only; rw [ho]; exact hn⟩, ?_⟩)
      dsimp only
      rw [dn_big hI.iq, dn_big hn.iq]
      omega
end Go.Proofs.YtdjnlmmhbeeihaaGreatDoor

namespace Go.Proofs.YtdjnlmmhbeeihaaGreatDoor
open Go Go.Sk
set_option linter.unusedSimpArgs false
set_option linter.unusedVariables false
def nearZ (r : Rat) : Int := if (r.den : Int) ≤ 2 * (r.num % r.den) then r.floor + 1 else r.floor
theorem cmpZ_nn {a b : Int} : decide (0 ≤ cmpZ a b) = decide (b ≤ a) := by
 rw [decide_eq_decide]; unfold cmpZ; split <;> (try split) <;> omega
theorem mod_rng (r : Rat) : 0 ≤ r.num % r.den ∧ r.num % r.den < r.den := by
 have h := den_pos r
 exact ⟨Int.emod_nonneg _ (by omega), Int.emod_lt_of_pos _ h⟩
theorem Near_f {x : Frc} (hx : inF x) : ratio_Near_S FF x = some (unB nearZ x) := by
 refine Yld.eq ?_
 unfold ratio_Near_S
 refine Yld.bindE (Floor_f hx) ?_
 cases hq : qF x with
 | none => rw [unB_none hq, unB_none hq]; exact Yld.ift rfl (Yld.some rfl)
 | some r =>
  obtain ⟨hf, rfl⟩ := qF_some hx hq
  have h0 := den_pos r
  have hd := hf.2.2
  have hm := mod_rng r
  have hM := MM_pos
  rw [unB_some hq, unB_some hq, big_Bad, decide_eq_true (floor_in hf), mk_N, mk_D]
  refine Yld.iff rfl (Yld.bindE (Rem_v hf.1 hf.2 (by omega)) ?_)
  rw [(fq_fr_pos r.num h0).2]
  refine Yld.bindE (Sub_v hf.2 ⟨by omega, by omega⟩) (Yld.bindE (Cmp_v ⟨by omega, by omega⟩ ⟨by omega, by omega⟩) ?_)
  rw [cmpZ_nn]
  unfold nearZ
  refine Yld.ite (fun h => ?_) (fun h => ?_)
  ·rw [if_pos (by have := of_decide_eq_true h; omega)]
   exact Yld.bindE one_y (Yld.bindE (Add_v (floor_in hf) one_InM) (Yld.some rfl))
  ·rw [if_neg (by have := of_decide_eq_false h; omega)]
   exact Yld.some rfl
abbrev ngB (x : Big) : Big := one (fun a => some (-a)) x
noncomputable def dyL (r : Rat) (k : Nat) : Frc := mkB (two quoO (big (r.num * 2 ^ k)) (big r.den)) (big (1 * 2 ^ k))
noncomputable def dyH (r : Rat) (k : Nat) : Frc := mkB (ngB (two quoO (ngB (big (r.num * 2 ^ k))) (big r.den))) (big (1 * 2 ^ k))
noncomputable def dyF (x : Frc) (k : Int) : Frc × Frc := match qF x with
 | some r => if k < 0 ∨ 256 < k then (bf, bf) else if ((qF (dyL r k.toNat)).isSome && (qF (dyH r k.toNat)).isSome) = true then (dyL r k.toNat, dyH r k.toNat) else (bf, bf)
 | none => (bf, bf)
theorem Dyadic_f {x : Frc} (hx : inF x) {k : Int} : ratio_Dyadic_S FF x k = some (dyF x k) := by
  refine Yld.eq ?_
  unfold ratio_Dyadic_S dyF
  refine Yld.bindE (Good_f hx) ?_
  cases hq : qF x with
  | none => exact Yld.ift rfl (Yld.bindE Bad_f (Yld.bindE Bad_f (Yld.some rfl)))
  | some r =>
    obtain ⟨hf, rfl⟩ := qF_some hx hq
    dsimp only
    by_cases hk : k < 0 ∨ 256 < k
    · rw [if_pos hk]
      refine Yld.ift ?_ (Yld.bindE Bad_f (Yld.bindE Bad_f (Yld.some rfl)))
      rcases hk with h | h <;> simp [h]
    · rw [if_neg hk]
      refine Yld.iff (by have h1 : ¬ k < 0 := by omega
                         have h2 : ¬ 256 < k := by omega
                         simp [h1, h2]) ?_
      obtain ⟨n, rfl⟩ : ∃ n : Nat, k = n := ⟨k.toNat, by omega⟩
      rw [Int.toNat_natCast, mk_N, mk_D]
      have hn : n ≤ 256 := by omega
      refine Yld.bindE (Shift_n hf.1 hn) (Yld.bindE one_y (Yld.bindE (Shift_n one_InM hn) (Yld.bindE (Quo_y FFb (big_in _) (big_in _)) (Yld.bindE (Make_f (two_in _ _ _) (big_in _)) ?_))))
      refine Yld.bindE (Neg_y FF1 (big_in _)) (Yld.bindE (Quo_y FFb (one_in _ _) (big_in _)) (Yld.bindE (Neg_y FF1 (two_in _ _ _)) (Yld.bindE (Make_f (one_in _ _) (big_in _)) ?_)))
      refine Yld.bindE (Good_f (mkB_in _ _)) ?_
      change Yld ((gcall (!!(qF (dyL r n)).isSome) (ratio_Good_S FF (dyH r n))).bind fun x_14 => if (!(qF (dyL r n)).isSome || !x_14) = true then (ratio_Bad_S FF).bind fun x_15 => (ratio_Bad_S FF).bind fun x_16 => some (x_15, x_16) else some (dyL r n, dyH r n)) _
      cases h1 : (qF (dyL r n)).isSome with
      | false => exact Yld.g0 rfl (Yld.ift rfl (Yld.bindE Bad_f (Yld.bindE Bad_f (Yld.some rfl))))
      | true =>
        refine Yld.g1 rfl (Yld.bindE (Good_f (mkB_in _ _)) ?_)
        change Yld (if (!true || !(qF (dyH r n)).isSome) = true then (ratio_Bad_S FF).bind fun x_15 => (ratio_Bad_S FF).bind fun x_16 => some (x_15, x_16) else some (dyL r n, dyH r n)) _
        cases h2 : (qF (dyH r n)).isSome with
        | false => exact Yld.ift rfl (Yld.bindE Bad_f (Yld.bindE Bad_f (Yld.some rfl)))
        | true => exact Yld.iff rfl (Yld.some rfl)
end Go.Proofs.YtdjnlmmhbeeihaaGreatDoor

namespace Go.Proofs.YtdjnlmmhbeeihaaGreatDoor
open Go Go.Sk
set_option linter.unusedSimpArgs false
set_option linter.unusedVariables false
theorem qF_ofR_val {a u : Rat} (h : qF (ofR a) = some u) : u = a := by
 rw [qF_ofR] at h
 split at h
 ·exact (Option.some.inj h).symm
 ·cases h
theorem val_add {X Y : Frc} {u : Rat} (h : qF (bi addR X Y) = some u) : ∃ a b, qF X = some a ∧ qF Y = some b ∧ u = a + b := by
 cases h1 : qF X with
 | none => rw [bi_none1 h1, qF_bf] at h; cases h
 | some a =>
  cases h2 : qF Y with
  | none => rw [bi_none2 h2, qF_bf] at h; cases h
  | some b =>
   rw [bi_some h1 h2] at h
   rcases addR_or a b with e | e
   ·rw [e] at h; exact ⟨a, b, rfl, rfl, qF_ofR_val h⟩
   ·rw [e, qF_bf] at h; cases h
theorem val_sub {X Y : Frc} {u : Rat} (h : qF (bi subR X Y) = some u) : ∃ a b, qF X = some a ∧ qF Y = some b ∧ u = a - b := by
 cases h1 : qF X with
 | none => rw [bi_none1 h1, qF_bf] at h; cases h
 | some a =>
  cases h2 : qF Y with
  | none => rw [bi_none2 h2, qF_bf] at h; cases h
  | some b =>
   rw [bi_some h1 h2] at h
   unfold subR at h
   rcases addR_or a (-b) with e | e
   ·rw [e] at h; exact ⟨a, b, rfl, rfl, by rw [Rat.sub_eq_add_neg]; exact qF_ofR_val h⟩
   ·rw [e, qF_bf] at h; cases h
theorem add_in (x y : Frc) : inF (bi addR x y) := bi_in addR_in x y
theorem sub_in (x y : Frc) : inF (bi subR x y) := bi_in (fun r s => addR_in _ _) x y
theorem unN_mk {r : Rat} (h : fits r) : un (fun r => ofR (-r)) (mk r) = mk (-r) := by
 rw [un_some (qF_mk h), ofR_fits (neg_fits h)]
theorem unN_in (x : Frc) : inF (un (fun r => ofR (-r)) x) := un_in (fun r => ofR_in _) x
theorem cmpR_sw (r s : Rat) : cmpR r s = -cmpR s r := by
 unfold cmpR
 by_cases h1 : r < s
 ·have h2 : ¬ s < r := by grind
  simp [h1, h2]
 ·by_cases h2 : s < r
  ·simp [h1, h2]
  ·simp [h1, h2]
theorem cmpF_some {x y : Frc} {r s : Rat} (h : qF x = some r) (h2 : qF y = some s) : cmpF x y = cmpR r s := by unfold cmpF; rw [h, h2]
theorem cmpR_le {r s : Rat} : cmpR r s ≤ 0 ↔ r ≤ s := by
 unfold cmpR
 by_cases h1 : r < s
 ·simp only [h1, if_true]
  exact ⟨fun _ => Rat.le_of_lt h1, fun _ => by decide⟩
 ·by_cases h2 : s < r
  ·simp only [h1, h2, if_true, if_false]
   exact ⟨fun h => absurd h (by decide), fun h => by grind⟩
  ·simp only [h1, h2, if_false]
   exact ⟨fun _ => by grind, fun _ => by decide⟩
end Go.Proofs.YtdjnlmmhbeeihaaGreatDoor

namespace Go.Proofs.YtdjnlmmhbeeihaaGreatDoor
open Go Go.Sk
set_option maxRecDepth 100000
theorem sanity_y : l4_sanity_S FF = some true := by
 unfold l4_sanity_S l4_text_S ratio_Text_S whole_Text_S
 simp only [itoa_S_K]
 decide +kernel
end Go.Proofs.YtdjnlmmhbeeihaaGreatDoor

namespace Go.Proofs.YtdjnlmmhbeeihaaGreatDoor
open Go Go.Sk
set_option linter.unusedSimpArgs false
set_option linter.unusedVariables false
theorem mk_inj {a b : Rat} (ha : fits a) (hb : fits b) : mk a = mk b ↔ a = b := ⟨fun h => by
 have h6 := qF_mk ha
 rw [h, qF_mk hb] at h6
 exact (Option.some.inj h6).symm, fun h => by rw [h]⟩
theorem val_div {X Y : Frc} {u : Rat} (h : qF (bi divR X Y) = some u) : ∃ a b, qF X = some a ∧ qF Y = some b ∧ u = a / b := by
 cases h1 : qF X with
 | none => rw [bi_none1 h1, qF_bf] at h; cases h
 | some a =>
  cases h2 : qF Y with
  | none => rw [bi_none2 h2, qF_bf] at h; cases h
  | some b =>
   rw [bi_some h1 h2] at h
   unfold divR at h
   split at h
   ·rw [qF_bf] at h; cases h
   ·exact ⟨a, b, rfl, rfl, qF_ofR_val h⟩
theorem div_in (x y : Frc) : inF (bi divR x y) := bi_in divR_in x y
theorem cast_pos {z : Int} (h : 0 < z) : (0 : Rat) < (z : Rat) := Rat.intCast_pos.2 h
theorem r_mul (r : Rat) : r * ((r.den : Int) : Rat) = (r.num : Rat) := by
 have h := rat_q r
 have h0 := cast_pos (den_pos r)
 have h1 : r * ((r.den : Int) : Rat) = (r.num : Rat) / ((r.den : Int) : Rat) * ((r.den : Int) : Rat) := congrArg (· * ((r.den : Int) : Rat)) h
 rw [h1, Rat.div_mul_cancel (by grind)]
theorem d_mul (a : Int) {P : Int} (h : 0 < P) : Rat.divInt a P * (P : Rat) = (a : Rat) := by
 have h0 := cast_pos h
 rw [divInt_q, Rat.div_mul_cancel (by grind)]
theorem fl_parts (r : Rat) : r.num = r.floor * r.den + r.num % r.den := by
 rw [Rat.floor_def]
 have := Int.mul_ediv_add_emod r.num r.den
 rw [Int.mul_comm] at this
 exact this.symm
theorem fl_eq (r : Rat) : (r - r.floor) * ((r.den : Int) : Rat) = ((r.num % r.den : Int) : Rat) := by
 have h := r_mul r
 have h2 : (r.num : Rat) = (r.floor : Rat) * ((r.den : Int) : Rat) + ((r.num % r.den : Int) : Rat) := by
  rw [← Rat.intCast_mul, ← Rat.intCast_add, ← fl_parts r]
 rw [Rat.sub_eq_add_neg, Rat.add_mul, h, h2, Rat.neg_mul]
 grind
theorem ceil_fl (r : Rat) (h : r.num % r.den ≠ 0) : r.ceil = r.floor + 1 := by
 have hm := mod_rng r
 have h0 := den_pos r
 have hf : (r.floor : Rat) < r := by
  have h1 := fl_eq r
  have h2 := cast_pos (z := r.num % r.den) (by omega)
  have h3 := cast_pos h0
  rw [← h1] at h2
  have := (Rat.mul_pos_iff_of_pos_right h3).1 h2
  grind
 have h2 := Rat.lt_floor_add_one r
 have e1 : r.ceil ≤ r.floor + 1 := Rat.ceil_le_iff.2 (Rat.le_of_lt h2)
 have e2 : r.floor < r.ceil := Rat.lt_ceil_iff.2 hf
 omega
theorem near_or (r : Rat) : nearZ r = r.floor ∨ nearZ r = r.ceil := by
 unfold nearZ
 split
 ·next h =>
  have := den_pos r
  exact .inr (ceil_fl r (by omega)).symm
 ·exact .inl rfl
theorem near_in {r : Rat} (h : fits r) : InM (nearZ r) := by
 rcases near_or r with e | e <;> rw [e]
 ·exact floor_in h
 ·exact ceil_in h
theorem near_rng (r : Rat) : (nearZ r : Rat) - r ≤ 1 / 2 ∧ -(1 / 2) < (nearZ r : Rat) - r := by
 have h0 := cast_pos (den_pos r)
 have h1 := fl_eq r
 have hm := mod_rng r
 have m0 : (0 : Rat) ≤ ((r.num % r.den : Int) : Rat) := Rat.intCast_nonneg.2 hm.1
 have m1 : ((r.num % r.den : Int) : Rat) < ((r.den : Int) : Rat) := Rat.intCast_lt_intCast.2 hm.2
 have key : (((r.den : Int) : Rat) ≤ 2 * ((r.num % r.den : Int) : Rat)) ↔ (r.den : Int) ≤ 2 * (r.num % r.den) := by
  have e : (2 : Rat) * ((r.num % r.den : Int) : Rat) = ((2 * (r.num % r.den) : Int) : Rat) := by rw [Rat.intCast_mul]; rfl
  rw [e, Rat.intCast_le_intCast]
 unfold nearZ
 generalize ((r.den : Int) : Rat) = D at *
 generalize hR : ((r.num % r.den : Int) : Rat) = R at *
 generalize hf : r - r.floor = f at *
 have f0 : 0 ≤ f := by
  rw [← Rat.not_lt]; intro h
  have := (Rat.mul_neg_iff_of_pos_right h0).2 h
  grind
 have f1 : f < 1 := by
  rw [← Rat.not_le]; intro h
  have := Rat.mul_le_mul_of_nonneg_right h (Rat.le_of_lt h0)
  grind
 split
 ·next h =>
  have h2 := key.2 h
  have f2 : 1 / 2 ≤ f := by
   rw [← Rat.not_lt]; intro h3
   have := Rat.mul_lt_mul_of_pos_right h3 h0
   grind
  have e : ((r.floor + 1 : Int) : Rat) = (r.floor : Rat) + 1 := by rw [Rat.intCast_add]; rfl
  rw [e]
  exact ⟨by grind, by grind⟩
 ·next h =>
  have h2 : ¬ D ≤ 2 * R := fun h3 => h (key.1 h3)
  have f2 : f < 1 / 2 := by
   rw [← Rat.not_le]; intro h3
   have := Rat.mul_le_mul_of_nonneg_right h3 (Rat.le_of_lt h0)
   grind
  exact ⟨by grind, by grind⟩
theorem mkB_val {a b : Big} {u : Rat} (h : qF (mkB a b) = some u) : ∃ p q, iv a = some p ∧ iv b = some q ∧ u = Rat.divInt p q := by
 cases h1 : iv a with
 | none => rw [mkB_bad1 h1, qF_bf] at h; cases h
 | some p =>
  cases h2 : iv b with
  | none => rw [mkB_bad2 h2, qF_bf] at h; cases h
  | some q =>
   unfold mkB at h
   rw [h1, h2] at h
   dsimp only at h
   split at h
   ·rw [qF_bf] at h; cases h
   ·exact ⟨p, q, rfl, rfl, qF_ofR_val h⟩
theorem iv_big_some {z p : Int} (h : iv (big z) = some p) : InM z ∧ p = z := by
 rw [iv_big'] at h
 split at h
 ·next hi => exact ⟨hi, (Option.some.inj h).symm⟩
 ·cases h
theorem two_some {f : Int → Int → Option Int} {x y : Big} {p : Int} (h : iv (two f x y) = some p) : ∃ a b, iv x = some a ∧ iv y = some b ∧ iv (toB (f a b)) = some p := by
 unfold two at h
 cases h1 : iv x with
 | none => rw [h1] at h; dsimp only at h; rw [iv_bad] at h; cases h
 | some a =>
  cases h2 : iv y with
  | none => rw [h1, h2] at h; dsimp only at h; rw [iv_bad] at h; cases h
  | some b => rw [h1, h2] at h; exact ⟨a, b, rfl, rfl, h⟩
theorem one_some {f : Int → Option Int} {x : Big} {p : Int} (h : iv (one f x) = some p) : ∃ a, iv x = some a ∧ iv (toB (f a)) = some p := by
 unfold one at h
 cases h1 : iv x with
 | none => rw [h1] at h; dsimp only at h; rw [iv_bad] at h; cases h
 | some a => rw [h1] at h; exact ⟨a, rfl, h⟩
theorem quo_some {a b p : Int} (h0 : 0 < b) (h : iv (toB (quoO a b)) = some p) : p = a / b := by
 unfold quoO at h
 rw [if_neg (by omega), toB_some] at h
 rw [(iv_big_some h).2, (fq_fr_pos a h0).1]
theorem dyL_val {r u : Rat} {n : Nat} (h : qF (dyL r n) = some u) : u = Rat.divInt (r.num * 2 ^ n / r.den) (2 ^ n) := by
 obtain ⟨p, q, h1, h2, rfl⟩ := mkB_val h
 obtain ⟨a, b, h3, h4, h5⟩ := two_some h1
 obtain ⟨_, rfl⟩ := iv_big_some h3
 obtain ⟨_, rfl⟩ := iv_big_some h4
 obtain ⟨_, rfl⟩ := iv_big_some h2
 rw [quo_some (den_pos r) h5, Int.one_mul]
theorem dyH_val {r u : Rat} {n : Nat} (h : qF (dyH r n) = some u) : u = Rat.divInt (-(-(r.num * 2 ^ n) / r.den)) (2 ^ n) := by
 obtain ⟨p, q, h1, h2, rfl⟩ := mkB_val h
 obtain ⟨c, h6, h7⟩ := one_some h1
 obtain ⟨a, b, h3, h4, h5⟩ := two_some h6
 obtain ⟨d, h8, h9⟩ := one_some h3
 obtain ⟨_, rfl⟩ := iv_big_some h8
 obtain ⟨_, rfl⟩ := iv_big_some h4
 obtain ⟨_, rfl⟩ := iv_big_some h2
 rw [toB_some] at h7 h9
 rw [(iv_big_some h7).2, quo_some (den_pos r) h5, (iv_big_some h9).2, Int.one_mul]
theorem ends (M : Int) {d : Int} (h : 0 < d) : (M / d * d ≤ M ∧ M ≤ -(-M / d) * d) ∧ (-(-M / d) = M / d ∧ M / d * d = M ∨ -(-M / d) = M / d + 1) := by
 have e1 := Int.mul_ediv_add_emod M d
 have e2 := Int.mul_ediv_add_emod (-M) d
 have a1 := Int.emod_nonneg M (show d ≠ 0 by omega)
 have a2 := Int.emod_lt_of_pos M h
 have b1 := Int.emod_nonneg (-M) (show d ≠ 0 by omega)
 have b2 := Int.emod_lt_of_pos (-M) h
 rw [Int.mul_comm] at e1 e2
 generalize M / d = p at *
 generalize -M / d = q at *
 generalize M % d = e at *
 generalize -M % d = f at *
 have e3 : (p + q) * d = -(e + f) := by rw [Int.add_mul]; omega
 have e4 : -q * d = -(q * d) := Int.neg_mul _ _
 refine ⟨⟨by omega, by omega⟩, ?_⟩
 have c1 : p + q = 0 ∨ p + q = -1 := by
  rcases (by omega : p + q ≤ -2 ∨ p + q = -1 ∨ p + q = 0 ∨ 1 ≤ p + q) with g | g | g | g
  ·have := Int.mul_le_mul_of_nonneg_right g (Int.le_of_lt h); omega
  ·exact .inr g
  ·exact .inl g
  ·have := Int.mul_le_mul_of_nonneg_right g (Int.le_of_lt h); omega
 rcases c1 with g | g
 ·left
  rw [g, Int.zero_mul] at e3
  exact ⟨by omega, by omega⟩
 ·right; omega
theorem le_step {r : Rat} {a P : Int} (hP : 0 < P) : (a * r.den ≤ r.num * P ↔ Rat.divInt a P ≤ r) ∧ (r.num * P ≤ a * r.den ↔ r ≤ Rat.divInt a P) := by
 have h1 := r_mul r
 have h2 := d_mul a hP
 have h3 := cast_pos (den_pos r)
 have h4 := cast_pos hP
 have h5 := Rat.mul_pos h4 h3
 rw [← Rat.intCast_le_intCast, ← Rat.intCast_le_intCast, Rat.intCast_mul, Rat.intCast_mul, ← h1, ← h2]
 generalize ((r.den : Int) : Rat) = D at *
 generalize (P : Rat) = Q at *
 generalize Rat.divInt a P = v at *
 have e1 : v * Q * D = v * (Q * D) := Rat.mul_assoc _ _ _
 have e2 : r * D * Q = r * (Q * D) := by grind
 rw [e1, e2]
 exact ⟨⟨fun h => Rat.le_of_mul_le_mul_right h h5, fun h => Rat.mul_le_mul_of_nonneg_right h (Rat.le_of_lt h5)⟩, ⟨fun h => Rat.le_of_mul_le_mul_right h h5, fun h => Rat.mul_le_mul_of_nonneg_right h (Rat.le_of_lt h5)⟩⟩
theorem div_sub (a b : Int) {P : Int} (hP : 0 < P) : Rat.divInt a P - Rat.divInt b P = Rat.divInt (a - b) P := by
 have h1 := d_mul a hP
 have h2 := d_mul b hP
 have h3 := d_mul (a - b) hP
 have h4 := cast_pos hP
 rw [Int.sub_eq_add_neg, Rat.intCast_add, Rat.intCast_neg] at h3
 rw [Int.sub_eq_add_neg]
 generalize Rat.divInt (a + -b) P = w at *
 generalize Rat.divInt a P = u at *
 generalize Rat.divInt b P = v at *
 generalize (P : Rat) = Q at *
 grind
theorem div_unit (a : Int) {P : Int} (hP : 0 < P) : Rat.divInt a P / Rat.divInt 1 P = (a : Rat) := by
 have h4 := cast_pos hP
 rw [divInt_q, divInt_q]
 have e : ((1 : Int) : Rat) = 1 := rfl
 rw [e]
 generalize (P : Rat) = Q at *
 grind
theorem half_fits : fits (Rat.divInt 1 2) := red_fits (by decide) one_InM (in64_M (by decide))
theorem half_q : Rat.divInt 1 2 = 1 / 2 := by rw [divInt_q]; rfl
theorem isSome_f {x : Option Rat} {r : Rat} (h : x = some r) : x.isSome = true := by rw [h]; rfl
theorem pw_in {n : Nat} (hn : n ≤ 256) : InM ((2 : Int) ^ n) := by
 have h1 := pow2_le hn
 have h2 := pow2_pos' n
 have eM : MM = 2 ^ 512 := by rw [MM_eq]; decide +kernel
 have h3 : (2 : Int) ^ 256 < 2 ^ 512 := by decide +kernel
 constructor <;> omega
theorem dyF_cases {x : Frc} {r : Rat} {n : Nat} (h : qF x = some r) (hn : n ≤ 256) : dyF x (n : Int) = (bf, bf) ∨ dyF x (n : Int) = (dyL r n, dyH r n) ∧ ∃ u v, qF (dyL r n) = some u ∧ qF (dyH r n) = some v := by
 unfold dyF
 rw [h]
 dsimp only
 rw [if_neg (by omega), Int.toNat_natCast]
 cases h1 : qF (dyL r n) with
 | none => exact .inl (if_neg (by simp))
 | some u =>
  cases h2 : qF (dyH r n) with
  | none => exact .inl (if_neg (by simp))
  | some v => exact .inr ⟨if_pos rfl, u, v, rfl, rfl⟩
theorem cmpR_lt {r s : Rat} : cmpR r s < 0 ↔ r < s := by
 have h1 := @cmpR_le s r
 have h2 := cmpR_sw r s
 rw [← Rat.not_le, ← h1]
 omega
theorem rounds_y {x : Frc} {k : Int} (hx : inF x) (hk : 0 ≤ k ∧ k ≤ 255) : l4_RatioRounds_S FF x k = some true := by
 refine Yld.eq ?_
 unfold l4_RatioRounds_S
 refine Yld.bindE (rGood_f hx) ?_
 cases hq : qF x with
 | none => exact Yld.ift rfl (Yld.bindE sanity_y (Yld.some rfl))
 | some r =>
  obtain ⟨hf, rfl⟩ := qF_some hx hq
  have ff := int_fits (floor_in hf)
  have fc := int_fits (ceil_in hf)
  have fn := int_fits (near_in hf)
  refine Yld.iff rfl (Yld.bindE (Floor_f hx) (Yld.bindE (Whole_f (unB_in _ _)) (Yld.bindE (Ceil_f hx) (Yld.bindE (Whole_f (unB_in _ _)) (Yld.bindE (Near_f hx) (Yld.bindE (Whole_f (unB_in _ _)) ?_))))))
  rw [unB_some hq, unB_some hq, unB_some hq, mkB_one (floor_in hf), mkB_one (ceil_in hf), mkB_one (near_in hf)]
  have hif := mk_in (r.floor : Rat)
  have hic := mk_in (r.ceil : Rat)
  have hin := mk_in (nearZ r : Rat)
  have qf := qF_mk ff
  have qc := qF_mk fc
  have qn := qF_mk fn
  refine Yld.bindE (Good_f hif) ?_
  rw [isSome_f qf]
  refine Yld.g1 rfl (Yld.bindE (Good_f hic) ?_)
  rw [isSome_f qc]
  refine Yld.g1 rfl (Yld.bindE (Good_f hin) ?_)
  rw [isSome_f qn]
  have h1i := mk_in ((1 : Int) : Rat)
  refine Yld.iff rfl (Yld.bindE (Of_f (by decide)) (Yld.bindE (Add_f hif h1i) (Yld.bindE (Frac_f (by decide) (by decide)) (Yld.bindE (Cmp_f hif hx) ?_))))
  rw [cmpF_some qf hq, mkB_big one_InM (in64_M (by decide)) (by decide), ofR_fits half_fits]
  have c1 : ¬ 0 < cmpR (r.floor : Rat) r := by have := cmpR_le.2 (Rat.floor_le r); omega
  rw [decide_eq_false c1]
  refine Yld.g1 rfl (Yld.bindE (Good_f (add_in _ _)) ?_)
  refine Yld.bind (P := fun o => ((qF (bi addR (mk (r.floor : Rat)) (mk ((1 : Int) : Rat)))).isSome && decide (0 ≤ o)) = false) ?_ ?_
  ·cases h3 : qF (bi addR (mk (r.floor : Rat)) (mk ((1 : Int) : Rat))) with
   | none => unfold gcall; rw [if_neg (by simp)]; exact Yld.some rfl
   | some u =>
    obtain ⟨a, b, e1, e2, rfl⟩ := val_add h3
    rw [qf] at e1
    rw [qF_mk (int_fits one_InM)] at e2
    cases e1; cases e2
    unfold gcall
    rw [if_pos (by rfl), Cmp_f hx (add_in _ _), cmpF_some hq h3]
    refine Yld.some ?_
    have h4 := Rat.lt_floor_add_one r
    rw [Rat.intCast_add] at h4
    have := cmpR_lt.2 h4
    simp only [Option.isSome_some, Bool.true_and, decide_eq_false_iff_not]
    omega
  ·intro o ho
   rw [ho]
   refine Yld.g1 rfl (Yld.bindE (Cmp_f hx hic) ?_)
   rw [cmpF_some hq qc]
   have c2 : ¬ 0 < cmpR r (r.ceil : Rat) := by have := cmpR_le.2 (Rat.le_ceil (x := r)); omega
   rw [decide_eq_false c2]
   have c3 : (decide (mk (r.floor : Rat) = mk (r.ceil : Rat)) != decide (mk (r.floor : Rat) = mk r)) = false := by
    have e1 := mk_inj ff fc
    have e2 := mk_inj ff hf
    have e3 : ((r.floor : Rat) = (r.ceil : Rat)) ↔ ((r.floor : Rat) = r) := by
     constructor
     ·intro h
      have a1 := Rat.floor_le r
      have a2 := Rat.le_ceil (x := r)
      grind
     ·intro h
      rw [← h, Rat.floor_intCast, Rat.ceil_intCast]
    have : decide (mk (r.floor : Rat) = mk (r.ceil : Rat)) = decide (mk (r.floor : Rat) = mk r) := by
     rw [decide_eq_decide, e1, e2, e3]
    rw [this]; simp
   rw [c3]
   refine Yld.iff rfl (Yld.bindE (Sub_f hin hx) (Yld.bindE (Good_f (sub_in _ _)) ?_))
   have hh := mk_in (Rat.divInt 1 2)
   have qh := qF_mk half_fits
   have nr := near_rng r
   have step : ∀ {A : Option Bool} {Q : Bool → Prop}, Yld A Q → Yld ((gcall (qF (bi subR (mk (nearZ r : Rat)) (mk r))).isSome (ratio_Cmp_S FF (bi subR (mk (nearZ r : Rat)) (mk r)) (mk (Rat.divInt 1 2)))).bind fun x_22 => (gcall ((qF (bi subR (mk (nearZ r : Rat)) (mk r))).isSome && !decide (0 < x_22)) (ratio_Neg_S FF (mk (Rat.divInt 1 2)))).bind fun x_23 => (gcall ((qF (bi subR (mk (nearZ r : Rat)) (mk r))).isSome && !decide (0 < x_22)) (ratio_Cmp_S FF (bi subR (mk (nearZ r : Rat)) (mk r)) x_23)).bind fun x_24 => if ((qF (bi subR (mk (nearZ r : Rat)) (mk r))).isSome && (decide (0 < x_22) || decide (x_24 ≤ 0))) = true then some false else A) Q := fun {A Q} hA => by
    cases h3 : qF (bi subR (mk (nearZ r : Rat)) (mk r)) with
    | none => exact Yld.g0 rfl (Yld.g0 rfl (Yld.g0 rfl (Yld.iff rfl hA)))
    | some u =>
     obtain ⟨a, b, e1, e2, e3⟩ := val_sub h3
     rw [qn] at e1
     rw [hq] at e2
     cases e1; cases e2
     refine Yld.g1 rfl (Yld.bindE (Cmp_f (sub_in _ _) hh) ?_)
     rw [cmpF_some h3 qh]
     have d1 : ¬ 0 < cmpR u (Rat.divInt 1 2) := by
      have := (cmpR_le (r := u) (s := Rat.divInt 1 2)).2 (by rw [e3, half_q]; exact nr.1)
      omega
     rw [decide_eq_false d1]
     refine Yld.g1 rfl (Yld.bindE (Neg_f hh) (Yld.g1 rfl (Yld.bindE (Cmp_f (sub_in _ _) (unN_in _)) ?_)))
     rw [unN_mk half_fits, cmpF_some h3 (qF_mk (neg_fits half_fits))]
     have d2 : ¬ cmpR u (-Rat.divInt 1 2) ≤ 0 := by
      rw [cmpR_le, e3, half_q, Rat.not_le]; exact nr.2
     rw [decide_eq_false d2]
     exact Yld.iff rfl hA
   refine step ?_
   obtain ⟨n, rfl⟩ : ∃ n : Nat, k = n := ⟨k.toNat, by omega⟩
   have hn : n ≤ 256 := by omega
   rw [wi64' (z := (n : Int)) (by omega) (by omega)]
   refine Yld.bindE (Dyadic_f hx) ?_
   rcases dyF_cases hq hn with e | ⟨e, u, v, hu, hv⟩
   ·rw [e]
    dsimp only [un2]
    refine Yld.bindE (Good_f bf_in) ?_
    rw [qF_bf]
    exact Yld.ift rfl (Yld.bindE sanity_y (Yld.some (by simp)))
   ·rw [e]
    dsimp only [un2]
    have li : inF (dyL r n) := mkB_in _ _
    have hi : inF (dyH r n) := mkB_in _ _
    refine Yld.bindE (Good_f li) ?_
    rw [isSome_f hu]
    have pP := pow2_pos' n
    have pI := pw_in hn
    have uf : fits (Rat.divInt 1 (2 ^ n)) := red_fits (by omega) one_InM pI
    refine Yld.iff rfl (Yld.bindE (rOf_v (by decide) (by decide)) (Yld.bindE (rOf_v (by decide) (by decide)) (Yld.bindE (rShift_n one_InM hn) (Yld.bindE (Make_f (big_in _) (big_in _)) ?_))))
    rw [Int.one_mul, mkB_big one_InM pI (by omega), ofR_fits uf]
    have vu := dyL_val hu
    have vv := dyH_val hv
    obtain ⟨⟨g1, g2⟩, g3⟩ := ends (r.num * 2 ^ n) (den_pos r)
    have l1 := (le_step pP).1.1 g1
    have l2 := (le_step pP).2.1 g2
    have ui := mk_in (Rat.divInt 1 (2 ^ n))
    refine Yld.bindE (Sub_f hi li) (Yld.bindE (Div_f li ui) (Yld.bindE sanity_y (Yld.g1 rfl (Yld.bindE (Cmp_f li hx) ?_))))
    rw [cmpF_some hu hq]
    have c4 : cmpR u r ≤ 0 := by rw [cmpR_le, vu]; exact l1
    rw [decide_eq_true c4]
    refine Yld.g1 rfl (Yld.bindE (Cmp_f hx hi) ?_)
    rw [cmpF_some hq hv]
    have c5 : cmpR r v ≤ 0 := by rw [cmpR_le, vv]; exact l2
    rw [decide_eq_true c5]
    refine Yld.g1 rfl (Yld.bindE (Good_f (sub_in _ _)) ?_)
    have many : ∀ {g : Bool} {Q : Bool → Prop}, g = true → Q true → Yld ((gcall g (ratio_Good_S FF (bi divR (dyL r n) (mk (Rat.divInt 1 (2 ^ n)))))).bind fun x_40 => (gcall (g && !(!x_40)) (r3_Of_S FF 1)).bind fun x_41 => some (g && ((!x_40) || decide ((bi divR (dyL r n) (mk (Rat.divInt 1 (2 ^ n)))).D = x_41)))) Q := fun {g Q} hg hQ => by
     subst hg
     refine Yld.g1 rfl (Yld.bindE (Good_f (div_in _ _)) ?_)
     cases h3 : qF (bi divR (dyL r n) (mk (Rat.divInt 1 (2 ^ n)))) with
     | none => exact Yld.g0 rfl (Yld.some hQ)
     | some w =>
      obtain ⟨a, b, e1, e2, e3⟩ := val_div h3
      rw [hu] at e1
      rw [qF_mk uf] at e2
      cases e1; cases e2
      rw [vu, div_unit _ pP] at e3
      obtain ⟨_, e4⟩ := qF_some (div_in _ _) h3
      refine Yld.g1 rfl (Yld.bindE (rOf_v (by decide) (by decide)) (Yld.some ?_))
      rw [e4, mk_D, e3, (int_nd _).2]
      have : ((1 : Nat) : Int) = 1 := rfl
      rw [this]
      simpa using hQ
    cases h3 : qF (bi subR (dyH r n) (dyL r n)) with
    | none => exact Yld.g0 rfl (many rfl rfl)
    | some w =>
     obtain ⟨a, b, e1, e2, e3⟩ := val_sub h3
     rw [hv] at e1
     rw [hu] at e2
     cases e1; cases e2
     obtain ⟨_, e4⟩ := qF_some (sub_in _ _) h3
     rw [vu, vv, div_sub _ _ pP] at e3
     rcases g3 with ⟨g4, g5⟩ | g4
     ·have e5 : w = Rat.divInt 0 (2 ^ n) := by rw [e3, g4]; congr 1; omega
      have e6 : w = 0 := by
       have := d_mul 0 pP
       rw [← e5] at this
       have hp := cast_pos pP
       have h0 : ((0 : Int) : Rat) = 0 := rfl
       rw [h0, Rat.mul_eq_zero] at this
       rcases this with g | g
       ·exact g
       ·grind
      have e7 : dyL r n = mk r := by
       obtain ⟨_, e8⟩ := qF_some li hu
       rw [e8]
       congr 1
       rw [vu]
       have l3 := (le_step (r := r) (a := r.num * 2 ^ n / r.den) pP).2.1 (by omega)
       exact Rat.le_antisymm l1 l3
      refine Yld.bind (P := fun o => ((!(some w).isSome || decide (bi subR (dyH r n) (dyL r n) = mk (Rat.divInt 1 (2 ^ n)))) || (decide (o = 0) && decide (dyL r n = mk r))) = true) ?_ ?_
      ·have hs : ratio_Sign_S FF (bi subR (dyH r n) (dyL r n)) = some 0 := by
        rw [Sign_f (sub_in _ _), h3, e6]; rfl
       rw [hs]
       unfold gcall
       split
       ·exact Yld.some (by rw [e7]; simp)
       ·next hc => exact Yld.some (by rw [e7]; simp)
      ·intro o ho
       exact many (by simpa using ho) rfl
     ·have e5 : w = Rat.divInt 1 (2 ^ n) := by rw [e3, g4]; congr 1; omega
      have e6 : bi subR (dyH r n) (dyL r n) = mk (Rat.divInt 1 (2 ^ n)) := by rw [e4, e5]
      rw [decide_eq_true e6]
      exact Yld.g0 rfl (many rfl rfl)
end Go.Proofs.YtdjnlmmhbeeihaaGreatDoor

namespace Go.Proofs.YtdjnlmmhbeeihaaGreatDoor
open Go Go.Sk
end Go.Proofs.YtdjnlmmhbeeihaaGreatDoor

namespace Go.Sk
open Go
theorem int_mem_rel {h : PH} {cs : List CP} {L : List Value} {k : IntKind} {z : Int} (hr : cellsRel h cs L) (hm : CP.int k z ∈ cs) : inR k z := by
 obtain ⟨i, hi, he⟩ := List.getElem_of_mem hm
 obtain ⟨u, _, hu⟩ := All2.get hr i (.int k z) (by rw [List.getElem?_eq_getElem hi, he])
 exact hu.2
end Go.Sk
namespace Go.Proofs.YtdjnlmmhbeeihaaGreatDoor
open Go Go.Sk
theorem inD_of {w : A16} (H : ∀ z ∈ w.l, inR .u32 z) : inD 4294967296 w.l := fun i => by
 by_cases hi : i < w.l.length
 ·have h1 := H w.l[i] (List.getElem_mem hi)
  have e : dg w.l i = w.l[i] := by simp [dg, List.getD, List.getElem?_eq_getElem hi]
  rw [e]
  have h2 : 0 ≤ w.l[i] ∧ w.l[i] ≤ 4294967295 := by simpa [inR, IntKind.min, IntKind.max, IntKind.signed, IntKind.bits] using h1
  omega
 ·rw [dg_ge (by omega)]; decide
theorem inF_ints {x : Frc} (H : ∀ z, CP.int .u32 z ∈ eFrc x → inR .u32 z) : inF x := by
 refine ⟨inD_of fun z hz => H z ?_, inD_of fun z hz => H z ?_⟩
 ·unfold eFrc eBig
  exact List.mem_append_left _ (List.mem_cons_of_mem _ (List.mem_cons_of_mem _ (List.mem_map_of_mem hz)))
 ·unfold eFrc eBig
  exact List.mem_append_right _ (List.mem_cons_of_mem _ (List.mem_cons_of_mem _ (List.mem_map_of_mem hz)))
theorem inF_of {x : Frc} {h : PH} {v : Value} (hx : (BV.agg (eFrc x)).rel h (fun _ => .bool false) v) : inF x := by
 obtain ⟨cs, _, hr⟩ := hx
 exact inF_ints fun z hz => int_mem_rel hr hz
theorem in8_of {x : Int} {h : PH} {v : Value} (hx : (BV.one (.int .u8 x)).rel h (fun _ => .bool false) v) : 0 ≤ x ∧ x ≤ 255 := by
 have h1 : v = .int .u8 x ∧ inR .u8 x := hx
 simpa [inR, IntKind.min, IntKind.max, IntKind.signed, IntKind.bits] using h1.2
end Go.Proofs.YtdjnlmmhbeeihaaGreatDoor

namespace Go.Proofs.YtdjnlmmhbeeihaaGreatDoor
open Go Go.Sk
theorem rounds_law {mx : Int} (x : Frc) (k : Int) (hx : inF x) (hk : 0 ≤ k ∧ k ≤ 255) : Meets Tryz.prog (tabs mx) 7 [] [.agg (eFrc x), .one (.int .u8 k)] (Is [] (.b (.one (.bool true)))) :=
 l4_RatioRounds_spec (rounds_y hx hk)
end Go.Proofs.YtdjnlmmhbeeihaaGreatDoor

