/- the plain law -/
import Derived.Test.YtcbbilehdaaffaaGreatDoorP1
namespace Go.Proofs.YtcbbilehdaaffaaGreatDoor
open Go Go.Sk
set_option linter.unusedSimpArgs false
set_option linter.unusedVariables false
def bf : Frc := ⟨bad, big 1⟩
def fits (r : Rat) : Prop := InM r.num ∧ InM r.den
noncomputable instance (r : Rat) : Decidable (fits r) := Classical.propDecidable _
def mk (r : Rat) : Frc := ⟨big r.num, big r.den⟩
noncomputable def ofR (r : Rat) : Frc := if fits r then mk r else bf
abbrev inF (x : Frc) : Prop := inB x.N ∧ inB x.D
def qF (x : Frc) : Option Rat := match iv x.N, iv x.D with
 | some n, some d => if 0 < d ∧ Nat.gcd n.natAbs d.natAbs = 1 then some (Rat.divInt n d) else none
 | _, _ => none
noncomputable def mkB (n d : Big) : Frc := match iv n, iv d with
 | some a, some b => if b = 0 then bf else ofR (Rat.divInt a b)
 | _, _ => bf
theorem in_mk {N D : Big} (h1 : inB N) (h2 : inB D) : inF ⟨N, D⟩ := And.intro h1 h2
theorem bf_in : inF bf := in_mk bad_in (big_in 1)
theorem mk_in (r : Rat) : inF (mk r) := in_mk (big_in _) (big_in _)
theorem ofR_in (r : Rat) : inF (ofR r) := by unfold ofR; split; exact mk_in r; exact bf_in
theorem mkB_in (n d : Big) : inF (mkB n d) := by
 unfold mkB; split
 ·split; exact bf_in; exact ofR_in _
 ·exact bf_in
theorem ofR_fits {r : Rat} (h : fits r) : ofR r = mk r := by unfold ofR; rw [if_pos h]
theorem ofR_not {r : Rat} (h : ¬ fits r) : ofR r = bf := by unfold ofR; rw [if_neg h]
theorem qF_none {N D : Big} (h : iv N = none) : qF ⟨N, D⟩ = none := by
 unfold qF
 dsimp only
 rw [h]
theorem qF_bf : qF bf = none := by
 unfold bf
 exact qF_none iv_bad
theorem qF_of {N D : Big} {n d : Int} (hn : iv N = some n) (hd : iv D = some d) (h0 : 0 < d) (hc : Nat.gcd n.natAbs d.natAbs = 1) : qF ⟨N, D⟩ = some (Rat.divInt n d) := by
 unfold qF
 dsimp only
 rw [hn, hd]
 dsimp only
 rw [if_pos ⟨h0, hc⟩]
theorem qF_mk {r : Rat} (h : fits r) : qF (mk r) = some r := by
 have hc : Nat.gcd r.num.natAbs ((r.den : Int)).natAbs = 1 := by rw [Int.natAbs_natCast]; exact r.reduced
 have := qF_of (iv_big h.1) (iv_big h.2) (den_pos r) hc
 rw [Rat.num_divInt_den] at this
 exact this
theorem qF_some {x : Frc} {r : Rat} (hx : inF x) (h : qF x = some r) : fits r ∧ x = mk r := by
 unfold qF at h
 split at h
 ·next n d hn hd =>
  obtain ⟨_, en, rn⟩ := iv_some hx.1 hn
  obtain ⟨_, ed, rd⟩ := iv_some hx.2 hd
  split at h
  ·next hc =>
   have e := divInt_cop hc.1 hc.2
   cases h
   refine ⟨⟨by rw [e.1]; exact rn, by rw [e.2]; exact rd⟩, ?_⟩
   unfold mk
   rw [e.1, e.2, ← en, ← ed]
  ·cases h
 ·cases h
theorem fq_mul {q g : Int} (h : g ≠ 0) : fq (q * g) g = q := by
 refine (fq_unique h (r := 0) (by rw [Int.mul_comm]; omega) ?_ (.inl rfl)).1.symm
 have := absZ_pos h
 simpa [absZ] using this
theorem red_fits {n d : Int} (hd : d ≠ 0) (rn : InM n) (rd : InM d) : fits (Rat.divInt n d) := by
 obtain ⟨g0, e1, e2⟩ := red (n := n) hd
 have key : ∀ {a g m : Int}, g ≠ 0 → a * g = m → InM m → InM a := fun {a g m} hg e hm => by
  have h1 : a.natAbs * g.natAbs = m.natAbs := by rw [← Int.natAbs_mul, e]
  have h2 : a.natAbs * 1 ≤ a.natAbs * g.natAbs := Nat.mul_le_mul_left _ (by omega)
  constructor <;> have := hm.1 <;> have := hm.2 <;> omega
 exact ⟨key g0 e1 rn, key g0 e2 rd⟩
theorem goodz_y {x : Big} : q_good_S FF x = some (goodB x) := by
 refine Yld.eq ?_
 unfold q_good_S goodB
 cases h : x.Bad with
 | true => exact Yld.g0 rfl (Yld.some (by simp))
 | false => exact Yld.g1 rfl (Yld.bindE (Valid_y FF x) (Yld.some (by simp [h])))
theorem one_y : q_one_S FF = some (big 1) := by
 unfold q_one_S
 rw [Of_v (by decide) (by decide)]; rfl
theorem Bad_f : q_Bad_S FF = some bf := by
 unfold q_Bad_S
 rw [Bad_y, Option.bind_some, one_y]; rfl
theorem sgn_pos {d : Int} : decide (0 < sgn d) = decide (0 < d) := by rw [decide_eq_decide]; unfold sgn; split <;> (try split) <;> omega
theorem sgn_neg {d : Int} : decide (sgn d < 0) = decide (d < 0) := by rw [decide_eq_decide]; unfold sgn; split <;> (try split) <;> omega
theorem sgn_zero {d : Int} : decide (sgn d = 0) = decide (d = 0) := by rw [decide_eq_decide]; unfold sgn; split <;> (try split) <;> omega
theorem Good_f {x : Frc} (hx : inF x) : q_Good_S FF x = some (qF x).isSome := by
 refine Yld.eq ?_
 unfold q_Good_S qF
 refine Yld.bindE goodz_y ?_
 cases hn : iv x.N with
 | none =>
  rw [iv_none hn]
  exact Yld.g0 rfl (Yld.g0 rfl (Yld.g0 rfl (Yld.g0 rfl (Yld.some rfl))))
 | some n =>
  obtain ⟨gn, en, rn⟩ := iv_some hx.1 hn
  rw [gn]
  refine Yld.g1 rfl (Yld.bindE goodz_y ?_)
  cases hd : iv x.D with
  | none =>
   rw [iv_none hd]
   exact Yld.g0 rfl (Yld.g0 rfl (Yld.g0 rfl (Yld.some rfl)))
  | some d =>
   obtain ⟨gd, ed, rd⟩ := iv_some hx.2 hd
   rw [gd, en, ed]
   refine Yld.g1 rfl (Yld.bindE (Sign_v rd) ?_)
   rw [sgn_pos]
   by_cases h0 : 0 < d
   ·rw [decide_eq_true h0]
    refine Yld.g1 rfl (Yld.bindE (Gcd_v rn rd) (Yld.g1 rfl (Yld.bindE one_y (Yld.some ?_))))
    have hg : InM (Nat.gcd n.natAbs d.natAbs : Nat) := by
     have := Nat.gcd_le_right n.natAbs (show 0 < d.natAbs by omega)
     have := rd.1; have := rd.2
     constructor <;> omega
    have e : (big (Nat.gcd n.natAbs d.natAbs : Nat) = big 1) = (Nat.gcd n.natAbs d.natAbs = 1) := by
     rw [eq_iff_iff, big_inj hg one_InM]; omega
    simp only [e]
    by_cases h1 : Nat.gcd n.natAbs d.natAbs = 1
    ·simp [h1, h0]
    ·simp [h1]
   ·rw [decide_eq_false h0]
    refine Yld.g0 rfl (Yld.g0 rfl (Yld.some ?_))
    simp [h0]
theorem Make_f {n d : Big} (hn : inB n) (hd : inB d) : q_Make_S FF n d = some (mkB n d) := by
 refine Yld.eq ?_
 unfold q_Make_S mkB
 refine Yld.bindE goodz_y ?_
 cases ha : iv n with
 | none =>
  rw [iv_none ha]
  exact Yld.g0 rfl (Yld.g0 rfl (Yld.ift rfl (Yld.bindE Bad_f (Yld.some rfl))))
 | some a =>
  obtain ⟨ga, rfl, ra⟩ := iv_some hn ha
  rw [ga]
  refine Yld.g1 rfl (Yld.bindE goodz_y ?_)
  cases hb : iv d with
  | none =>
   rw [iv_none hb]
   exact Yld.g0 rfl (Yld.ift rfl (Yld.bindE Bad_f (Yld.some rfl)))
  | some b =>
   obtain ⟨gb, rfl, rb⟩ := iv_some hd hb
   rw [gb]
   refine Yld.g1 rfl (Yld.bindE (Sign_v rb) ?_)
   rw [sgn_zero]
   by_cases h0 : b = 0
   ·rw [decide_eq_true h0]
    exact Yld.ift rfl (Yld.bindE Bad_f (Yld.some (by simp [h0])))
   ·rw [decide_eq_false h0]
    have hg : InM (Nat.gcd a.natAbs b.natAbs : Nat) := by
     have := Nat.gcd_le_right a.natAbs (show 0 < b.natAbs by omega)
     have := rb.1; have := rb.2
     constructor <;> omega
    have hgs : InM (gcdS a b) := by unfold gcdS; split <;> (have := hg.1; have := hg.2; constructor <;> omega)
    obtain ⟨g0, e1, e2⟩ := red (n := a) h0
    refine Yld.iff rfl (Yld.bindE (Gcd_v ra rb) (Yld.bind (P := fun g => g = big (gcdS a b)) (Yld.bindE (Sign_v rb) ?_) ?_))
    ·rw [sgn_neg]
     unfold gcdS
     refine Yld.ite (fun h => ?_) (fun h => ?_)
     ·rw [if_pos (of_decide_eq_true h), Neg_y FF1 (big_in _), one_big hg]; exact Yld.some rfl
     ·rw [if_neg (of_decide_eq_false h)]; exact Yld.some rfl
    ·rintro g rfl
     refine Yld.bindE (Quo_v ra hgs g0) (Yld.bindE (Quo_v rb hgs g0) (Yld.some ?_))
     dsimp only
     rw [if_neg h0, ofR_fits (red_fits h0 ra rb)]
     unfold mk
     have f1 : fq a (gcdS a b) = (Rat.divInt a b).num := by
      have := fq_mul (q := (Rat.divInt a b).num) g0
      rwa [e1] at this
     have f2 : fq b (gcdS a b) = ((Rat.divInt a b).den : Int) := by
      have := fq_mul (q := ((Rat.divInt a b).den : Int)) g0
      rwa [e2] at this
     rw [f1, f2]
end Go.Proofs.YtcbbilehdaaffaaGreatDoor

namespace Go.Proofs.YtcbbilehdaaffaaGreatDoor
open Go Go.Sk
set_option linter.unusedSimpArgs false
set_option linter.unusedVariables false
def un (f : Rat → Frc) (x : Frc) : Frc := match qF x with
 | some r => f r
 | none => bf
def bi (f : Rat → Rat → Frc) (x y : Frc) : Frc := match qF x, qF y with
 | some r, some s => f r s
 | _, _ => bf
theorem bi_none1 {f : Rat → Rat → Frc} {x y : Frc} (h : qF x = none) : bi f x y = bf := by unfold bi; rw [h]
theorem bi_none2 {f : Rat → Rat → Frc} {x y : Frc} (h : qF y = none) : bi f x y = bf := by unfold bi; rw [h]; cases qF x <;> rfl
theorem bi_some {f : Rat → Rat → Frc} {x y : Frc} {r s : Rat} (h : qF x = some r) (h2 : qF y = some s) : bi f x y = f r s := by unfold bi; rw [h, h2]
theorem mk_N (r : Rat) : (mk r).N = big r.num := by simp only [mk]
theorem mk_D (r : Rat) : (mk r).D = big r.den := by simp only [mk]
theorem bi_in {f : Rat → Rat → Frc} (hf : ∀ r s, inF (f r s)) (x y : Frc) : inF (bi f x y) := by unfold bi; split; exact hf _ _; exact bf_in
theorem mkB_big {a b : Int} (ra : InM a) (rb : InM b) (h : b ≠ 0) : mkB (big a) (big b) = ofR (Rat.divInt a b) := by
 unfold mkB
 rw [iv_big ra, iv_big rb]
 dsimp only
 rw [if_neg h]
def qd (r s : Rat) : Int := ((r.den / Nat.gcd r.den s.den : Nat) : Int)
theorem qd_mul (r s : Rat) : (r.den : Int) = qd r s * (Nat.gcd r.den s.den : Nat) := by
 unfold qd
 have := Nat.div_mul_cancel (Nat.gcd_dvd_left r.den s.den)
 rw [← Int.natCast_mul, this]
theorem gcd_den_pos (r s : Rat) : (0 : Int) < (Nat.gcd r.den s.den : Nat) := by
 have := Nat.gcd_pos_of_pos_left s.den (show 0 < r.den from r.den_pos)
 omega
theorem qd_pos (r s : Rat) : 0 < qd r s := by
 have h := qd_mul r s
 have h0 := den_pos r
 have h1 := gcd_den_pos r s
 rcases (by omega : qd r s ≤ 0 ∨ 0 < qd r s) with h2 | h2
 ·have := Int.mul_nonpos_of_nonpos_of_nonneg h2 (Int.le_of_lt h1)
  omega
 ·exact h2
theorem qd_le (r s : Rat) : qd r s ≤ r.den := by
 unfold qd
 have := Nat.div_le_self r.den (Nat.gcd r.den s.den)
 omega
abbrev plus := fun a b : Int => some (a + b)
noncomputable def addR (r s : Rat) : Frc := mkB (two plus (big (r.num * qd s r)) (big (s.num * qd r s))) (big (qd r s * s.den))
theorem toB_some (z : Int) : toB (some z) = big z := rfl
theorem addR_ok {r s : Rat} (h1 : InM (r.num * qd s r)) (h2 : InM (s.num * qd r s)) (h3 : InM (r.num * qd s r + s.num * qd r s)) (h4 : InM (qd r s * s.den)) : addR r s = ofR (r + s) := by
 unfold addR
 rw [two_big h1 h2, toB_some, mkB_big h3 h4 (by have := Int.mul_pos (qd_pos r s) (den_pos s); omega), sum_q r s (qd_mul r s) (by have := qd_mul s r; rwa [Nat.gcd_comm] at this)]
theorem qd_in {r s : Rat} (h : fits r) : InM (qd r s) := by
 have := qd_pos r s
 have := qd_le r s
 have := h.2.2
 have := MM_pos
 constructor <;> omega
theorem fq_den (r s : Rat) : fq (r.den : Int) (Nat.gcd r.den s.den : Nat) = qd r s := by
 have := fq_mul (q := qd r s) (g := (Nat.gcd r.den s.den : Nat)) (by have := gcd_den_pos r s; omega)
 rwa [← qd_mul] at this
theorem gcd_in {r s : Rat} (h : fits r) : InM (Nat.gcd r.den s.den : Nat) := by
 have := Nat.gcd_le_left s.den (show 0 < r.den from r.den_pos)
 have := h.2.2
 have := MM_pos
 constructor <;> omega
theorem addR_in (r s : Rat) : inF (addR r s) := mkB_in _ _
theorem Add_f {x y : Frc} (hx : inF x) (hy : inF y) : q_Add_S FF x y = some (bi addR x y) := by
 refine Yld.eq ?_
 unfold q_Add_S
 refine Yld.bindE (Good_f hx) ?_
 cases hq : qF x with
 | none => rw [bi_none1 hq]; exact Yld.g0 rfl (Yld.ift rfl (Yld.bindE Bad_f (Yld.some rfl)))
 | some r =>
  obtain ⟨hf, rfl⟩ := qF_some hx hq
  refine Yld.g1 rfl (Yld.bindE (Good_f hy) ?_)
  cases hq2 : qF y with
  | none => rw [bi_none2 hq2]; exact Yld.ift rfl (Yld.bindE Bad_f (Yld.some rfl))
  | some s =>
   obtain ⟨hs, rfl⟩ := qF_some hy hq2
   rw [bi_some hq hq2, mk_N, mk_D, mk_N, mk_D]
   have e1 := fq_den r s
   have e2 := fq_den s r
   rw [Nat.gcd_comm] at e2
   have hg := gcd_den_pos r s
   have gi := gcd_in (s := s) hf
   refine Yld.iff rfl (Yld.bindE (Gcd_v hf.2 hs.2) ?_)
   rw [Int.natAbs_natCast, Int.natAbs_natCast]
   refine Yld.bindE (Quo_v hf.2 gi (by omega)) (Yld.bindE (Quo_v hs.2 gi (by omega)) ?_)
   rw [e1, e2]
   refine Yld.bindE (Mul_v hf.1 (qd_in hs)) (Yld.bindE (Mul_v hs.1 (qd_in hf)) (Yld.bindE (Add_y FF1 (big_in _) (big_in _)) (Yld.bindE (Mul_v (qd_in hf) hs.2) (Yld.bindE (Make_f (two_in _ _ _) (big_in _)) (Yld.some rfl)))))
noncomputable def subR (r s : Rat) : Frc := addR r (-s)
theorem prod_fits {r s : Rat} (hr : fits r) (hs : fits s) : fits (Rat.divInt r.num s.den) ∧ fits (Rat.divInt s.num r.den) :=
 ⟨red_fits (by have := den_pos s; omega) hr.1 hs.2, red_fits (by have := den_pos r; omega) hs.1 hr.2⟩
noncomputable def mulR (r s : Rat) : Frc := ofR (r * s)
theorem Mul_f {x y : Frc} (hx : inF x) (hy : inF y) : q_Mul_S FF x y = some (bi mulR x y) := by
 refine Yld.eq ?_
 unfold q_Mul_S
 refine Yld.bindE (Good_f hx) ?_
 cases hq : qF x with
 | none => rw [bi_none1 hq]; exact Yld.g0 rfl (Yld.ift rfl (Yld.bindE Bad_f (Yld.some rfl)))
 | some r =>
  obtain ⟨hf, rfl⟩ := qF_some hx hq
  refine Yld.g1 rfl (Yld.bindE (Good_f hy) ?_)
  cases hq2 : qF y with
  | none => rw [bi_none2 hq2]; exact Yld.ift rfl (Yld.bindE Bad_f (Yld.some rfl))
  | some s =>
   obtain ⟨hs, rfl⟩ := qF_some hy hq2
   rw [bi_some hq hq2, mk_N, mk_D, mk_N, mk_D]
   have h0 := den_pos r
   have h1 := den_pos s
   obtain ⟨fa, fb⟩ := prod_fits hf hs
   have hp := prod_q r s
   refine Yld.iff rfl (Yld.bindE (Make_f (big_in _) (big_in _)) (Yld.bindE (Make_f (big_in _) (big_in _)) ?_))
   rw [mkB_big hf.1 hs.2 (by omega), mkB_big hs.1 hf.2 (by omega), ofR_fits fa, ofR_fits fb, mk_N, mk_D, mk_N, mk_D]
   refine Yld.bindE (Mul_v fa.1 fb.1) (Yld.bindE (Mul_v fa.2 fb.2) ?_)
   rw [← hp.1, ← hp.2, big_Bad, big_Bad]
   unfold mulR
   by_cases h : fits (r * s)
   ·rw [ofR_fits h, decide_eq_true h.1, decide_eq_true h.2]
    exact Yld.iff rfl (Yld.some rfl)
   ·rw [ofR_not h]
    refine Yld.ift ?_ (Yld.bindE Bad_f (Yld.some rfl))
    by_cases h2 : InM (r * s).num
    ·have h3 : ¬ InM (r * s).den := fun h3 => h ⟨h2, h3⟩
     simp [h3]
    ·simp [h2]
theorem inv_r (s : Rat) : Rat.divInt s.den s.num = s⁻¹ := (Rat.inv_def s).symm
noncomputable def divR (r s : Rat) : Frc := if s.num = 0 then bf else ofR (r / s)
theorem divR_in (r s : Rat) : inF (divR r s) := by unfold divR; split; exact bf_in; exact ofR_in _
theorem mkB_zero {a : Int} {x : Big} : mkB x (big 0) = bf := by
 unfold mkB
 rw [iv_big zero_InM]
 cases iv x with
 | none => rfl
 | some a => dsimp only; rw [if_pos rfl]
theorem inv_fits {s : Rat} (h : s.num ≠ 0) (hs : fits s) : fits s⁻¹ := by rw [← inv_r]; exact red_fits h hs.2 hs.1
theorem mkB_inv {s : Rat} (hs : fits s) (h : s.num ≠ 0) : mkB (big s.den) (big s.num) = mk s⁻¹ := by
 rw [mkB_big hs.2 hs.1 h, inv_r, ofR_fits (inv_fits h hs)]
theorem Div_f {x y : Frc} (hx : inF x) (hy : inF y) : q_Div_S FF x y = some (bi divR x y) := by
 refine Yld.eq ?_
 unfold q_Div_S
 refine Yld.bindE (Good_f hy) ?_
 cases hq2 : qF y with
 | none => rw [bi_none2 hq2]; exact Yld.ift rfl (Yld.bindE Bad_f (Yld.some rfl))
 | some s =>
  obtain ⟨hs, rfl⟩ := qF_some hy hq2
  refine Yld.iff rfl ?_
  rw [mk_N, mk_D]
  refine Yld.bindE (Make_f (big_in _) (big_in _)) (Yld.bindE (Mul_f hx (mkB_in _ _)) (Yld.some ?_))
  cases hq : qF x with
  | none => rw [bi_none1 hq, bi_none1 hq]
  | some r =>
   rw [bi_some hq hq2]
   unfold divR
   by_cases h : s.num = 0
   ·rw [if_pos h, h, mkB_zero (a := 0), bi_none2 qF_bf]
   ·rw [if_neg h, mkB_inv hs h, bi_some hq (qF_mk (inv_fits h hs))]
    unfold mulR
    rw [Rat.div_def]
theorem Sign_f {x : Frc} (hx : inF x) : q_Sign_S FF x = some (match qF x with | some r => sgn r.num | none => 0) := by
 refine Yld.eq ?_
 unfold q_Sign_S
 refine Yld.bindE (Good_f hx) ?_
 cases hq : qF x with
 | none => exact Yld.ift rfl (Yld.some rfl)
 | some r =>
  obtain ⟨hf, rfl⟩ := qF_some hx hq
  exact Yld.iff rfl (Yld.bindE (Sign_v hf.1) (Yld.some rfl))
end Go.Proofs.YtcbbilehdaaffaaGreatDoor

namespace Go.Proofs.YtcbbilehdaaffaaGreatDoor
open Go Go.Sk
set_option linter.unusedSimpArgs false
set_option linter.unusedVariables false
theorem rSign_v {a : Int} (ra : InM a) : r3_Sign_S FF (big a) = some (sgn a) := by rw [rSign_y FF2 (big_in a), iv_big ra]
theorem rOf_v {n : Int} (h0 : -9223372036854775808 ≤ n) (h1 : n ≤ 9223372036854775807) : r3_Of_S FF n = some (big n) := rOf_y FF2 h0 h1
theorem rone_y : r4_one_S FF = some (big 1) := by
 unfold r4_one_S
 rw [rOf_v (by decide) (by decide)]; rfl
theorem rGood_f {x : Frc} (hx : inF x) : r4_Good_S FF x = some (qF x).isSome := by
 refine Yld.eq ?_
 unfold r4_Good_S qF
 refine Yld.bindE (rGood_y FF2 hx.1) ?_
 cases hn : iv x.N with
 | none =>
  rw [iv_none hn]
  exact Yld.g0 rfl (Yld.ift rfl (Yld.some rfl))
 | some n =>
  obtain ⟨gn, en, rn⟩ := iv_some hx.1 hn
  rw [gn]
  refine Yld.g1 rfl (Yld.bindE (rGood_y FF2 hx.2) ?_)
  cases hd : iv x.D with
  | none =>
   rw [iv_none hd]
   exact Yld.ift rfl (Yld.some rfl)
  | some d =>
   obtain ⟨gd, ed, rd⟩ := iv_some hx.2 hd
   rw [gd, en, ed]
   refine Yld.iff rfl (Yld.bindE (rSign_v rd) ?_)
   rw [sgn_pos]
   by_cases h0 : 0 < d
   ·rw [decide_eq_true h0]
    refine Yld.g1 rfl (Yld.bindE (rGcd_v rn rd) (Yld.g1 rfl (Yld.bindE rone_y (Yld.some ?_))))
    have hg : InM (Nat.gcd n.natAbs d.natAbs : Nat) := by
     have := Nat.gcd_le_right n.natAbs (show 0 < d.natAbs by omega)
     have := rd.1; have := rd.2
     constructor <;> omega
    have e : (big (Nat.gcd n.natAbs d.natAbs : Nat) = big 1) = (Nat.gcd n.natAbs d.natAbs = 1) := by
     rw [eq_iff_iff, big_inj hg one_InM]; omega
    simp only [e]
    by_cases h1 : Nat.gcd n.natAbs d.natAbs = 1
    ·simp [h1, h0]
    ·simp [h1]
   ·rw [decide_eq_false h0]
    refine Yld.g0 rfl (Yld.g0 rfl (Yld.some ?_))
    simp [h0]
end Go.Proofs.YtcbbilehdaaffaaGreatDoor

namespace Go.Proofs.YtcbbilehdaaffaaGreatDoor
open Go Go.Sk
set_option linter.unusedSimpArgs false
set_option linter.unusedVariables false
theorem mk_eq (r : Rat) : mk r = ⟨big r.num, big r.den⟩ := by simp only [mk]
def cmpR (r s : Rat) : Int := if r < s then -1 else if s < r then 1 else 0
theorem cross_r (r s : Rat) : cross r.num r.den s.num s.den = cmpR r s := by
 unfold cross cmpZ cmpR
 simp only [Rat.lt_iff]
def cmpF (x y : Frc) : Int := match qF x, qF y with
 | none, none => 0
 | none, some _ => -1
 | some _, none => 1
 | some r, some s => cmpR r s
theorem cmpZ_rng (a b : Int) : -1 ≤ cmpZ a b ∧ cmpZ a b ≤ 1 := by unfold cmpZ; split <;> (try split) <;> omega
theorem sg_mul {o c : Int} (ho : o = 1 ∨ o = -1) (hc : -1 ≤ c ∧ c ≤ 1) : IntKind.i64.wrap (o * c) = o * c := by
 refine wi64' ?_ ?_ <;> rcases ho with rfl | rfl <;> omega
theorem sgn_nn {z : Int} (h : 0 ≤ z) : 0 ≤ sgn z ∧ sgn z ≤ 1 := by unfold sgn; split <;> (try split) <;> omega
theorem dec_sgn {z : Int} : decide (sgn z = 0) = decide (z = 0) := sgn_zero
structure CmpI (c : Int) (p q r s o : Int) : Prop where
 ip : InM p
 iq : InM q
 ir : InM r
 is : InM s
 q0 : 0 < q
 s0 : 0 < s
 o1 : o = 1 ∨ o = -1
 val : o * cross p q r s = c
theorem CmpI.next {c p q r s o : Int} (h : CmpI c p q r s o) (he : p / q = r / s) (h1 : p % q ≠ 0) (h2 : r % s ≠ 0) : CmpI c q (p % q) s (r % s) (-o) := by
 have a0 := Int.emod_nonneg p (show q ≠ 0 by have := h.q0; omega)
 have a1 := Int.emod_lt_of_pos p h.q0
 have b0 := Int.emod_nonneg r (show s ≠ 0 by have := h.s0; omega)
 have b1 := Int.emod_lt_of_pos r h.s0
 have := h.iq.2
 have := h.is.2
 have := MM_pos
 refine ⟨h.iq, ⟨by omega, by omega⟩, h.is, ⟨by omega, by omega⟩, by omega, by omega, by have := h.o1; omega, ?_⟩
 rw [← h.val, cross_next he, Int.neg_mul, Int.mul_neg]
theorem CmpI.start {r s : Rat} (hr : fits r) (hs : fits s) : CmpI (cmpR r s) r.num r.den s.num s.den 1 :=
 ⟨hr.1, hr.2, hs.1, hs.2, den_pos r, den_pos s, .inl rfl, by rw [Int.one_mul, cross_r]⟩
theorem cmpZ_zero {a b : Int} : cmpZ a b = 0 ↔ a = b := by unfold cmpZ; split <;> (try split) <;> omega
def dn (x : Big) : Nat := match iv x with
 | some d => d.toNat
 | none => 0
theorem dn_big {d : Int} (h : InM d) : dn (big d) = d.toNat := by unfold dn; rw [iv_big h]
theorem dn_lt {r : Rat} (h : fits r) : dn (big r.den) < FF := by
 have h1 := h.2.2
 have h2 := FF_MM
 rw [dn_big h.2]
 omega
theorem Cmp_f {x y : Frc} (hx : inF x) (hy : inF y) : q_Cmp_S FF x y = some (cmpF x y) := by
 refine Yld.eq ?_
 unfold q_Cmp_S cmpF
 refine Yld.bindE (Good_f hx) (Yld.bindE (Good_f hy) ?_)
 cases hq : qF x with
 | none =>
  cases hq2 : qF y with
  | none => exact Yld.ift rfl (Yld.some rfl)
  | some s => exact Yld.iff rfl (Yld.ift rfl (Yld.some rfl))
 | some r =>
  cases hq2 : qF y with
  | none => exact Yld.iff rfl (Yld.iff rfl (Yld.ift rfl (Yld.some rfl)))
  | some s =>
   obtain ⟨hr, rfl⟩ := qF_some hx hq
   obtain ⟨hs, rfl⟩ := qF_some hy hq2
   refine Yld.iff rfl (Yld.iff rfl (Yld.iff rfl ?_))
   refine Yld.bind (P := fun z => z = cmpR r s) (Yld.loop (fun st : Frc × Frc × Int => ∃ p q u v, st.1 = ⟨big p, big q⟩ ∧ st.2.1 = ⟨big u, big v⟩ ∧ CmpI (cmpR r s) p q u v st.2.2) (fun st => dn st.1.D) ⟨r.num, r.den, s.num, s.den, mk_eq r, mk_eq s, CmpI.start hr hs⟩ ?_ ?_) (fun z hz => Yld.some hz)
   ·rw [mk_D]; exact dn_lt hr
   ·rintro ⟨_, _, o⟩ ⟨p, q, u, v, rfl, rfl, hI⟩
    dsimp only at hI
    dsimp only [un3]
    have hq0 : q ≠ 0 := by have := hI.q0; omega
    have hv0 : v ≠ 0 := by have := hI.s0; omega
    refine Yld.bindE (Quo_v hI.ip hI.iq hq0) (Yld.bindE (Quo_v hI.ir hI.is hv0) (Yld.bindE (Cmp_v (fq_rng hq0 hI.ip) (fq_rng hv0 hI.ir)) ?_))
    obtain ⟨f1, g1⟩ := fq_fr_pos p hI.q0
    obtain ⟨f2, g2⟩ := fq_fr_pos u hI.s0
    rw [f1, f2]
    refine Yld.ite (fun h => ?_) (fun h => ?_)
    ·have h' : cmpZ (p / q) (u / v) ≠ 0 := of_decide_eq_true h
     refine Yld.some (.inr ⟨_, rfl, ?_⟩)
     rw [sg_mul hI.o1 (cmpZ_rng _ _), ← hI.val, cross_floor hI.q0 hI.s0 h']
    ·have h' : cmpZ (p / q) (u / v) = 0 := by have := of_decide_eq_false h; omega
     have he := cmpZ_zero.1 h'
     refine Yld.bindE (Rem_v hI.ip hI.iq hq0) (Yld.bindE (Rem_v hI.ir hI.is hv0) (Yld.bindE (Sign_v (fr_rng hq0 hI.iq)) (Yld.bindE (Sign_v (fr_rng hv0 hI.is)) ?_)))
     rw [g1, g2, dec_sgn, dec_sgn]
     have a0 := Int.emod_nonneg p hq0
     have b0 := Int.emod_nonneg u hv0
     have a1 := Int.emod_lt_of_pos p hI.q0
     refine Yld.ite (fun h => ?_) (fun h => ?_)
     ·simp only [Bool.or_eq_true, decide_eq_true_eq] at h
      refine Yld.ln (Yld.some (.inr ⟨_, rfl, ?_⟩))
      have c1 := sgn_nn a0
      have c2 := sgn_nn b0
      rw [wi64' (z := sgn (p % q) - sgn (u % v)) (by omega) (by omega), sg_mul hI.o1 (by omega), ← hI.val, cross_end hI.q0 hI.s0 he h]
     ·simp only [Bool.or_eq_false_iff, decide_eq_false_iff_not] at h
      have ho : IntKind.i64.wrap (-o) = -o := by have := hI.o1; exact wi64' (by omega) (by omega)
      have hn := hI.next he h.1 h.2
      refine Yld.some (.inl ⟨_, rfl, ⟨_, _, _, _, rfl, rfl, by dsimp only; rw [ho]; exact hn⟩, ?_⟩)
      dsimp only
      rw [dn_big hI.iq, dn_big hn.iq]
      omega
end Go.Proofs.YtcbbilehdaaffaaGreatDoor

namespace Go.Proofs.YtcbbilehdaaffaaGreatDoor
open Go Go.Sk
set_option linter.unusedSimpArgs false
set_option linter.unusedVariables false
theorem F4 : ∃ k, FF = k + 4 := ⟨FF - 4, by have := FF1; omega⟩
def sm (n : Int) : Bool := decide (-16 ≤ n) && decide (n ≤ 16)
def vU (u : MUnit) : Bool := sm u.M && sm u.Kg && sm u.S
theorem sm_iff {n : Int} : sm n = true ↔ -16 ≤ n ∧ n ≤ 16 := by simp [sm]
theorem vU_iff {u : MUnit} : vU u = true ↔ (-16 ≤ u.M ∧ u.M ≤ 16) ∧ (-16 ≤ u.Kg ∧ u.Kg ≤ 16) ∧ (-16 ≤ u.S ∧ u.S ≤ 16) := by simp [vU, sm_iff, and_assoc]
theorem Valid_u (u : MUnit) : unit_Valid_S FF u = some (vU u) := by
 obtain ⟨k, hk⟩ := F4
 rw [hk]
 unfold unit_Valid_S unit_exponents_S unit_small_S
 have w1 : IntKind.i64.wrap (0 + 1) = 1 := by decide
 have w2 : IntKind.i64.wrap (1 + 1) = 2 := by decide
 have w3 : IntKind.i64.wrap (2 + 1) = 3 := by decide
 have i0 : idx? (⟨u.M, u.Kg, u.S⟩ : A3).l 0 = some u.M := rfl
 have i1 : idx? (⟨u.M, u.Kg, u.S⟩ : A3).l 1 = some u.Kg := rfl
 have i2 : idx? (⟨u.M, u.Kg, u.S⟩ : A3).l 2 = some u.S := rfl
 simp only [Option.bind_some, iter_succ, show ((0 : Int) < 3) = True from by simp, show ((1 : Int) < 3) = True from by simp, show ((2 : Int) < 3) = True from by simp, show ((3 : Int) < 3) = False from by simp, decide_true, decide_false, if_true, Bool.false_eq_true, if_false, i0]
 unfold vU
 cases h1 : sm u.M
 ·simp only [sm] at h1; simp [h1, alt2]
 ·simp only [sm] at h1
  simp only [h1, Bool.not_true, Bool.false_eq_true, if_false, Option.bind_some, alt2, w1, iter_succ, show ((1 : Int) < 3) = True from by simp, decide_true, if_true, i1]
  cases h2 : sm u.Kg
  ·simp only [sm] at h2; simp [h2, alt2]
  ·simp only [sm] at h2
   simp only [h2, Bool.not_true, Bool.false_eq_true, if_false, Option.bind_some, alt2, w2, iter_succ, show ((2 : Int) < 3) = True from by simp, decide_true, if_true, i2]
   cases h3 : sm u.S
   ·simp only [sm] at h3; simp [h3, alt2]
   ·simp only [sm] at h3
    simp only [h3, Bool.not_true, Bool.false_eq_true, if_false, Option.bind_some, alt2, w3, iter_succ, show ((3 : Int) < 3) = False from by simp, decide_false, Bool.true_and]
theorem rsmall (n : Int) : skewbackref11_small_S FF n = some (sm n) := rfl
theorem rValid_u (u : MUnit) : skewbackref11_Valid_S FF u = some (vU u) := by
 unfold skewbackref11_Valid_S vU
 rw [rsmall, rsmall, rsmall]
 cases h1 : sm u.M <;> cases h2 : sm u.Kg <;> cases h3 : sm u.S <;> rfl
theorem prod_rng {n v : Int} (hn : -16 ≤ n ∧ n ≤ 16) (hv : -16 ≤ v ∧ v ≤ 16) : -256 ≤ n * v ∧ n * v ≤ 256 := by
 have h : (n * v).natAbs ≤ 16 * 16 := by rw [Int.natAbs_mul]; exact Nat.mul_le_mul (by omega) (by omega)
 omega
def zU : MUnit := ⟨0, 0, 0⟩
def cmU (u v : MUnit) (n : Int) : MUnit := ⟨u.M + n * v.M, u.Kg + n * v.Kg, u.S + n * v.S⟩
def cmb (u v : MUnit) (n : Int) : MUnit × Int := if (vU u && vU v && sm n) = true then (if vU (cmU u v n) = true then (cmU u v n, 0) else (zU, 2)) else (zU, 1)
theorem cmb_ok {u v : MUnit} {n : Int} (h1 : vU u = true) (h2 : vU v = true) (h3 : sm n = true) : cmb u v n = if vU (cmU u v n) = true then (cmU u v n, 0) else (zU, 2) := by unfold cmb; rw [h1, h2, h3]; rfl
theorem cmb_bad1 {u v : MUnit} {n : Int} (h1 : vU u = false) : cmb u v n = (zU, 1) := by unfold cmb; rw [h1]; rfl
theorem cmb_bad2 {u v : MUnit} {n : Int} (h1 : vU v = false) : cmb u v n = (zU, 1) := by unfold cmb; rw [h1]; cases vU u <;> rfl
theorem cmb_bad3 {u v : MUnit} {n : Int} (h1 : sm n = false) : cmb u v n = (zU, 1) := by unfold cmb; rw [h1]; cases vU u <;> cases vU v <;> rfl
theorem cmb_wrap {u v n : Int} (hu : -16 ≤ u ∧ u ≤ 16) (hn : -16 ≤ n ∧ n ≤ 16) (hv : -16 ≤ v ∧ v ≤ 16) : IntKind.i64.wrap (u + IntKind.i64.wrap (n * v)) = u + n * v := by
 have := prod_rng hn hv
 rw [wi64' (z := n * v) (by omega) (by omega), wi64' (by omega) (by omega)]
theorem combine_u (u v : MUnit) (n : Int) : unit_combine_S FF u v n = some (cmb u v n) := by
 refine Yld.eq ?_
 unfold unit_combine_S
 refine Yld.bindE (Valid_u u) ?_
 cases h1 : vU u
 ·rw [cmb_bad1 h1]; exact Yld.g0 rfl (Yld.g0 rfl (Yld.ift rfl (Yld.some rfl)))
 refine Yld.g1 rfl (Yld.bindE (Valid_u v) ?_)
 cases h2 : vU v
 ·rw [cmb_bad2 h2]; exact Yld.g0 rfl (Yld.ift rfl (Yld.some rfl))
 refine Yld.g1 rfl (Yld.bindE (show unit_small_S FF n = some (sm n) from rfl) ?_)
 cases h3 : sm n
 ·rw [cmb_bad3 h3]; exact Yld.ift rfl (Yld.some rfl)
 obtain ⟨a1, a2, a3⟩ := vU_iff.1 h1
 obtain ⟨b1, b2, b3⟩ := vU_iff.1 h2
 have c := sm_iff.1 h3
 rw [cmb_ok h1 h2 h3]
 refine Yld.iff rfl (Yld.lnE _ (cmb_wrap a1 c b1) (Yld.lnE _ (cmb_wrap a2 c b2) (Yld.lnE _ (cmb_wrap a3 c b3) (Yld.bindE (Valid_u (cmU u v n)) ?_))))
 cases h4 : vU (cmU u v n)
 ·exact Yld.ift rfl (Yld.some rfl)
 ·exact Yld.iff rfl (Yld.some rfl)
theorem Mul_u (u v : MUnit) : unit_Mul_S FF u v = some (cmb u v 1) := by unfold unit_Mul_S; rw [combine_u]; rfl
theorem Div_u (u v : MUnit) : unit_Div_S FF u v = some (cmb u v (-1)) := by unfold unit_Div_S; rw [combine_u]; rfl
end Go.Proofs.YtcbbilehdaaffaaGreatDoor

namespace Go.Proofs.YtcbbilehdaaffaaGreatDoor
open Go Go.Sk
set_option linter.unusedSimpArgs false
set_option linter.unusedVariables false
def zQ : Quantity := ⟨⟨⟨false, false, A16.zero⟩, ⟨false, false, A16.zero⟩⟩, zU⟩
def rt (a : Quantity) : Bool := (qF a.V).isSome && vU a.U
abbrev inQ (a : Quantity) : Prop := inF a.V
theorem rt_iff {a : Quantity} : rt a = true ↔ (∃ r, qF a.V = some r) ∧ vU a.U = true := by
 unfold rt; rw [Bool.and_eq_true, Option.isSome_iff_exists]
theorem w01 : IntKind.i64.wrap (0 + 1) = 1 := by decide
theorem w12 : IntKind.i64.wrap (1 + 1) = 2 := by decide
theorem isRight_2 {a b : Quantity} (ha : inQ a) (hb : inQ b) : unit_isRight_S FF [a, b] = some (rt a && rt b) := by
 obtain ⟨k, hk⟩ := F4
 have hg : q_Good_S (k + 4) a.V = some (qF a.V).isSome := by rw [← hk]; exact Good_f ha
 have hv : unit_Valid_S (k + 4) a.U = some (vU a.U) := by rw [← hk]; exact Valid_u _
 have hg2 : q_Good_S (k + 4) b.V = some (qF b.V).isSome := by rw [← hk]; exact Good_f hb
 have hv2 : unit_Valid_S (k + 4) b.U = some (vU b.U) := by rw [← hk]; exact Valid_u _
 rw [hk]
 unfold unit_isRight_S rt
 have e1 : (([a, b].length : Nat) : Int) = 2 := rfl
 have i0 : idx? [a, b] 0 = some a := rfl
 have i1 : idx? [a, b] 1 = some b := rfl
 simp only [e1, iter_succ, show ((0 : Int) < 2) = True from by simp, show ((1 : Int) < 2) = True from by simp, show ((2 : Int) < 2) = False from by simp, decide_true, if_true, i0, Option.bind_some, hg]
 cases (qF a.V).isSome
 ·rfl
 ·simp only [Bool.not_true, Bool.not_false, gcall, if_true, hv, Option.bind_some]
  cases vU a.U
  ·rfl
  ·simp only [w01, alt2, iter_succ, show ((1 : Int) < 2) = True from by simp, decide_true, if_true, Bool.false_eq_true, if_false, Bool.not_true, Bool.or_false, Option.bind_some, Bool.true_and, i1, hg2]
   cases (qF b.V).isSome
   ·rfl
   ·simp only [Bool.not_true, Bool.not_false, gcall, if_true, hv2, Option.bind_some]
    cases vU b.U
    ·rfl
    ·simp only [w12, alt2, iter_succ, show ((2 : Int) < 2) = False from by simp, decide_false, Bool.false_eq_true, if_false, Bool.not_true, Bool.or_false, Option.bind_some, Bool.true_and]
def quF (v : Frc) (u : MUnit) : Quantity × Int := if (qF v).isSome = true then (⟨v, u⟩, 0) else (zQ, 30)
theorem quantity_q {v : Frc} {u : MUnit} (h : inF v) : unit_quantity_S FF v u = some (quF v u) := by
 unfold unit_quantity_S quF
 rw [Good_f h]
 cases (qF v).isSome <;> rfl
theorem rRight_q {a : Quantity} (ha : inQ a) : skewbackref11_Right_S FF a = some (rt a) := by
 unfold skewbackref11_Right_S rt
 rw [rGood_f ha, rValid_u]
 cases (qF a.V).isSome <;> cases vU a.U <;> rfl
def eqU (u v : MUnit) : MUnit × Int := if u ≠ v then (zU, 110) else (u, 0)
def doQ (nf : Frc → Frc → Frc) (uf : MUnit → MUnit → MUnit × Int) (a b : Quantity) : Quantity × Int :=
 if (rt a && rt b) = true then (if (uf a.U b.U).2 ≠ 0 then (zQ, (uf a.U b.U).2) else quF (nf a.V b.V) (uf a.U b.U).1) else (zQ, 1)
theorem doQ_bad {nf : Frc → Frc → Frc} {uf : MUnit → MUnit → MUnit × Int} {a b : Quantity} (h : (rt a && rt b) = false) : doQ nf uf a b = (zQ, 1) := by unfold doQ; rw [h]; rfl
theorem doQ_err {nf : Frc → Frc → Frc} {uf : MUnit → MUnit → MUnit × Int} {a b : Quantity} (h : (rt a && rt b) = true) (h2 : (uf a.U b.U).2 ≠ 0) : doQ nf uf a b = (zQ, (uf a.U b.U).2) := by unfold doQ; rw [if_pos h, if_pos h2]
theorem doQ_ok {nf : Frc → Frc → Frc} {uf : MUnit → MUnit → MUnit × Int} {a b : Quantity} (h : (rt a && rt b) = true) (h2 : (uf a.U b.U).2 = 0) : doQ nf uf a b = quF (nf a.V b.V) (uf a.U b.U).1 := by unfold doQ; rw [if_pos h, if_neg (by omega)]
theorem do_q {o : Oprn} {nf : Frc → Frc → Frc} {uf : MUnit → MUnit → MUnit × Int} {a b : Quantity} (ha : inQ a) (hb : inQ b) (hn : numberFn_S FF o.numbers a.V b.V = some (nf a.V b.V)) (hi : inF (nf a.V b.V)) (hu : unitFn_S FF o.units a.U b.U = some (uf a.U b.U)) :
  unit_operation_do_S FF o a b = some (doQ nf uf a b) := by
 refine Yld.eq ?_
 unfold unit_operation_do_S
 refine Yld.bindE (isRight_2 ha hb) ?_
 cases h1 : (rt a && rt b)
 ·rw [doQ_bad h1]; exact Yld.ift rfl (Yld.some rfl)
 refine Yld.iff rfl (Yld.bindE hu ?_)
 by_cases h2 : (uf a.U b.U).2 = 0
 ·rw [doQ_ok h1 h2]
  refine Yld.iff (by simp [h2]) (Yld.bindE hn (Yld.bindE (quantity_q hi) (Yld.some rfl)))
 ·rw [doQ_err h1 h2]
  exact Yld.ift (by simp [h2]) (Yld.some rfl)
noncomputable abbrev addF := bi addR
noncomputable abbrev subF := bi subR
noncomputable abbrev mulF := bi mulR
noncomputable abbrev divF := bi divR
theorem addF_in (x y : Frc) : inF (addF x y) := bi_in addR_in x y
theorem mulF_in (x y : Frc) : inF (mulF x y) := bi_in (fun r s => ofR_in _) x y
theorem divF_in (x y : Frc) : inF (divF x y) := bi_in divR_in x y
theorem equal_u (u v : MUnit) : unit_equal_S FF u v = some (eqU u v) := by
 unfold unit_equal_S eqU
 by_cases h : u = v
 ·rw [if_neg (by simp [h]), if_neg (by simp [h])]
 ·rw [if_pos (by simp [h]), if_pos h]; rfl
def mulU (u v : MUnit) := cmb u v 1
def divU (u v : MUnit) := cmb u v (-1)
theorem Add_q {a b : Quantity} (ha : inQ a) (hb : inQ b) : unit_Add_S FF a b = some (doQ addF eqU a b) := by
 unfold unit_Add_S
 rw [do_q (o := ⟨22, 87⟩) (nf := addF) (uf := eqU) ha hb (Add_f ha hb) (addF_in _ _) (equal_u _ _)]; rfl
theorem Times_q {a b : Quantity} (ha : inQ a) (hb : inQ b) : unit_Times_S FF a b = some (doQ mulF mulU a b) := by
 unfold unit_Times_S
 rw [do_q (o := ⟨25, 26⟩) (nf := mulF) (uf := mulU) ha hb (Mul_f ha hb) (mulF_in _ _) (Mul_u _ _)]; rfl
theorem Div_q {a b : Quantity} (ha : inQ a) (hb : inQ b) : unit_operation_do_S FF ⟨21, 27⟩ a b = some (doQ divF divU a b) :=
 do_q (nf := divF) (uf := divU) ha hb (Div_f ha hb) (divF_in _ _) (Div_u _ _)
def sgF (x : Frc) : Int := match qF x with
 | some r => sgn r.num
 | none => 0
noncomputable def ovQ (a b : Quantity) : Quantity × Int := if ((rt a && rt b) && decide (sgF b.V = 0)) = true then (zQ, 31) else doQ divF divU a b
theorem Over_q {a b : Quantity} (ha : inQ a) (hb : inQ b) : unit_Over_S FF a b = some (ovQ a b) := by
 refine Yld.eq ?_
 unfold unit_Over_S ovQ
 refine Yld.bindE (isRight_2 ha hb) ?_
 cases h1 : (rt a && rt b)
 ·exact Yld.g0 rfl (Yld.iff rfl (Yld.bindE (Div_q ha hb) (Yld.some rfl)))
 refine Yld.g1 rfl (Yld.bindE (Sign_f hb) ?_)
 show Yld (if (true && decide (sgF b.V = 0)) = true then _ else _) _
 cases h2 : decide (sgF b.V = 0)
 ·exact Yld.iff rfl (Yld.bindE (Div_q ha hb) (Yld.some rfl))
 ·exact Yld.ift rfl (Yld.some rfl)
def cmQ (a b : Quantity) : Int × Int := if (rt a && rt b) = true then (if a.U ≠ b.U then (0, 110) else (cmpF a.V b.V, 0)) else (0, 1)
theorem Cmp_q {a b : Quantity} (ha : inQ a) (hb : inQ b) : unit_Cmp_S FF a b = some (cmQ a b) := by
 refine Yld.eq ?_
 unfold unit_Cmp_S cmQ
 refine Yld.bindE (isRight_2 ha hb) ?_
 cases h1 : (rt a && rt b)
 ·exact Yld.ift rfl (Yld.some rfl)
 refine Yld.iff rfl ?_
 by_cases h : a.U = b.U
 ·exact Yld.iff (by simp [h]) (Yld.bindE (Cmp_f ha hb) (Yld.some (by simp [h])))
 ·exact Yld.ift (by simp [h]) (Yld.some (by simp [h]))
end Go.Proofs.YtcbbilehdaaffaaGreatDoor

namespace Go.Sk
set_option linter.unusedSimpArgs false
set_option linter.unusedVariables false
open Go
def fd : Nat → Nat → Str
 | 0, _ => []
 | k + 1, r => fd k (r / 10) ++ [UInt8.ofNat (48 + r % 10)]
def dv (l : Str) : Nat := l.foldl (fun acc c => 10 * acc + (c.toNat - 48)) 0
def isDig (c : UInt8) : Prop := 48 ≤ c.toNat ∧ c.toNat ≤ 57
end Go.Sk

namespace Go.Sk
set_option linter.unusedSimpArgs false
set_option linter.unusedVariables false
open Go
end Go.Sk
namespace Go.Proofs.YtcbbilehdaaffaaGreatDoor
open Go Go.Sk
set_option linter.unusedSimpArgs false
set_option linter.unusedVariables false
end Go.Proofs.YtcbbilehdaaffaaGreatDoor

namespace Go.Sk
set_option linter.unusedSimpArgs false
set_option linter.unusedVariables false
end Go.Sk
namespace Go.Proofs.YtcbbilehdaaffaaGreatDoor
open Go Go.Sk
set_option linter.unusedSimpArgs false
set_option linter.unusedVariables false
end Go.Proofs.YtcbbilehdaaffaaGreatDoor

namespace Go.Sk
set_option linter.unusedSimpArgs false
set_option linter.unusedVariables false
open Go
def sgnS (s : Str) : Bool := decide (s.head? = some 45)
def digS (s : Str) : Str := if sgnS s = true then s.drop 1 else s
def illS (s : Str) : Prop := digS s = [] ∨ (digS s).head? = some 48 ∧ s ≠ [48]
inductive RdS (s : Str) : Big × Int → Prop where
 | ill (h : illS s) : RdS s (bad, 281)
 | char (h : ¬ illS s) (c : UInt8) (hc : c ∈ digS s) (hn : ¬ isDig c) : RdS s (bad, 281)
 | long (h : ¬ illS s) (hd : ∀ c ∈ digS s, isDig c) (hv : MM ≤ dv (digS s)) : RdS s (bad, 30)
 | num (h : ¬ illS s) (hd : ∀ c ∈ digS s, isDig c) (hv : (dv (digS s) : Int) < MM) : RdS s (big (if sgnS s = true then -(dv (digS s) : Int) else dv (digS s)), 0)
theorem RdS.one {s : Str} {p q : Big × Int} (hp : RdS s p) (hq : RdS s q) : p = q := by
 cases hp with
 | ill h =>
  cases hq with
  | ill _ => rfl
  | char h2 _ _ _ => exact absurd h h2
  | long h2 _ _ => exact absurd h h2
  | num h2 _ _ => exact absurd h h2
 | char h c hc hn =>
  cases hq with
  | ill h2 => exact absurd h2 h
  | char _ _ _ _ => rfl
  | long _ hd _ => exact absurd (hd c hc) hn
  | num _ hd _ => exact absurd (hd c hc) hn
 | long h hd hv =>
  cases hq with
  | ill h2 => exact absurd h2 h
  | char _ c hc hn => exact absurd (hd c hc) hn
  | long _ _ _ => rfl
  | num _ _ hv2 => omega
 | num h hd hv =>
  cases hq with
  | ill h2 => exact absurd h2 h
  | char _ c hc hn => exact absurd (hd c hc) hn
  | long _ _ hv2 => omega
  | num _ _ _ => rfl
end Go.Sk
namespace Go.Proofs.YtcbbilehdaaffaaGreatDoor
open Go Go.Sk
set_option linter.unusedSimpArgs false
set_option linter.unusedVariables false
end Go.Proofs.YtcbbilehdaaffaaGreatDoor

namespace Go.Sk
open Go
end Go.Sk
namespace Go.Proofs.YtcbbilehdaaffaaGreatDoor
open Go Go.Sk
set_option linter.unusedSimpArgs false
set_option linter.unusedVariables false
end Go.Proofs.YtcbbilehdaaffaaGreatDoor

namespace Go.Sk
set_option linter.unusedSimpArgs false
set_option linter.unusedVariables false
open Go
end Go.Sk

namespace Go.Sk
open Go
set_option linter.unusedSimpArgs false
set_option linter.unusedVariables false
def sl : Str → Nat
 | [] => 0
 | c :: r => if c = 47 then 0 else sl r + 1
end Go.Sk
namespace Go.Proofs.YtcbbilehdaaffaaGreatDoor
open Go Go.Sk
set_option linter.unusedSimpArgs false
set_option linter.unusedVariables false
def rdF (p : Big) (e : Int) (q : Big) (f : Int) (two : Bool) (b : Str) : Frc × Int :=
 if e = 281 ∨ f = 281 ∨ two = true ∧ (b = [48] ∨ b = [49] ∨ b.head? = some 45) then (bf, 281)
 else if e ≠ 0 ∨ f ≠ 0 then (bf, 30)
 else if (qF ⟨p, q⟩).isSome = true then (⟨p, q⟩, 0) else (bf, 281)
def RdF (s : Str) (r : Frc × Int) : Prop := ∃ p e q f, RdS (s.take (sl s)) (p, e) ∧ (if sl s < s.length then RdS (s.drop (sl s + 1)) (q, f) else q = big 1 ∧ f = 0) ∧ r = rdF p e q f (decide (sl s < s.length)) (s.drop (sl s + 1))
theorem RdF.one {s : Str} {r t : Frc × Int} (h1 : RdF s r) (h2 : RdF s t) : r = t := by
 obtain ⟨p, e, q, f, a1, a2, rfl⟩ := h1
 obtain ⟨p', e', q', f', b1, b2, rfl⟩ := h2
 have c1 := RdS.one a1 b1
 cases c1
 by_cases h : sl s < s.length
 ·rw [if_pos h] at a2 b2
  have c2 := RdS.one a2 b2
  cases c2
  rfl
 ·rw [if_neg h] at a2 b2
  rw [a2.1, a2.2, b2.1, b2.2]
end Go.Proofs.YtcbbilehdaaffaaGreatDoor

namespace Go.Proofs.YtcbbilehdaaffaaGreatDoor
open Go Go.Sk
set_option linter.unusedSimpArgs false
set_option linter.unusedVariables false
end Go.Proofs.YtcbbilehdaaffaaGreatDoor

namespace Go.Proofs.YtcbbilehdaaffaaGreatDoor
open Go Go.Sk
set_option linter.unusedSimpArgs false
set_option linter.unusedVariables false
end Go.Proofs.YtcbbilehdaaffaaGreatDoor

namespace Go.Proofs.YtcbbilehdaaffaaGreatDoor
open Go Go.Sk
set_option linter.unusedSimpArgs false
set_option linter.unusedVariables false
def szK (r : Rat) (k : Nat) : Prop := r.num.natAbs < 2 ^ k ∧ r.den < 2 ^ k
theorem pow_up {k j : Nat} (h : k ≤ j) : (2 : Nat) ^ k ≤ 2 ^ j := Nat.pow_le_pow_right (by decide) h
theorem MM500 : ((2 ^ 500 : Nat) : Int) < MM := by rw [MM_eq]; decide +kernel
theorem pow_MM : ∀ k : Nat, k ≤ 500 → ((2 ^ k : Nat) : Int) < MM := fun k hk => Int.lt_of_le_of_lt (Int.ofNat_le.2 (pow_up hk)) MM500
theorem sz_fits {r : Rat} {k : Nat} (h : szK r k) (hk : k ≤ 500) : fits r := by
 have h1 := pow_MM k hk
 obtain ⟨a, b⟩ := h
 refine ⟨⟨?_, ?_⟩, ⟨?_, ?_⟩⟩ <;> omega
theorem divInt_sz {n d : Int} {k : Nat} (h : d ≠ 0) (hn : n.natAbs < 2 ^ k) (hd : d.natAbs < 2 ^ k) : szK (Rat.divInt n d) k := by
 obtain ⟨g0, g1, g2⟩ := red (n := n) h
 have e1 := congrArg Int.natAbs g1
 have e2 := congrArg Int.natAbs g2
 rw [Int.natAbs_mul] at e1 e2
 have gp : 1 ≤ (gcdS n d).natAbs := by omega
 have b1 : (Rat.divInt n d).num.natAbs ≤ n.natAbs := by rw [← e1]; exact Nat.le_mul_of_pos_right _ (by omega)
 have b2 : (Rat.divInt n d).den ≤ d.natAbs := by
  rw [← e2, Int.natAbs_natCast]; exact Nat.le_mul_of_pos_right _ (by omega)
 exact ⟨by omega, by omega⟩
theorem add_q (r s : Rat) : r + s = Rat.divInt (r.num * s.den + s.num * r.den) (r.den * s.den) := by
 rw [← Rat.num_divInt_den r, ← Rat.num_divInt_den s, Rat.divInt_add_divInt _ _ (by have := r.den_nz; omega) (by have := s.den_nz; omega), Rat.num_divInt_den, Rat.num_divInt_den]
theorem pow_mul_lt {a b i j : Nat} (h1 : a < 2 ^ i) (h2 : b < 2 ^ j) : a * b < 2 ^ (i + j) := by
 rw [Nat.pow_add]
 exact Nat.mul_lt_mul'' h1 h2
theorem sz_add {r s : Rat} {i j : Nat} (h1 : szK r i) (h2 : szK s j) : szK (r + s) (i + j + 1) := by
 rw [add_q]
 have a := pow_mul_lt h1.1 h2.2
 have b := pow_mul_lt h2.1 h1.2
 have c := pow_mul_lt h1.2 h2.2
 rw [Nat.add_comm j i] at b
 have p : 2 ^ (i + j + 1) = 2 ^ (i + j) * 2 := Nat.pow_succ ..
 refine divInt_sz ?_ ?_ ?_
 ·have := r.den_nz
  have := s.den_nz
  exact Int.mul_ne_zero (by omega) (by omega)
 ·have e1 : (r.num * (s.den : Int)).natAbs = r.num.natAbs * s.den := by rw [Int.natAbs_mul, Int.natAbs_natCast]
  have e2 : (s.num * (r.den : Int)).natAbs = s.num.natAbs * r.den := by rw [Int.natAbs_mul, Int.natAbs_natCast]
  have := Int.natAbs_add_le (r.num * (s.den : Int)) (s.num * (r.den : Int))
  omega
 ·rw [Int.natAbs_mul, Int.natAbs_natCast, Int.natAbs_natCast]; omega
theorem mul_q (r s : Rat) : r * s = Rat.divInt (r.num * s.num) (r.den * s.den) := by
 rw [← Rat.num_divInt_den r, ← Rat.num_divInt_den s, Rat.divInt_mul_divInt, Rat.num_divInt_den, Rat.num_divInt_den]
theorem sz_mul {r s : Rat} {i j : Nat} (h1 : szK r i) (h2 : szK s j) : szK (r * s) (i + j) := by
 rw [mul_q]
 refine divInt_sz ?_ ?_ ?_
 ·have := r.den_nz
  have := s.den_nz
  exact Int.mul_ne_zero (by omega) (by omega)
 ·rw [Int.natAbs_mul]; exact pow_mul_lt h1.1 h2.1
 ·rw [Int.natAbs_mul, Int.natAbs_natCast, Int.natAbs_natCast]; exact pow_mul_lt h1.2 h2.2
theorem sz_InM {z : Int} {k : Nat} (h : z.natAbs < 2 ^ k) (hk : k ≤ 500) : InM z := by
 have := pow_MM k hk
 constructor <;> omega
theorem addR_sz {r s : Rat} {i j : Nat} (h1 : szK r i) (h2 : szK s j) (hk : i + j + 1 ≤ 500) : addR r s = mk (r + s) := by
 have a1 := qd_pos r s
 have a2 := qd_le r s
 have b1 := qd_pos s r
 have b2 := qd_le s r
 have q1 : (qd r s).natAbs < 2 ^ i := by have := h1.2; omega
 have q2 : (qd s r).natAbs < 2 ^ j := by have := h2.2; omega
 have m1 : (r.num * qd s r).natAbs < 2 ^ (i + j) := by rw [Int.natAbs_mul]; exact pow_mul_lt h1.1 q2
 have m2 : (s.num * qd r s).natAbs < 2 ^ (i + j) := by rw [Int.natAbs_mul, Nat.add_comm]; exact pow_mul_lt h2.1 q1
 have m3 : (qd r s * s.den).natAbs < 2 ^ (i + j) := by rw [Int.natAbs_mul, Int.natAbs_natCast]; exact pow_mul_lt q1 h2.2
 have p : 2 ^ (i + j + 1) = 2 ^ (i + j) * 2 := Nat.pow_succ ..
 have m4 : (r.num * qd s r + s.num * qd r s).natAbs < 2 ^ (i + j + 1) := by
  have := Int.natAbs_add_le (r.num * qd s r) (s.num * qd r s)
  omega
 rw [addR_ok (sz_InM m1 (by omega)) (sz_InM m2 (by omega)) (sz_InM m4 hk) (sz_InM m3 (by omega)), ofR_fits (sz_fits (sz_add h1 h2) hk)]
theorem mulR_sz {r s : Rat} {i j : Nat} (h1 : szK r i) (h2 : szK s j) (hk : i + j ≤ 500) : mulR r s = mk (r * s) := by
 unfold mulR; rw [ofR_fits (sz_fits (sz_mul h1 h2) hk)]
end Go.Proofs.YtcbbilehdaaffaaGreatDoor

namespace Go.Proofs.YtcbbilehdaaffaaGreatDoor
open Go Go.Sk
set_option maxRecDepth 100000
theorem sanity_y : skewbacklaw11_sanity_S FF = some true := by
 unfold skewbacklaw11_sanity_S unit_Write_S q_Text_S w_Text_S unit_Print_S
 simp only [itoa_S_K]
 decide +kernel
end Go.Proofs.YtcbbilehdaaffaaGreatDoor

namespace Go.Proofs.YtcbbilehdaaffaaGreatDoor
open Go Go.Sk
set_option linter.unusedSimpArgs false
set_option linter.unusedVariables false
def fewQ (a : Quantity) : Bool := rt a && (match qF a.V with
 | some r => decide (blen (absZ r.num) ≤ 60) && decide (blen (absZ (r.den : Int)) ≤ 60)
 | none => false)
theorem few_q {a : Quantity} (ha : inQ a) : skewbacklaw11_few_S FF a = some (fewQ a) := by
 refine Yld.eq ?_
 unfold skewbacklaw11_few_S fewQ
 refine Yld.bindE (rRight_q ha) ?_
 cases h : rt a
 ·exact Yld.g0 rfl (Yld.g0 rfl (Yld.some rfl))
 obtain ⟨⟨r, hr⟩, _⟩ := rt_iff.1 h
 obtain ⟨hf, e⟩ := qF_some ha hr
 have e1 : r3_Bits_S FF a.V.N = some (blen (absZ r.num)) := by rw [e, mk_N, rBits_y FF2 (big_in _), iv_big hf.1]
 have e2 : r3_Bits_S FF a.V.D = some (blen (absZ (r.den : Int))) := by rw [e, mk_D, rBits_y FF2 (big_in _), iv_big hf.2]
 rw [hr]
 refine Yld.g1 rfl (Yld.bindE e1 ?_)
 dsimp only
 cases h2 : decide (blen (absZ r.num) ≤ 60)
 ·exact Yld.g0 rfl (Yld.some (by simp))
 ·exact Yld.g1 rfl (Yld.bindE e2 (Yld.some (by simp)))
theorem blen_sz {z : Int} (h : blen (absZ z) ≤ 60) : z.natAbs < 2 ^ 60 := by
 have h1 := lt_blen (m := absZ z)
 have h2 : (2 : Int) ^ (blen (absZ z)).toNat ≤ 2 ^ 60 := by
  have : (2 : Nat) ^ (blen (absZ z)).toNat ≤ 2 ^ 60 := Nat.pow_le_pow_right (by decide) (by omega)
  exact_mod_cast this
 have h3 : (2 : Int) ^ 60 = ((2 ^ 60 : Nat) : Int) := by norm_cast
 have h4 : absZ z = (z.natAbs : Int) := by unfold absZ; split <;> omega
 omega
theorem few_iff {a : Quantity} (ha : inQ a) (h : fewQ a = true) : ∃ r, a = ⟨mk r, a.U⟩ ∧ qF a.V = some r ∧ fits r ∧ szK r 60 ∧ vU a.U = true := by
 unfold fewQ at h
 rw [Bool.and_eq_true] at h
 obtain ⟨h0, h1⟩ := h
 obtain ⟨⟨r, hr⟩, hu⟩ := rt_iff.1 h0
 obtain ⟨hf, e⟩ := qF_some ha hr
 rw [hr] at h1
 simp only [Bool.and_eq_true, decide_eq_true_eq] at h1
 have s1 := blen_sz h1.1
 have s2 := blen_sz h1.2
 rw [Int.natAbs_natCast] at s2
 refine ⟨r, by cases a; simp only at e; rw [e], hr, hf, ⟨s1, s2⟩, hu⟩
theorem rt_mk {r : Rat} {u : MUnit} (hf : fits r) (hu : vU u = true) : rt ⟨mk r, u⟩ = true := rt_iff.2 ⟨⟨r, qF_mk hf⟩, hu⟩
theorem quF_mk {r : Rat} {u : MUnit} (hf : fits r) : quF (mk r) u = (⟨mk r, u⟩, 0) := by unfold quF; rw [qF_mk hf]; rfl
theorem add_sz {r s : Rat} {i j : Nat} {u : MUnit} (h1 : szK r i) (h2 : szK s j) (hk : i + j + 1 ≤ 500) (hu : vU u = true) : doQ addF eqU ⟨mk r, u⟩ ⟨mk s, u⟩ = (⟨mk (r + s), u⟩, 0) := by
 have f1 : fits r := sz_fits h1 (by omega)
 have f2 : fits s := sz_fits h2 (by omega)
 have e : (eqU u u) = (u, 0) := by simp [eqU]
 rw [doQ_ok (by rw [rt_mk f1 hu, rt_mk f2 hu]; rfl) (by show (eqU u u).2 = 0; rw [e])]
 show quF (bi addR (mk r) (mk s)) (eqU u u).1 = _
 rw [e, bi_some (qF_mk f1) (qF_mk f2), addR_sz h1 h2 hk, quF_mk (sz_fits (sz_add h1 h2) hk)]
theorem mul_sz {r s : Rat} {i j : Nat} {u v : MUnit} (h1 : szK r i) (h2 : szK s j) (hk : i + j ≤ 500) (hu : vU u = true) (hv : vU v = true) : doQ mulF mulU ⟨mk r, u⟩ ⟨mk s, v⟩ = if vU (cmU u v 1) = true then (⟨mk (r * s), cmU u v 1⟩, 0) else (zQ, 2) := by
 have f1 : fits r := sz_fits h1 (by omega)
 have f2 : fits s := sz_fits h2 (by omega)
 have e := cmb_ok hu hv (n := 1) (by decide)
 have hb : (rt ⟨mk r, u⟩ && rt ⟨mk s, v⟩) = true := by rw [rt_mk f1 hu, rt_mk f2 hv]; rfl
 cases h : vU (cmU u v 1)
 ·rw [h, if_neg (by decide)] at e
  rw [if_neg (by decide), doQ_err hb (by show (cmb u v 1).2 ≠ 0; rw [e]; decide)]
  show (zQ, (cmb u v 1).2) = _
  rw [e]
 ·rw [h, if_pos rfl] at e
  rw [if_pos rfl, doQ_ok hb (by show (cmb u v 1).2 = 0; rw [e])]
  show quF (bi mulR (mk r) (mk s)) (cmb u v 1).1 = _
  rw [e, bi_some (qF_mk f1) (qF_mk f2), mulR_sz h1 h2 hk, quF_mk (sz_fits (sz_mul h1 h2) hk)]
theorem sgn_mk {r : Rat} (hf : fits r) : sgF (mk r) = sgn r.num := by unfold sgF; rw [qF_mk hf]
theorem over_sz {r s : Rat} {u v : MUnit} (h1 : szK r 60) (h2 : szK s 60) (h0 : s.num ≠ 0) (hu : vU u = true) (hv : vU v = true) (hw : vU (cmU u v 1) = true) : ovQ ⟨mk (r * s), cmU u v 1⟩ ⟨mk s, v⟩ = (⟨mk r, u⟩, 0) := by
 have f1 : fits r := sz_fits h1 (by omega)
 have f2 : fits s := sz_fits h2 (by omega)
 have f3 : fits (r * s) := sz_fits (sz_mul h1 h2) (by omega)
 have hb : (rt ⟨mk (r * s), cmU u v 1⟩ && rt ⟨mk s, v⟩) = true := by rw [rt_mk f3 hw, rt_mk f2 hv]; rfl
 have hs : s ≠ 0 := fun e => h0 (by rw [e]; rfl)
 have e2 : cmb (cmU u v 1) v (-1) = (u, 0) := by
  rw [cmb_ok hw hv (by decide)]
  have : cmU (cmU u v 1) v (-1) = u := by simp only [cmU]; cases u; simp only [MUnit.mk.injEq]; omega
  rw [this, if_pos hu]
 unfold ovQ
 rw [if_neg (by rw [hb, sgn_mk f2]; simp only [Bool.true_and, decide_eq_true_eq]; unfold sgn; split <;> (try split) <;> omega)]
 rw [doQ_ok hb (by show (cmb (cmU u v 1) v (-1)).2 = 0; rw [e2])]
 show quF (bi divR (mk (r * s)) (mk s)) (cmb (cmU u v 1) v (-1)).1 = _
 rw [e2, bi_some (qF_mk f3) (qF_mk f2)]
 unfold divR
 rw [if_neg h0, Rat.mul_div_cancel hs, ofR_fits f1, quF_mk f1]
theorem mixes_y {a b c : Quantity} (ha : inQ a) (hb : inQ b) (hc : inQ c) : skewbacklaw11_UnitNeverMixes_S FF a b c = some true := by
 refine Yld.eq ?_
 unfold skewbacklaw11_UnitNeverMixes_S
 refine Yld.bindE (few_q ha) ?_
 cases h1 : fewQ a
 ·exact Yld.g0 rfl (Yld.g0 rfl (Yld.ift rfl (Yld.bindE sanity_y (Yld.some rfl))))
 refine Yld.g1 rfl (Yld.bindE (few_q hb) ?_)
 cases h2 : fewQ b
 ·exact Yld.g0 rfl (Yld.ift rfl (Yld.bindE sanity_y (Yld.some rfl)))
 refine Yld.g1 rfl (Yld.bindE (few_q hc) ?_)
 cases h3 : fewQ c
 ·exact Yld.ift rfl (Yld.bindE sanity_y (Yld.some rfl))
 obtain ⟨r, ea, _, fr, sr, ua⟩ := few_iff ha h1
 obtain ⟨s, eb, _, fs, ss, ub⟩ := few_iff hb h2
 obtain ⟨t, ec, qc, ft, st, uc⟩ := few_iff hc h3
 have ra : rt a = true := by rw [ea]; exact rt_mk fr ua
 have rb : rt b = true := by rw [eb]; exact rt_mk fs ub
 have rab : (rt a && rt b) = true := by rw [ra, rb]; rfl
 have rba : (rt b && rt a) = true := by rw [ra, rb]; rfl
 refine Yld.iff rfl (Yld.bindE (Add_q ha hb) (Yld.bindE (Add_q hb ha) (Yld.bindE (Cmp_q ha hb) ?_)))
 have hsum : doQ addF eqU b a = doQ addF eqU a b := by
  by_cases hu : a.U = b.U
  ·rw [ea, eb, ← hu, add_sz sr ss (by omega) ua, add_sz ss sr (by omega) ua, Rat.add_comm]
  ·have e1 : eqU a.U b.U = (zU, 110) := by unfold eqU; rw [if_pos hu]
   have e2 : eqU b.U a.U = (zU, 110) := by unfold eqU; rw [if_pos (Ne.symm hu)]
   rw [doQ_err rab (by rw [e1]; decide), doQ_err rba (by rw [e2]; decide), e1, e2]
 rw [hsum]
 have hcm : (cmQ a b).2 = if a.U ≠ b.U then 110 else 0 := by unfold cmQ; rw [if_pos rab]; split <;> rfl
 have hsm : (doQ addF eqU a b).2 = if a.U ≠ b.U then 110 else 0 := by
  by_cases hu : a.U = b.U
  ·rw [if_neg (by simp [hu]), ea, eb, ← hu, add_sz sr ss (by omega) ua]
  ·have e1 : eqU a.U b.U = (zU, 110) := by unfold eqU; rw [if_pos hu]
   rw [if_pos hu, doQ_err rab (by rw [e1]; decide), e1]
 refine Yld.lnE false ?_ (Yld.lnE false ?_ (Yld.iff rfl ?_))
 ·rw [hsm]; by_cases hu : a.U = b.U <;> simp [hu]
 ·rw [hcm]; by_cases hu : a.U = b.U <;> simp [hu]
 refine Yld.bindE (Times_q ha hc) (Yld.bind (P := fun o => o = .inl ()) ?_ ?_)
 ·have hm := mul_sz (u := a.U) (v := c.U) sr st (by omega) ua uc
  rw [← ea, ← ec] at hm
  rw [hm]
  cases h4 : vU (cmU a.U c.U 1)
  ·rw [if_neg (by decide)]
   exact Yld.g0 rfl (Yld.iff rfl (Yld.some rfl))
  ·rw [if_pos rfl]
   refine Yld.g1 rfl (Yld.bindE (Sign_f hc) ?_)
   rw [qc]
   by_cases h5 : t.num = 0
   ·exact Yld.iff (by simp [h5, sgn]) (Yld.some rfl)
   ·have h6 : sgn t.num ≠ 0 := by unfold sgn; split <;> (try split) <;> omega
    refine Yld.ift (by simp [h6]) (Yld.bindE (Over_q (mk_in _) hc) ?_)
    have ho := over_sz (u := a.U) (v := c.U) sr st h5 ua uc h4
    rw [← ea, ← ec] at ho
    rw [ho]
    exact Yld.iff (by simp) (Yld.some rfl)
 ·rintro _ rfl
  by_cases hu : a.U = b.U
  ·have e1 : doQ addF eqU a b = (⟨mk (r + s), a.U⟩, 0) := by
    have := add_sz (u := a.U) sr ss (by omega) ua
    rw [← ea] at this
    have eb' : b = ⟨mk s, a.U⟩ := by rw [eb, hu]
    rwa [← eb'] at this
   rw [e1]
   have srs := sz_add sr ss
   have eb' : b = ⟨mk s, a.U⟩ := by rw [eb, hu]
   have m1 := mul_sz (u := a.U) (v := c.U) sr st (by omega) ua uc
   have m2 := mul_sz (u := a.U) (v := c.U) ss st (by omega) ua uc
   have m3 := mul_sz (u := a.U) (v := c.U) srs st (by omega) ua uc
   rw [← ea, ← ec] at m1
   rw [← eb', ← ec] at m2
   rw [← ec] at m3
   refine Yld.iff rfl (Yld.bindE (Times_q (mk_in _) hc) (Yld.bindE (Times_q hb hc) ?_))
   rw [m1, m2, m3]
   cases h4 : vU (cmU a.U c.U 1)
   ·rw [if_neg (by decide), if_neg (by decide), if_neg (by decide)]
    exact Yld.iff (by simp) (Yld.ift (by simp) (Yld.bindE sanity_y (Yld.some rfl)))
   ·rw [if_pos rfl, if_pos rfl, if_pos rfl]
    refine Yld.iff (by simp) (Yld.iff (by simp) (Yld.bindE (Add_q (mk_in _) (mk_in _)) (Yld.bindE sanity_y ?_)))
    rw [add_sz (sz_mul sr st) (sz_mul ss st) (by omega) h4, ← Rat.add_mul]
    exact Yld.some (by simp)
  ·have e1 : eqU a.U b.U = (zU, 110) := by unfold eqU; rw [if_pos hu]
   rw [doQ_err rab (by rw [e1]; decide), e1]
   exact Yld.ift (by simp) (Yld.bindE sanity_y (Yld.lnE true (decide_eq_true (p := zQ = zQ) rfl) (Yld.some rfl)))
end Go.Proofs.YtcbbilehdaaffaaGreatDoor

namespace Go.Proofs.YtcbbilehdaaffaaGreatDoor
open Go Go.Sk
end Go.Proofs.YtcbbilehdaaffaaGreatDoor

namespace Go.Sk
open Go
theorem int_mem_rel {h : PH} {cs : List CP} {L : List Value} {k : IntKind} {z : Int} (hr : cellsRel h cs L) (hm : CP.int k z ∈ cs) : inR k z := by
 obtain ⟨i, hi, he⟩ := List.getElem_of_mem hm
 obtain ⟨u, _, hu⟩ := All2.get hr i (.int k z) (by rw [List.getElem?_eq_getElem hi, he])
 exact hu.2
end Go.Sk
namespace Go.Proofs.YtcbbilehdaaffaaGreatDoor
open Go Go.Sk
theorem inD_of {w : A16} (H : ∀ z ∈ w.l, inR .u32 z) : inD 4294967296 w.l := fun i => by
 by_cases hi : i < w.l.length
 ·have h1 := H w.l[i] (List.getElem_mem hi)
  have e : dg w.l i = w.l[i] := by simp [dg, List.getD, List.getElem?_eq_getElem hi]
  rw [e]
  have h2 : 0 ≤ w.l[i] ∧ w.l[i] ≤ 4294967295 := by simpa [inR, IntKind.min, IntKind.max, IntKind.signed, IntKind.bits] using h1
  omega
 ·rw [dg_ge (by omega)]; decide
theorem inF_ints {x : Frc} (H : ∀ z, CP.int .u32 z ∈ eFrc x → inR .u32 z) : inF x := by
 refine ⟨inD_of fun z hz => H z ?_, inD_of fun z hz => H z ?_⟩
 ·unfold eFrc eBig
  exact List.mem_append_left _ (List.mem_cons_of_mem _ (List.mem_cons_of_mem _ (List.mem_map_of_mem hz)))
 ·unfold eFrc eBig
  exact List.mem_append_right _ (List.mem_cons_of_mem _ (List.mem_cons_of_mem _ (List.mem_map_of_mem hz)))
end Go.Proofs.YtcbbilehdaaffaaGreatDoor

namespace Go.Proofs.YtcbbilehdaaffaaGreatDoor
open Go Go.Sk
theorem inQ_of {x : Quantity} {h : PH} {v : Value} (hx : (BV.agg (eQuantity x)).rel h (fun _ => .bool false) v) : inQ x := by
 obtain ⟨cs, _, hr⟩ := hx
 refine inF_ints fun z hz => int_mem_rel hr ?_
 unfold eQuantity
 exact List.mem_append_left _ hz
end Go.Proofs.YtcbbilehdaaffaaGreatDoor

namespace Go.Proofs.YtcbbilehdaaffaaGreatDoor
open Go Go.Sk
theorem mixes_law {mx : Int} (a : Quantity) (b : Quantity) (c : Quantity) (ha : inQ a) (hb : inQ b) (hc : inQ c) : Meets Tryz.prog (tabs mx) 8 [] [.agg (eQuantity a), .agg (eQuantity b), .agg (eQuantity c)] (Is [] (.b (.one (.bool true)))) :=
 skewbacklaw11_UnitNeverMixes_spec (mixes_y ha hb hc)
end Go.Proofs.YtcbbilehdaaffaaGreatDoor

