/- the plain law -/
import Derived.Test.YtdjnlmmhbeeihaaGreatDoorP1
namespace Go.Proofs.YtdjnlmmhbeeihaaGreatDoor
open Go Go.Sk
set_option linter.unusedSimpArgs false
set_option linter.unusedVariables false
def un (f : Rat → Frc) (x : Frc) : Frc := match qF x with
 | some r => f r
 | none => bf
def bi (f : Rat → Rat → Frc) (x y : Frc) : Frc := match qF x, qF y with
 | some r, some s => f r s
 | _, _ => bf
theorem un_none {f : Rat → Frc} {x : Frc} (h : qF x = none) : un f x = bf := by unfold un; rw [h]
theorem un_some {f : Rat → Frc} {x : Frc} {r : Rat} (h : qF x = some r) : un f x = f r := by unfold un; rw [h]
theorem bi_none1 {f : Rat → Rat → Frc} {x y : Frc} (h : qF x = none) : bi f x y = bf := by unfold bi; rw [h]
theorem bi_none2 {f : Rat → Rat → Frc} {x y : Frc} (h : qF y = none) : bi f x y = bf := by unfold bi; rw [h]; cases qF x <;> rfl
theorem bi_some {f : Rat → Rat → Frc} {x y : Frc} {r s : Rat} (h : qF x = some r) (h2 : qF y = some s) : bi f x y = f r s := by unfold bi; rw [h, h2]
theorem neg_nd (r : Rat) : (-r).num = -r.num ∧ (-r).den = r.den := ⟨rfl, rfl⟩
theorem neg_fits {r : Rat} (h : fits r) : fits (-r) := by
 obtain ⟨⟨h1, h2⟩, h3⟩ := h
 exact ⟨by rw [(neg_nd r).1]; constructor <;> omega, by rw [(neg_nd r).2]; exact h3⟩
theorem mk_N (r : Rat) : (mk r).N = big r.num := by simp only [mk]
theorem mk_D (r : Rat) : (mk r).D = big r.den := by simp only [mk]
theorem Neg_f {x : Frc} (hx : inF x) : q_Neg_S FF x = some (un (fun r => ofR (-r)) x) := by
 refine Yld.eq ?_
 unfold q_Neg_S
 refine Yld.bindE (Good_f hx) ?_
 cases hq : qF x with
 | none => rw [un_none hq]; exact Yld.ift rfl (Yld.bindE Bad_f (Yld.some rfl))
 | some r =>
  obtain ⟨hf, rfl⟩ := qF_some hx hq
  rw [un_some hq, ofR_fits (neg_fits hf), mk_N, mk_D]
  refine Yld.iff rfl (Yld.bindE (x := big (-r.num)) (by rw [Neg_y FF1 (big_in _), one_big hf.1]; rfl) (Yld.some ?_))
  unfold mk
  rw [(neg_nd r).1, (neg_nd r).2]
theorem un_in {f : Rat → Frc} (hf : ∀ r, inF (f r)) (x : Frc) : inF (un f x) := by unfold un; split; exact hf _; exact bf_in
theorem bi_in {f : Rat → Rat → Frc} (hf : ∀ r s, inF (f r s)) (x y : Frc) : inF (bi f x y) := by unfold bi; split; exact hf _ _; exact bf_in
theorem mkB_big {a b : Int} (ra : InM a) (rb : InM b) (h : b ≠ 0) : mkB (big a) (big b) = ofR (Rat.divInt a b) := by
 unfold mkB
 rw [iv_big ra, iv_big rb]
 dsimp only
 rw [if_neg h]
def qd (r s : Rat) : Int := ((r.den / Nat.gcd r.den s.den : Nat) : Int)
theorem qd_mul (r s : Rat) : (r.den : Int) = qd r s * (Nat.gcd r.den s.den : Nat) := by
 unfold qd
 have := Nat.div_mul_cancel (Nat.gcd_dvd_left r.den s.den)
 rw [← Int.natCast_mul, this]
theorem gcd_den_pos (r s : Rat) : (0 : Int) < (Nat.gcd r.den s.den : Nat) := by
 have := Nat.gcd_pos_of_pos_left s.den (show 0 < r.den from r.den_pos)
 omega
theorem qd_pos (r s : Rat) : 0 < qd r s := by
 have h := qd_mul r s
 have h0 := den_pos r
 have h1 := gcd_den_pos r s
 rcases (by omega : qd r s ≤ 0 ∨ 0 < qd r s) with h2 | h2
 ·have := Int.mul_nonpos_of_nonpos_of_nonneg h2 (Int.le_of_lt h1)
  omega
 ·exact h2
theorem qd_le (r s : Rat) : qd r s ≤ r.den := by
 unfold qd
 have := Nat.div_le_self r.den (Nat.gcd r.den s.den)
 omega
theorem qd_comm (r s : Rat) : qd r s * s.den = qd s r * r.den := by
 have h1 := qd_mul r s
 have h2 := qd_mul s r
 rw [Nat.gcd_comm] at h2
 rw [h1, h2]
 grind
abbrev plus := fun a b : Int => some (a + b)
noncomputable def addR (r s : Rat) : Frc := mkB (two plus (big (r.num * qd s r)) (big (s.num * qd r s))) (big (qd r s * s.den))
theorem two_comm (x y : Big) : two plus x y = two plus y x := by
 unfold two
 cases iv x <;> cases iv y <;> simp [plus, Int.add_comm]
theorem addR_comm (r s : Rat) : addR r s = addR s r := by
 unfold addR
 rw [two_comm, qd_comm]
theorem toB_some (z : Int) : toB (some z) = big z := rfl
theorem addR_ok {r s : Rat} (h1 : InM (r.num * qd s r)) (h2 : InM (s.num * qd r s)) (h3 : InM (r.num * qd s r + s.num * qd r s)) (h4 : InM (qd r s * s.den)) : addR r s = ofR (r + s) := by
 unfold addR
 rw [two_big h1 h2, toB_some, mkB_big h3 h4 (by have := Int.mul_pos (qd_pos r s) (den_pos s); omega), sum_q r s (qd_mul r s) (by have := qd_mul s r; rwa [Nat.gcd_comm] at this)]
theorem mkB_bad1 {x y : Big} (h : iv x = none) : mkB x y = bf := by unfold mkB; rw [h]
theorem mkB_bad2 {x y : Big} (h : iv y = none) : mkB x y = bf := by unfold mkB; rw [h]; cases iv x <;> rfl
theorem iv_out {z : Int} (h : ¬ InM z) : iv (big z) = none := by rw [big_out h, iv_bad]
theorem two_bad1 {f : Int → Int → Option Int} {x y : Big} (h : iv x = none) : two f x y = bad := by unfold two; rw [h]
theorem two_bad2 {f : Int → Int → Option Int} {x y : Big} (h : iv y = none) : two f x y = bad := by unfold two; rw [h]; cases iv x <;> rfl
theorem addR_or (r s : Rat) : addR r s = ofR (r + s) ∨ addR r s = bf := by
 by_cases h1 : InM (r.num * qd s r)
 ·by_cases h2 : InM (s.num * qd r s)
  ·by_cases h3 : InM (r.num * qd s r + s.num * qd r s)
   ·by_cases h4 : InM (qd r s * s.den)
    ·exact .inl (addR_ok h1 h2 h3 h4)
    ·exact .inr (by unfold addR; exact mkB_bad2 (iv_out h4))
   ·exact .inr (by unfold addR; exact mkB_bad1 (by rw [two_big h1 h2, toB_some]; exact iv_out h3))
  ·exact .inr (by unfold addR; exact mkB_bad1 (by rw [two_bad2 (iv_out h2)]; exact iv_bad))
 ·exact .inr (by unfold addR; exact mkB_bad1 (by rw [two_bad1 (iv_out h1)]; exact iv_bad))
theorem qd_in {r s : Rat} (h : fits r) : InM (qd r s) := by
 have := qd_pos r s
 have := qd_le r s
 have := h.2.2
 have := MM_pos
 constructor <;> omega
theorem fq_den (r s : Rat) : fq (r.den : Int) (Nat.gcd r.den s.den : Nat) = qd r s := by
 have := fq_mul (q := qd r s) (g := (Nat.gcd r.den s.den : Nat)) (by have := gcd_den_pos r s; omega)
 rwa [← qd_mul] at this
theorem gcd_in {r s : Rat} (h : fits r) : InM (Nat.gcd r.den s.den : Nat) := by
 have := Nat.gcd_le_left s.den (show 0 < r.den from r.den_pos)
 have := h.2.2
 have := MM_pos
 constructor <;> omega
theorem addR_in (r s : Rat) : inF (addR r s) := mkB_in _ _
theorem Add_f {x y : Frc} (hx : inF x) (hy : inF y) : q_Add_S FF x y = some (bi addR x y) := by
 refine Yld.eq ?_
 unfold q_Add_S
 refine Yld.bindE (Good_f hx) ?_
 cases hq : qF x with
 | none => rw [bi_none1 hq]; exact Yld.g0 rfl (Yld.ift rfl (Yld.bindE Bad_f (Yld.some rfl)))
 | some r =>
  obtain ⟨hf, rfl⟩ := qF_some hx hq
  refine Yld.g1 rfl (Yld.bindE (Good_f hy) ?_)
  cases hq2 : qF y with
  | none => rw [bi_none2 hq2]; exact Yld.ift rfl (Yld.bindE Bad_f (Yld.some rfl))
  | some s =>
   obtain ⟨hs, rfl⟩ := qF_some hy hq2
   rw [bi_some hq hq2, mk_N, mk_D, mk_N, mk_D]
   have e1 := fq_den r s
   have e2 := fq_den s r
   rw [Nat.gcd_comm] at e2
   have hg := gcd_den_pos r s
   have gi := gcd_in (s := s) hf
   refine Yld.iff rfl (Yld.bindE (Gcd_v hf.2 hs.2) ?_)
   rw [Int.natAbs_natCast, Int.natAbs_natCast]
   refine Yld.bindE (Quo_v hf.2 gi (by omega)) (Yld.bindE (Quo_v hs.2 gi (by omega)) ?_)
   rw [e1, e2]
   refine Yld.bindE (Mul_v hf.1 (qd_in hs)) (Yld.bindE (Mul_v hs.1 (qd_in hf)) (Yld.bindE (Add_y FF1 (big_in _) (big_in _)) (Yld.bindE (Mul_v (qd_in hf) hs.2) (Yld.bindE (Make_f (two_in _ _ _) (big_in _)) (Yld.some rfl)))))
noncomputable def subR (r s : Rat) : Frc := addR r (-s)
theorem Sub_f {x y : Frc} (hx : inF x) (hy : inF y) : q_Sub_S FF x y = some (bi subR x y) := by
 refine Yld.eq ?_
 unfold q_Sub_S
 refine Yld.bindE (Neg_f hy) (Yld.bindE (Add_f hx (un_in (fun r => ofR_in _) _)) (Yld.some ?_))
 cases hq2 : qF y with
 | none => rw [un_none hq2, bi_none2 hq2, bi_none2 qF_bf]
 | some s =>
  obtain ⟨hs, rfl⟩ := qF_some hy hq2
  rw [un_some hq2, ofR_fits (neg_fits hs)]
  cases hq : qF x with
  | none => rw [bi_none1 hq, bi_none1 hq]
  | some r => rw [bi_some hq hq2, bi_some hq (qF_mk (neg_fits hs))]; rfl
theorem prod_fits {r s : Rat} (hr : fits r) (hs : fits s) : fits (Rat.divInt r.num s.den) ∧ fits (Rat.divInt s.num r.den) :=
 ⟨red_fits (by have := den_pos s; omega) hr.1 hs.2, red_fits (by have := den_pos r; omega) hs.1 hr.2⟩
noncomputable def mulR (r s : Rat) : Frc := ofR (r * s)
theorem Mul_f {x y : Frc} (hx : inF x) (hy : inF y) : q_Mul_S FF x y = some (bi mulR x y) := by
 refine Yld.eq ?_
 unfold q_Mul_S
 refine Yld.bindE (Good_f hx) ?_
 cases hq : qF x with
 | none => rw [bi_none1 hq]; exact Yld.g0 rfl (Yld.ift rfl (Yld.bindE Bad_f (Yld.some rfl)))
 | some r =>
  obtain ⟨hf, rfl⟩ := qF_some hx hq
  refine Yld.g1 rfl (Yld.bindE (Good_f hy) ?_)
  cases hq2 : qF y with
  | none => rw [bi_none2 hq2]; exact Yld.ift rfl (Yld.bindE Bad_f (Yld.some rfl))
  | some s =>
   obtain ⟨hs, rfl⟩ := qF_some hy hq2
   rw [bi_some hq hq2, mk_N, mk_D, mk_N, mk_D]
   have h0 := den_pos r
   have h1 := den_pos s
   obtain ⟨fa, fb⟩ := prod_fits hf hs
   have hp := prod_q r s
   refine Yld.iff rfl (Yld.bindE (Make_f (big_in _) (big_in _)) (Yld.bindE (Make_f (big_in _) (big_in _)) ?_))
   rw [mkB_big hf.1 hs.2 (by omega), mkB_big hs.1 hf.2 (by omega), ofR_fits fa, ofR_fits fb, mk_N, mk_D, mk_N, mk_D]
   refine Yld.bindE (Mul_v fa.1 fb.1) (Yld.bindE (Mul_v fa.2 fb.2) ?_)
   rw [← hp.1, ← hp.2, big_Bad, big_Bad]
   unfold mulR
   by_cases h : fits (r * s)
   ·rw [ofR_fits h, decide_eq_true h.1, decide_eq_true h.2]
    exact Yld.iff rfl (Yld.some rfl)
   ·rw [ofR_not h]
    refine Yld.ift ?_ (Yld.bindE Bad_f (Yld.some rfl))
    by_cases h2 : InM (r * s).num
    ·have h3 : ¬ InM (r * s).den := fun h3 => h ⟨h2, h3⟩
     simp [h3]
    ·simp [h2]
theorem inv_r (s : Rat) : Rat.divInt s.den s.num = s⁻¹ := (Rat.inv_def s).symm
noncomputable def divR (r s : Rat) : Frc := if s.num = 0 then bf else ofR (r / s)
theorem divR_in (r s : Rat) : inF (divR r s) := by unfold divR; split; exact bf_in; exact ofR_in _
theorem mkB_zero {a : Int} {x : Big} : mkB x (big 0) = bf := by
 unfold mkB
 rw [iv_big zero_InM]
 cases iv x with
 | none => rfl
 | some a => dsimp only; rw [if_pos rfl]
theorem inv_fits {s : Rat} (h : s.num ≠ 0) (hs : fits s) : fits s⁻¹ := by rw [← inv_r]; exact red_fits h hs.2 hs.1
theorem mkB_inv {s : Rat} (hs : fits s) (h : s.num ≠ 0) : mkB (big s.den) (big s.num) = mk s⁻¹ := by
 rw [mkB_big hs.2 hs.1 h, inv_r, ofR_fits (inv_fits h hs)]
theorem Div_f {x y : Frc} (hx : inF x) (hy : inF y) : q_Div_S FF x y = some (bi divR x y) := by
 refine Yld.eq ?_
 unfold q_Div_S
 refine Yld.bindE (Good_f hy) ?_
 cases hq2 : qF y with
 | none => rw [bi_none2 hq2]; exact Yld.ift rfl (Yld.bindE Bad_f (Yld.some rfl))
 | some s =>
  obtain ⟨hs, rfl⟩ := qF_some hy hq2
  refine Yld.iff rfl ?_
  rw [mk_N, mk_D]
  refine Yld.bindE (Make_f (big_in _) (big_in _)) (Yld.bindE (Mul_f hx (mkB_in _ _)) (Yld.some ?_))
  cases hq : qF x with
  | none => rw [bi_none1 hq, bi_none1 hq]
  | some r =>
   rw [bi_some hq hq2]
   unfold divR
   by_cases h : s.num = 0
   ·rw [if_pos h, h, mkB_zero (a := 0), bi_none2 qF_bf]
   ·rw [if_neg h, mkB_inv hs h, bi_some hq (qF_mk (inv_fits h hs))]
    unfold mulR
    rw [Rat.div_def]
theorem Sign_f {x : Frc} (hx : inF x) : q_Sign_S FF x = some (match qF x with | some r => sgn r.num | none => 0) := by
 refine Yld.eq ?_
 unfold q_Sign_S
 refine Yld.bindE (Good_f hx) ?_
 cases hq : qF x with
 | none => exact Yld.ift rfl (Yld.some rfl)
 | some r =>
  obtain ⟨hf, rfl⟩ := qF_some hx hq
  exact Yld.iff rfl (Yld.bindE (Sign_v hf.1) (Yld.some rfl))
theorem Whole_f {n : Big} (hn : inB n) : q_Whole_S FF n = some (mkB n (big 1)) := by
 unfold q_Whole_S
 rw [one_y, Option.bind_some, Make_f hn (big_in 1)]; rfl
theorem int_nd (z : Int) : ((z : Rat)).num = z ∧ ((z : Rat)).den = 1 := ⟨rfl, rfl⟩
theorem int_fits {z : Int} (h : InM z) : fits (z : Rat) := by
 refine ⟨by rw [(int_nd z).1]; exact h, ?_⟩
 rw [(int_nd z).2]
 exact one_InM
theorem divInt_one (z : Int) : Rat.divInt z 1 = (z : Rat) := by
 rw [divInt_q]
 have : ((1 : Int) : Rat) = 1 := rfl
 rw [this, Rat.div_def]
 grind
theorem mkB_one {z : Int} (h : InM z) : mkB (big z) (big 1) = mk (z : Rat) := by
 rw [mkB_big h one_InM (by decide), divInt_one, ofR_fits (int_fits h)]
theorem in64_M {n : Int} (h : -9223372036854775808 ≤ n ∧ n ≤ 9223372036854775807) : InM n := by
 have := MM_big
 constructor <;> omega
theorem Of_f {n : Int} (h : -9223372036854775808 ≤ n ∧ n ≤ 9223372036854775807) : q_Of_S FF n = some (mk (n : Rat)) := by
 unfold q_Of_S
 rw [Of_v h.1 h.2, Option.bind_some, Whole_f (big_in _), mkB_one (in64_M h)]; rfl
end Go.Proofs.YtdjnlmmhbeeihaaGreatDoor

namespace Go.Proofs.YtdjnlmmhbeeihaaGreatDoor
open Go Go.Sk
set_option linter.unusedSimpArgs false
set_option linter.unusedVariables false
theorem rSign_v {a : Int} (ra : InM a) : r3_Sign_S FF (big a) = some (sgn a) := by rw [rSign_y FF2 (big_in a), iv_big ra]
theorem rOf_v {n : Int} (h0 : -9223372036854775808 ≤ n) (h1 : n ≤ 9223372036854775807) : r3_Of_S FF n = some (big n) := rOf_y FF2 h0 h1
theorem rone_y : r4_one_S FF = some (big 1) := by
 unfold r4_one_S
 rw [rOf_v (by decide) (by decide)]; rfl
theorem rGood_f {x : Frc} (hx : inF x) : r4_Good_S FF x = some (qF x).isSome := by
 refine Yld.eq ?_
 unfold r4_Good_S qF
 refine Yld.bindE (rGood_y FF2 hx.1) ?_
 cases hn : iv x.N with
 | none =>
  rw [iv_none hn]
  exact Yld.g0 rfl (Yld.ift rfl (Yld.some rfl))
 | some n =>
  obtain ⟨gn, en, rn⟩ := iv_some hx.1 hn
  rw [gn]
  refine Yld.g1 rfl (Yld.bindE (rGood_y FF2 hx.2) ?_)
  cases hd : iv x.D with
  | none =>
   rw [iv_none hd]
   exact Yld.ift rfl (Yld.some rfl)
  | some d =>
   obtain ⟨gd, ed, rd⟩ := iv_some hx.2 hd
   rw [gd, en, ed]
   refine Yld.iff rfl (Yld.bindE (rSign_v rd) ?_)
   rw [sgn_pos]
   by_cases h0 : 0 < d
   ·rw [decide_eq_true h0]
    refine Yld.g1 rfl (Yld.bindE (rGcd_v rn rd) (Yld.g1 rfl (Yld.bindE rone_y (Yld.some ?_))))
    have hg : InM (Nat.gcd n.natAbs d.natAbs : Nat) := by
     have := Nat.gcd_le_right n.natAbs (show 0 < d.natAbs by omega)
     have := rd.1; have := rd.2
     constructor <;> omega
    have e : (big (Nat.gcd n.natAbs d.natAbs : Nat) = big 1) = (Nat.gcd n.natAbs d.natAbs = 1) := by
     rw [eq_iff_iff, big_inj hg one_InM]; omega
    simp only [e]
    by_cases h1 : Nat.gcd n.natAbs d.natAbs = 1
    ·simp [h1, h0]
    ·simp [h1]
   ·rw [decide_eq_false h0]
    refine Yld.g0 rfl (Yld.g0 rfl (Yld.some ?_))
    simp [h0]
end Go.Proofs.YtdjnlmmhbeeihaaGreatDoor

namespace Go.Proofs.YtdjnlmmhbeeihaaGreatDoor
open Go Go.Sk
set_option maxRecDepth 100000
theorem sanity_y : l4_sanity_S FF = some true := by
 unfold l4_sanity_S l4_text_S q_Text_S w_Text_S
 simp only [itoa_S_K]
 decide +kernel
end Go.Proofs.YtdjnlmmhbeeihaaGreatDoor

namespace Go.Proofs.YtdjnlmmhbeeihaaGreatDoor
open Go Go.Sk
set_option linter.unusedSimpArgs false
set_option linter.unusedVariables false
theorem qF_ofR_val {a u : Rat} (h : qF (ofR a) = some u) : u = a := by
 rw [qF_ofR] at h
 split at h
 ·exact (Option.some.inj h).symm
 ·cases h
theorem val_add {X Y : Frc} {u : Rat} (h : qF (bi addR X Y) = some u) : ∃ a b, qF X = some a ∧ qF Y = some b ∧ u = a + b := by
 cases h1 : qF X with
 | none => rw [bi_none1 h1, qF_bf] at h; cases h
 | some a =>
  cases h2 : qF Y with
  | none => rw [bi_none2 h2, qF_bf] at h; cases h
  | some b =>
   rw [bi_some h1 h2] at h
   rcases addR_or a b with e | e
   ·rw [e] at h; exact ⟨a, b, rfl, rfl, qF_ofR_val h⟩
   ·rw [e, qF_bf] at h; cases h
theorem val_sub {X Y : Frc} {u : Rat} (h : qF (bi subR X Y) = some u) : ∃ a b, qF X = some a ∧ qF Y = some b ∧ u = a - b := by
 cases h1 : qF X with
 | none => rw [bi_none1 h1, qF_bf] at h; cases h
 | some a =>
  cases h2 : qF Y with
  | none => rw [bi_none2 h2, qF_bf] at h; cases h
  | some b =>
   rw [bi_some h1 h2] at h
   unfold subR at h
   rcases addR_or a (-b) with e | e
   ·rw [e] at h; exact ⟨a, b, rfl, rfl, by rw [Rat.sub_eq_add_neg]; exact qF_ofR_val h⟩
   ·rw [e, qF_bf] at h; cases h
theorem val_mul {X Y : Frc} {u : Rat} (h : qF (bi mulR X Y) = some u) : ∃ a b, qF X = some a ∧ qF Y = some b ∧ u = a * b := by
 cases h1 : qF X with
 | none => rw [bi_none1 h1, qF_bf] at h; cases h
 | some a =>
  cases h2 : qF Y with
  | none => rw [bi_none2 h2, qF_bf] at h; cases h
  | some b =>
   rw [bi_some h1 h2] at h
   exact ⟨a, b, rfl, rfl, qF_ofR_val h⟩
theorem val_div {X Y : Frc} {u : Rat} (h : qF (bi divR X Y) = some u) : ∃ a b, qF X = some a ∧ qF Y = some b ∧ b ≠ 0 ∧ u = a / b := by
 cases h1 : qF X with
 | none => rw [bi_none1 h1, qF_bf] at h; cases h
 | some a =>
  cases h2 : qF Y with
  | none => rw [bi_none2 h2, qF_bf] at h; cases h
  | some b =>
   rw [bi_some h1 h2] at h
   unfold divR at h
   split at h
   ·rw [qF_bf] at h; cases h
   ·next h0 => exact ⟨a, b, rfl, rfl, fun e => h0 (by rw [e]; rfl), qF_ofR_val h⟩
theorem same_f {a b : Frc} (ha : inF a) (hb : inF b) (H : ∀ r s, qF a = some r → qF b = some s → r = s) : l4_RatioIsAField_1_S FF a b = some true := by
 refine Yld.eq ?_
 unfold l4_RatioIsAField_1_S
 refine Yld.bindE (Good_f ha) ?_
 cases h1 : qF a with
 | none => exact Yld.g0 rfl (Yld.some rfl)
 | some r =>
  refine Yld.g1 rfl (Yld.bindE (Good_f hb) (Yld.some ?_))
  cases h2 : qF b with
  | none => rfl
  | some s =>
   obtain ⟨_, ea⟩ := qF_some ha h1
   obtain ⟨_, eb⟩ := qF_some hb h2
   have := H r s h1 h2
   subst this
   rw [ea, eb]; simp
theorem add_in (x y : Frc) : inF (bi addR x y) := bi_in addR_in x y
theorem sub_in (x y : Frc) : inF (bi subR x y) := bi_in (fun r s => addR_in _ _) x y
theorem mul_in (x y : Frc) : inF (bi mulR x y) := bi_in (fun r s => ofR_in _) x y
theorem div_in (x y : Frc) : inF (bi divR x y) := bi_in divR_in x y
theorem add_comm_f (x y : Frc) : bi addR x y = bi addR y x := by
 unfold bi
 cases qF x <;> cases qF y <;> simp [addR_comm]
theorem mul_comm_f (x y : Frc) : bi mulR x y = bi mulR y x := by
 unfold bi mulR
 cases qF x <;> cases qF y <;> simp [Rat.mul_comm]
theorem one_fits : fits ((1 : Int) : Rat) := int_fits one_InM
theorem zero_fits : fits ((0 : Int) : Rat) := int_fits zero_InM
theorem field_y {x y z : Frc} (hx : inF x) (hy : inF y) (hz : inF z) : l4_RatioIsAField_S FF x y z = some true := by
 refine Yld.eq ?_
 unfold l4_RatioIsAField_S
 refine Yld.bindE (rGood_f hx) ?_
 cases h1 : qF x with
 | none => exact Yld.g0 rfl (Yld.g0 rfl (Yld.ift rfl (Yld.bindE sanity_y (Yld.some rfl))))
 | some r =>
  refine Yld.g1 rfl (Yld.bindE (rGood_f hy) ?_)
  cases h2 : qF y with
  | none => exact Yld.g0 rfl (Yld.ift rfl (Yld.bindE sanity_y (Yld.some rfl)))
  | some s =>
   refine Yld.g1 rfl (Yld.bindE (rGood_f hz) ?_)
   cases h3 : qF z with
   | none => exact Yld.ift rfl (Yld.bindE sanity_y (Yld.some rfl))
   | some t =>
    obtain ⟨fr, ex⟩ := qF_some hx h1
    refine Yld.iff rfl (Yld.bindE (Add_f hx hy) (Yld.bindE (Add_f hy hx) ?_))
    rw [add_comm_f y x, decide_eq_true rfl]
    refine Yld.g1 rfl (Yld.bindE (Mul_f hx hy) (Yld.g1 rfl (Yld.bindE (Mul_f hy hx) ?_)))
    rw [mul_comm_f y x, decide_eq_true rfl]
    refine Yld.g1 rfl (Yld.bindE (Add_f hx hy) (Yld.g1 rfl (Yld.bindE (Add_f (add_in _ _) hz) (Yld.g1 rfl (Yld.bindE (Add_f hy hz) (Yld.g1 rfl (Yld.bindE (Add_f hx (add_in _ _)) ?_)))))))
    refine Yld.g1 rfl (Yld.bindE (same_f (add_in _ _) (add_in _ _) fun u v hu hv => ?_) ?_)
    ·obtain ⟨a, b, e1, e2, rfl⟩ := val_add hu
     obtain ⟨a', b', e3, e4, rfl⟩ := val_add e1
     obtain ⟨c, d, f1, f2, rfl⟩ := val_add hv
     obtain ⟨c', d', f3, f4, rfl⟩ := val_add f2
     rw [f1] at e3; rw [f3] at e4; rw [f4] at e2
     cases e3; cases e4; cases e2
     exact Rat.add_assoc _ _ _
    refine Yld.g1 rfl (Yld.bindE (Mul_f hx hy) (Yld.g1 rfl (Yld.bindE (Mul_f (mul_in _ _) hz) (Yld.g1 rfl (Yld.bindE (Mul_f hy hz) (Yld.g1 rfl (Yld.bindE (Mul_f hx (mul_in _ _)) ?_)))))))
    refine Yld.g1 rfl (Yld.bindE (same_f (mul_in _ _) (mul_in _ _) fun u v hu hv => ?_) ?_)
    ·obtain ⟨a, b, e1, e2, rfl⟩ := val_mul hu
     obtain ⟨a', b', e3, e4, rfl⟩ := val_mul e1
     obtain ⟨c, d, f1, f2, rfl⟩ := val_mul hv
     obtain ⟨c', d', f3, f4, rfl⟩ := val_mul f2
     rw [f1] at e3; rw [f3] at e4; rw [f4] at e2
     cases e3; cases e4; cases e2
     exact Rat.mul_assoc _ _ _
    refine Yld.g1 rfl (Yld.bindE (Add_f hy hz) (Yld.g1 rfl (Yld.bindE (Mul_f hx (add_in _ _)) (Yld.g1 rfl (Yld.bindE (Mul_f hx hy) (Yld.g1 rfl (Yld.bindE (Mul_f hx hz) (Yld.g1 rfl (Yld.bindE (Add_f (mul_in _ _) (mul_in _ _)) ?_)))))))))
    refine Yld.g1 rfl (Yld.bindE (same_f (mul_in _ _) (add_in _ _) fun u v hu hv => ?_) ?_)
    ·obtain ⟨a, b, e1, e2, rfl⟩ := val_mul hu
     obtain ⟨b', c', e3, e4, rfl⟩ := val_add e2
     obtain ⟨p, q, f1, f2, rfl⟩ := val_add hv
     obtain ⟨a1, b1, g1, g2, rfl⟩ := val_mul f1
     obtain ⟨a2, b2, g3, g4, rfl⟩ := val_mul f2
     rw [e1] at g1 g3; rw [e3] at g2; rw [e4] at g4
     cases g1; cases g3; cases g2; cases g4
     exact Rat.mul_add _ _ _
    refine Yld.bindE (Sub_f hx hx) (Yld.bindE (Of_f (by decide)) (Yld.bindE (same_f (sub_in _ _) (mk_in _) fun u v hu hv => ?_) ?_))
    ·obtain ⟨a, b, e1, e2, rfl⟩ := val_sub hu
     rw [e1] at e2
     cases e2
     rw [qF_mk zero_fits] at hv
     rw [Rat.sub_self]
     exact Option.some.inj hv
    refine Yld.g1 rfl (Yld.bindE (Add_f hx hy) (Yld.g1 rfl (Yld.bindE (Sub_f (add_in _ _) hy) (Yld.g1 rfl (Yld.bindE (same_f (sub_in _ _) hx fun u v hu hv => ?_) ?_)))))
    ·obtain ⟨a, b, e1, e2, rfl⟩ := val_sub hu
     obtain ⟨c, d, e3, e4, rfl⟩ := val_add e1
     rw [e3] at hv; rw [e4] at e2
     cases hv; cases e2
     exact Rat.add_sub_cancel
    refine Yld.bind (P := fun o => o = true) (Yld.bindE (Sign_f hx) (Yld.ite (fun h => ?_) (fun h => Yld.some rfl))) ?_
    ·rw [h1] at h
     have hr : r.num ≠ 0 := by
      intro e
      have h' := of_decide_eq_true h
      dsimp only at h'
      rw [e] at h'
      exact h' rfl
     have hr0 : r ≠ 0 := fun e => hr (by rw [e]; rfl)
     refine Yld.g1 rfl (Yld.bindE (Div_f hx hx) (Yld.g1 rfl (Yld.bindE (Of_f (by decide)) ?_)))
     have e1 : bi divR x x = mk ((1 : Int) : Rat) := by
      rw [bi_some h1 h1]
      unfold divR
      have hrr : r / r = ((1 : Int) : Rat) := by
       rw [Rat.div_def, Rat.mul_inv_cancel r hr0]; rfl
      rw [if_neg hr, hrr, ofR_fits one_fits]
     rw [decide_eq_true e1]
     refine Yld.g1 rfl (Yld.bindE (Mul_f hy hx) (Yld.g1 rfl (Yld.bindE (Div_f (mul_in _ _) hx) (Yld.g1 rfl (Yld.bindE (same_f (div_in _ _) hy fun u v hu hv => ?_) (Yld.some rfl))))))
     obtain ⟨a, b, e1, e2, h0, rfl⟩ := val_div hu
     obtain ⟨c, d, e3, e4, rfl⟩ := val_mul e1
     rw [e3] at hv; rw [e4] at e2
     cases hv; cases e2
     exact Rat.mul_div_cancel h0
    ·rintro o rfl
     exact Yld.bindE sanity_y (Yld.ln (Yld.some rfl))
end Go.Proofs.YtdjnlmmhbeeihaaGreatDoor

namespace Go.Proofs.YtdjnlmmhbeeihaaGreatDoor
open Go Go.Sk
end Go.Proofs.YtdjnlmmhbeeihaaGreatDoor

namespace Go.Sk
open Go
theorem int_mem_rel {h : PH} {cs : List CP} {L : List Value} {k : IntKind} {z : Int} (hr : cellsRel h cs L) (hm : CP.int k z ∈ cs) : inR k z := by
 obtain ⟨i, hi, he⟩ := List.getElem_of_mem hm
 obtain ⟨u, _, hu⟩ := All2.get hr i (.int k z) (by rw [List.getElem?_eq_getElem hi, he])
 exact hu.2
end Go.Sk
namespace Go.Proofs.YtdjnlmmhbeeihaaGreatDoor
open Go Go.Sk
theorem inD_of {w : A16} (H : ∀ z ∈ w.l, inR .u32 z) : inD 4294967296 w.l := fun i => by
 by_cases hi : i < w.l.length
 ·have h1 := H w.l[i] (List.getElem_mem hi)
  have e : dg w.l i = w.l[i] := by simp [dg, List.getD, List.getElem?_eq_getElem hi]
  rw [e]
  have h2 : 0 ≤ w.l[i] ∧ w.l[i] ≤ 4294967295 := by simpa [inR, IntKind.min, IntKind.max, IntKind.signed, IntKind.bits] using h1
  omega
 ·rw [dg_ge (by omega)]; decide
theorem inF_ints {x : Frc} (H : ∀ z, CP.int .u32 z ∈ eFrc x → inR .u32 z) : inF x := by
 refine ⟨inD_of fun z hz => H z ?_, inD_of fun z hz => H z ?_⟩
 ·unfold eFrc eBig
  exact List.mem_append_left _ (List.mem_cons_of_mem _ (List.mem_cons_of_mem _ (List.mem_map_of_mem hz)))
 ·unfold eFrc eBig
  exact List.mem_append_right _ (List.mem_cons_of_mem _ (List.mem_cons_of_mem _ (List.mem_map_of_mem hz)))
theorem inF_of {x : Frc} {h : PH} {v : Value} (hx : (BV.agg (eFrc x)).rel h (fun _ => .bool false) v) : inF x := by
 obtain ⟨cs, _, hr⟩ := hx
 exact inF_ints fun z hz => int_mem_rel hr hz
end Go.Proofs.YtdjnlmmhbeeihaaGreatDoor

namespace Go.Proofs.YtdjnlmmhbeeihaaGreatDoor
open Go Go.Sk
theorem field_law {mx : Int} (x : Frc) (y : Frc) (z : Frc) (hx : inF x) (hy : inF y) (hz : inF z) : Meets Tryz.prog (tabs mx) 6 [] [.agg (eFrc x), .agg (eFrc y), .agg (eFrc z)] (Is [] (.b (.one (.bool true)))) :=
 l4_RatioIsAField_spec (field_y hx hy hz)
end Go.Proofs.YtdjnlmmhbeeihaaGreatDoor

