/- the plain law -/
import Derived.Test.YtcbbilehdaaffaaGreatDoorP1
namespace Go.Proofs.YtcbbilehdaaffaaGreatDoor
open Go Go.Sk
set_option linter.unusedSimpArgs false
set_option linter.unusedVariables false
def bi (f : Rat → Rat → Frc) (x y : Frc) : Frc := match qF x, qF y with
 | some r, some s => f r s
 | _, _ => bf
theorem bi_none1 {f : Rat → Rat → Frc} {x y : Frc} (h : qF x = none) : bi f x y = bf := by unfold bi; rw [h]
theorem bi_none2 {f : Rat → Rat → Frc} {x y : Frc} (h : qF y = none) : bi f x y = bf := by unfold bi; rw [h]; cases qF x <;> rfl
theorem bi_some {f : Rat → Rat → Frc} {x y : Frc} {r s : Rat} (h : qF x = some r) (h2 : qF y = some s) : bi f x y = f r s := by unfold bi; rw [h, h2]
theorem mk_N (r : Rat) : (mk r).N = big r.num := by simp only [mk]
theorem mk_D (r : Rat) : (mk r).D = big r.den := by simp only [mk]
theorem bi_in {f : Rat → Rat → Frc} (hf : ∀ r s, inF (f r s)) (x y : Frc) : inF (bi f x y) := by unfold bi; split; exact hf _ _; exact bf_in
theorem mkB_big {a b : Int} (ra : InM a) (rb : InM b) (h : b ≠ 0) : mkB (big a) (big b) = ofR (Rat.divInt a b) := by
 unfold mkB
 rw [iv_big ra, iv_big rb]
 dsimp only
 rw [if_neg h]
def qd (r s : Rat) : Int := ((r.den / Nat.gcd r.den s.den : Nat) : Int)
abbrev plus := fun a b : Int => some (a + b)
noncomputable def addR (r s : Rat) : Frc := mkB (two plus (big (r.num * qd s r)) (big (s.num * qd r s))) (big (qd r s * s.den))
noncomputable def subR (r s : Rat) : Frc := addR r (-s)
theorem prod_fits {r s : Rat} (hr : fits r) (hs : fits s) : fits (Rat.divInt r.num s.den) ∧ fits (Rat.divInt s.num r.den) :=
 ⟨red_fits (by have := den_pos s; omega) hr.1 hs.2, red_fits (by have := den_pos r; omega) hs.1 hr.2⟩
noncomputable def mulR (r s : Rat) : Frc := ofR (r * s)
theorem Mul_f {x y : Frc} (hx : inF x) (hy : inF y) : q_Mul_S FF x y = some (bi mulR x y) := by
 refine Yld.eq ?_
 unfold q_Mul_S
 refine Yld.bindE (Good_f hx) ?_
 cases hq : qF x with
 | none => rw [bi_none1 hq]; exact Yld.g0 rfl (Yld.ift rfl (Yld.bindE Bad_f (Yld.some rfl)))
 | some r =>
  obtain ⟨hf, rfl⟩ := qF_some hx hq
  refine Yld.g1 rfl (Yld.bindE (Good_f hy) ?_)
  cases hq2 : qF y with
  | none => rw [bi_none2 hq2]; exact Yld.ift rfl (Yld.bindE Bad_f (Yld.some rfl))
  | some s =>
   obtain ⟨hs, rfl⟩ := qF_some hy hq2
   rw [bi_some hq hq2, mk_N, mk_D, mk_N, mk_D]
   have h0 := den_pos r
   have h1 := den_pos s
   obtain ⟨fa, fb⟩ := prod_fits hf hs
   have hp := prod_q r s
   refine Yld.iff rfl (Yld.bindE (Make_f (big_in _) (big_in _)) (Yld.bindE (Make_f (big_in _) (big_in _)) ?_))
   rw [mkB_big hf.1 hs.2 (by omega), mkB_big hs.1 hf.2 (by omega), ofR_fits fa, ofR_fits fb, mk_N, mk_D, mk_N, mk_D]
   refine Yld.bindE (Mul_v fa.1 fb.1) (Yld.bindE (Mul_v fa.2 fb.2) ?_)
   rw [← hp.1, ← hp.2, big_Bad, big_Bad]
   unfold mulR
   by_cases h : fits (r * s)
   ·rw [ofR_fits h, decide_eq_true h.1, decide_eq_true h.2]
    exact Yld.iff rfl (Yld.some rfl)
   ·rw [ofR_not h]
    refine Yld.ift ?_ (Yld.bindE Bad_f (Yld.some rfl))
    by_cases h2 : InM (r * s).num
    ·have h3 : ¬ InM (r * s).den := fun h3 => h ⟨h2, h3⟩
     simp [h3]
    ·simp [h2]
theorem inv_r (s : Rat) : Rat.divInt s.den s.num = s⁻¹ := (Rat.inv_def s).symm
noncomputable def divR (r s : Rat) : Frc := if s.num = 0 then bf else ofR (r / s)
theorem divR_in (r s : Rat) : inF (divR r s) := by unfold divR; split; exact bf_in; exact ofR_in _
theorem mkB_zero {a : Int} {x : Big} : mkB x (big 0) = bf := by
 unfold mkB
 rw [iv_big zero_InM]
 cases iv x with
 | none => rfl
 | some a => dsimp only; rw [if_pos rfl]
theorem inv_fits {s : Rat} (h : s.num ≠ 0) (hs : fits s) : fits s⁻¹ := by rw [← inv_r]; exact red_fits h hs.2 hs.1
theorem mkB_inv {s : Rat} (hs : fits s) (h : s.num ≠ 0) : mkB (big s.den) (big s.num) = mk s⁻¹ := by
 rw [mkB_big hs.2 hs.1 h, inv_r, ofR_fits (inv_fits h hs)]
theorem Div_f {x y : Frc} (hx : inF x) (hy : inF y) : q_Div_S FF x y = some (bi divR x y) := by
 refine Yld.eq ?_
 unfold q_Div_S
 refine Yld.bindE (Good_f hy) ?_
 cases hq2 : qF y with
 | none => rw [bi_none2 hq2]; exact Yld.ift rfl (Yld.bindE Bad_f (Yld.some rfl))
 | some s =>
  obtain ⟨hs, rfl⟩ := qF_some hy hq2
  refine Yld.iff rfl ?_
  rw [mk_N, mk_D]
  refine Yld.bindE (Make_f (big_in _) (big_in _)) (Yld.bindE (Mul_f hx (mkB_in _ _)) (Yld.some ?_))
  cases hq : qF x with
  | none => rw [bi_none1 hq, bi_none1 hq]
  | some r =>
   rw [bi_some hq hq2]
   unfold divR
   by_cases h : s.num = 0
   ·rw [if_pos h, h, mkB_zero (a := 0), bi_none2 qF_bf]
   ·rw [if_neg h, mkB_inv hs h, bi_some hq (qF_mk (inv_fits h hs))]
    unfold mulR
    rw [Rat.div_def]
theorem Whole_f {n : Big} (hn : inB n) : q_Whole_S FF n = some (mkB n (big 1)) := by
 unfold q_Whole_S
 rw [one_y, Option.bind_some, Make_f hn (big_in 1)]; rfl
theorem int_nd (z : Int) : ((z : Rat)).num = z ∧ ((z : Rat)).den = 1 := ⟨rfl, rfl⟩
theorem int_fits {z : Int} (h : InM z) : fits (z : Rat) := by
 refine ⟨by rw [(int_nd z).1]; exact h, ?_⟩
 rw [(int_nd z).2]
 exact one_InM
theorem divInt_one (z : Int) : Rat.divInt z 1 = (z : Rat) := by
 rw [divInt_q]
 have : ((1 : Int) : Rat) = 1 := rfl
 rw [this, Rat.div_def]
 grind
theorem mkB_one {z : Int} (h : InM z) : mkB (big z) (big 1) = mk (z : Rat) := by
 rw [mkB_big h one_InM (by decide), divInt_one, ofR_fits (int_fits h)]
theorem in64_M {n : Int} (h : -9223372036854775808 ≤ n ∧ n ≤ 9223372036854775807) : InM n := by
 have := MM_big
 constructor <;> omega
theorem Of_f {n : Int} (h : -9223372036854775808 ≤ n ∧ n ≤ 9223372036854775807) : q_Of_S FF n = some (mk (n : Rat)) := by
 unfold q_Of_S
 rw [Of_v h.1 h.2, Option.bind_some, Whole_f (big_in _), mkB_one (in64_M h)]; rfl
theorem Frac_f {a b : Int} (ha : -9223372036854775808 ≤ a ∧ a ≤ 9223372036854775807) (hb : -9223372036854775808 ≤ b ∧ b ≤ 9223372036854775807) : q_Frac_S FF a b = some (mkB (big a) (big b)) := by
 unfold q_Frac_S
 rw [Of_v ha.1 ha.2, Option.bind_some, Of_v hb.1 hb.2, Option.bind_some, Make_f (big_in _) (big_in _)]; rfl
end Go.Proofs.YtcbbilehdaaffaaGreatDoor

namespace Go.Proofs.YtcbbilehdaaffaaGreatDoor
open Go Go.Sk
set_option linter.unusedSimpArgs false
set_option linter.unusedVariables false
theorem rSign_v {a : Int} (ra : InM a) : r3_Sign_S FF (big a) = some (sgn a) := by rw [rSign_y FF2 (big_in a), iv_big ra]
theorem rOf_v {n : Int} (h0 : -9223372036854775808 ≤ n) (h1 : n ≤ 9223372036854775807) : r3_Of_S FF n = some (big n) := rOf_y FF2 h0 h1
theorem rone_y : r4_one_S FF = some (big 1) := by
 unfold r4_one_S
 rw [rOf_v (by decide) (by decide)]; rfl
theorem rGood_f {x : Frc} (hx : inF x) : r4_Good_S FF x = some (qF x).isSome := by
 refine Yld.eq ?_
 unfold r4_Good_S qF
 refine Yld.bindE (rGood_y FF2 hx.1) ?_
 cases hn : iv x.N with
 | none =>
  rw [iv_none hn]
  exact Yld.g0 rfl (Yld.ift rfl (Yld.some rfl))
 | some n =>
  obtain ⟨gn, en, rn⟩ := iv_some hx.1 hn
  rw [gn]
  refine Yld.g1 rfl (Yld.bindE (rGood_y FF2 hx.2) ?_)
  cases hd : iv x.D with
  | none =>
   rw [iv_none hd]
   exact Yld.ift rfl (Yld.some rfl)
  | some d =>
   obtain ⟨gd, ed, rd⟩ := iv_some hx.2 hd
   rw [gd, en, ed]
   refine Yld.iff rfl (Yld.bindE (rSign_v rd) ?_)
   rw [sgn_pos]
   by_cases h0 : 0 < d
   ·rw [decide_eq_true h0]
    refine Yld.g1 rfl (Yld.bindE (rGcd_v rn rd) (Yld.g1 rfl (Yld.bindE rone_y (Yld.some ?_))))
    have hg : InM (Nat.gcd n.natAbs d.natAbs : Nat) := by
     have := Nat.gcd_le_right n.natAbs (show 0 < d.natAbs by omega)
     have := rd.1; have := rd.2
     constructor <;> omega
    have e : (big (Nat.gcd n.natAbs d.natAbs : Nat) = big 1) = (Nat.gcd n.natAbs d.natAbs = 1) := by
     rw [eq_iff_iff, big_inj hg one_InM]; omega
    simp only [e]
    by_cases h1 : Nat.gcd n.natAbs d.natAbs = 1
    ·simp [h1, h0]
    ·simp [h1]
   ·rw [decide_eq_false h0]
    refine Yld.g0 rfl (Yld.g0 rfl (Yld.some ?_))
    simp [h0]
end Go.Proofs.YtcbbilehdaaffaaGreatDoor

namespace Go.Proofs.YtcbbilehdaaffaaGreatDoor
open Go Go.Sk
set_option linter.unusedSimpArgs false
set_option linter.unusedVariables false
structure CmpI (c : Int) (p q r s o : Int) : Prop where
 ip : InM p
 iq : InM q
 ir : InM r
 is : InM s
 q0 : 0 < q
 s0 : 0 < s
 o1 : o = 1 ∨ o = -1
 val : o * cross p q r s = c
theorem CmpI.next {c p q r s o : Int} (h : CmpI c p q r s o) (he : p / q = r / s) (h1 : p % q ≠ 0) (h2 : r % s ≠ 0) : CmpI c q (p % q) s (r % s) (-o) := by
 have a0 := Int.emod_nonneg p (show q ≠ 0 by have := h.q0; omega)
 have a1 := Int.emod_lt_of_pos p h.q0
 have b0 := Int.emod_nonneg r (show s ≠ 0 by have := h.s0; omega)
 have b1 := Int.emod_lt_of_pos r h.s0
 have := h.iq.2
 have := h.is.2
 have := MM_pos
 refine ⟨h.iq, ⟨by omega, by omega⟩, h.is, ⟨by omega, by omega⟩, by omega, by omega, by have := h.o1; omega, ?_⟩
 rw [← h.val, cross_next he, Int.neg_mul, Int.mul_neg]
end Go.Proofs.YtcbbilehdaaffaaGreatDoor

namespace Go.Proofs.YtcbbilehdaaffaaGreatDoor
open Go Go.Sk
set_option linter.unusedSimpArgs false
set_option linter.unusedVariables false
theorem F4 : ∃ k, FF = k + 4 := ⟨FF - 4, by have := FF1; omega⟩
def sm (n : Int) : Bool := decide (-16 ≤ n) && decide (n ≤ 16)
def vU (u : MUnit) : Bool := sm u.M && sm u.Kg && sm u.S
theorem sm_iff {n : Int} : sm n = true ↔ -16 ≤ n ∧ n ≤ 16 := by simp [sm]
theorem vU_iff {u : MUnit} : vU u = true ↔ (-16 ≤ u.M ∧ u.M ≤ 16) ∧ (-16 ≤ u.Kg ∧ u.Kg ≤ 16) ∧ (-16 ≤ u.S ∧ u.S ≤ 16) := by simp [vU, sm_iff, and_assoc]
theorem Valid_u (u : MUnit) : unit_Valid_S FF u = some (vU u) := by
 obtain ⟨k, hk⟩ := F4
 rw [hk]
 unfold unit_Valid_S unit_exponents_S unit_small_S
 have w1 : IntKind.i64.wrap (0 + 1) = 1 := by decide
 have w2 : IntKind.i64.wrap (1 + 1) = 2 := by decide
 have w3 : IntKind.i64.wrap (2 + 1) = 3 := by decide
 have i0 : idx? (⟨u.M, u.Kg, u.S⟩ : A3).l 0 = some u.M := rfl
 have i1 : idx? (⟨u.M, u.Kg, u.S⟩ : A3).l 1 = some u.Kg := rfl
 have i2 : idx? (⟨u.M, u.Kg, u.S⟩ : A3).l 2 = some u.S := rfl
 simp only [Option.bind_some, iter_succ, show ((0 : Int) < 3) = True from by simp, show ((1 : Int) < 3) = True from by simp, show ((2 : Int) < 3) = True from by simp, show ((3 : Int) < 3) = False from by simp, decide_true, decide_false, if_true, Bool.false_eq_true, if_false, i0]
 unfold vU
 cases h1 : sm u.M
 ·simp only [sm] at h1; simp [h1, alt2]
 ·simp only [sm] at h1
  simp only [h1, Bool.not_true, Bool.false_eq_true, if_false, Option.bind_some, alt2, w1, iter_succ, show ((1 : Int) < 3) = True from by simp, decide_true, if_true, i1]
  cases h2 : sm u.Kg
  ·simp only [sm] at h2; simp [h2, alt2]
  ·simp only [sm] at h2
   simp only [h2, Bool.not_true, Bool.false_eq_true, if_false, Option.bind_some, alt2, w2, iter_succ, show ((2 : Int) < 3) = True from by simp, decide_true, if_true, i2]
   cases h3 : sm u.S
   ·simp only [sm] at h3; simp [h3, alt2]
   ·simp only [sm] at h3
    simp only [h3, Bool.not_true, Bool.false_eq_true, if_false, Option.bind_some, alt2, w3, iter_succ, show ((3 : Int) < 3) = False from by simp, decide_false, Bool.true_and]
theorem rsmall (n : Int) : skewbackref11_small_S FF n = some (sm n) := rfl
theorem rValid_u (u : MUnit) : skewbackref11_Valid_S FF u = some (vU u) := by
 unfold skewbackref11_Valid_S vU
 rw [rsmall, rsmall, rsmall]
 cases h1 : sm u.M <;> cases h2 : sm u.Kg <;> cases h3 : sm u.S <;> rfl
theorem prod_rng {n v : Int} (hn : -16 ≤ n ∧ n ≤ 16) (hv : -16 ≤ v ∧ v ≤ 16) : -256 ≤ n * v ∧ n * v ≤ 256 := by
 have h : (n * v).natAbs ≤ 16 * 16 := by rw [Int.natAbs_mul]; exact Nat.mul_le_mul (by omega) (by omega)
 omega
def zU : MUnit := ⟨0, 0, 0⟩
def cmU (u v : MUnit) (n : Int) : MUnit := ⟨u.M + n * v.M, u.Kg + n * v.Kg, u.S + n * v.S⟩
def cmb (u v : MUnit) (n : Int) : MUnit × Int := if (vU u && vU v && sm n) = true then (if vU (cmU u v n) = true then (cmU u v n, 0) else (zU, 2)) else (zU, 1)
theorem vU_z : vU zU = true := by decide
theorem cmb_ok {u v : MUnit} {n : Int} (h1 : vU u = true) (h2 : vU v = true) (h3 : sm n = true) : cmb u v n = if vU (cmU u v n) = true then (cmU u v n, 0) else (zU, 2) := by unfold cmb; rw [h1, h2, h3]; rfl
theorem cmb_bad1 {u v : MUnit} {n : Int} (h1 : vU u = false) : cmb u v n = (zU, 1) := by unfold cmb; rw [h1]; rfl
theorem cmb_bad2 {u v : MUnit} {n : Int} (h1 : vU v = false) : cmb u v n = (zU, 1) := by unfold cmb; rw [h1]; cases vU u <;> rfl
theorem cmb_bad3 {u v : MUnit} {n : Int} (h1 : sm n = false) : cmb u v n = (zU, 1) := by unfold cmb; rw [h1]; cases vU u <;> cases vU v <;> rfl
theorem cmb_wrap {u v n : Int} (hu : -16 ≤ u ∧ u ≤ 16) (hn : -16 ≤ n ∧ n ≤ 16) (hv : -16 ≤ v ∧ v ≤ 16) : IntKind.i64.wrap (u + IntKind.i64.wrap (n * v)) = u + n * v := by
 have := prod_rng hn hv
 rw [wi64' (z := n * v) (by omega) (by omega), wi64' (by omega) (by omega)]
theorem combine_u (u v : MUnit) (n : Int) : unit_combine_S FF u v n = some (cmb u v n) := by
 refine Yld.eq ?_
 unfold unit_combine_S
 refine Yld.bindE (Valid_u u) ?_
 cases h1 : vU u
 ·rw [cmb_bad1 h1]; exact Yld.g0 rfl (Yld.g0 rfl (Yld.ift rfl (Yld.some rfl)))
 refine Yld.g1 rfl (Yld.bindE (Valid_u v) ?_)
 cases h2 : vU v
 ·rw [cmb_bad2 h2]; exact Yld.g0 rfl (Yld.ift rfl (Yld.some rfl))
 refine Yld.g1 rfl (Yld.bindE (show unit_small_S FF n = some (sm n) from rfl) ?_)
 cases h3 : sm n
 ·rw [cmb_bad3 h3]; exact Yld.ift rfl (Yld.some rfl)
 obtain ⟨a1, a2, a3⟩ := vU_iff.1 h1
 obtain ⟨b1, b2, b3⟩ := vU_iff.1 h2
 have c := sm_iff.1 h3
 rw [cmb_ok h1 h2 h3]
 refine Yld.iff rfl (Yld.lnE _ (cmb_wrap a1 c b1) (Yld.lnE _ (cmb_wrap a2 c b2) (Yld.lnE _ (cmb_wrap a3 c b3) (Yld.bindE (Valid_u (cmU u v n)) ?_))))
 cases h4 : vU (cmU u v n)
 ·exact Yld.ift rfl (Yld.some rfl)
 ·exact Yld.iff rfl (Yld.some rfl)
theorem Mul_u (u v : MUnit) : unit_Mul_S FF u v = some (cmb u v 1) := by unfold unit_Mul_S; rw [combine_u]; rfl
end Go.Proofs.YtcbbilehdaaffaaGreatDoor

namespace Go.Proofs.YtcbbilehdaaffaaGreatDoor
open Go Go.Sk
set_option linter.unusedSimpArgs false
set_option linter.unusedVariables false
def zQ : Quantity := ⟨⟨⟨false, false, A16.zero⟩, ⟨false, false, A16.zero⟩⟩, zU⟩
def rt (a : Quantity) : Bool := (qF a.V).isSome && vU a.U
abbrev inQ (a : Quantity) : Prop := inF a.V
theorem rt_iff {a : Quantity} : rt a = true ↔ (∃ r, qF a.V = some r) ∧ vU a.U = true := by
 unfold rt; rw [Bool.and_eq_true, Option.isSome_iff_exists]
theorem w01 : IntKind.i64.wrap (0 + 1) = 1 := by decide
theorem w12 : IntKind.i64.wrap (1 + 1) = 2 := by decide
theorem isRight_1 {a : Quantity} (ha : inQ a) : unit_isRight_S FF [a] = some (rt a) := by
 obtain ⟨k, hk⟩ := F4
 have hg : q_Good_S (k + 4) a.V = some (qF a.V).isSome := by rw [← hk]; exact Good_f ha
 have hv : unit_Valid_S (k + 4) a.U = some (vU a.U) := by rw [← hk]; exact Valid_u _
 rw [hk]
 unfold unit_isRight_S rt
 have e1 : (([a].length : Nat) : Int) = 1 := rfl
 have i0 : idx? [a] 0 = some a := rfl
 simp only [e1, iter_succ, show ((0 : Int) < 1) = True from by simp, show ((1 : Int) < 1) = False from by simp, decide_true, if_true, i0, Option.bind_some, hg]
 cases (qF a.V).isSome
 ·rfl
 ·simp only [Bool.not_true, Bool.not_false, gcall, if_true, hv, Option.bind_some]
  cases vU a.U
  ·rfl
  ·simp only [w01, alt2, iter_succ, show ((1 : Int) < 1) = False from by simp, decide_false, Bool.false_eq_true, if_false, Bool.not_true, Bool.or_false, Option.bind_some, Bool.true_and]
theorem isRight_2 {a b : Quantity} (ha : inQ a) (hb : inQ b) : unit_isRight_S FF [a, b] = some (rt a && rt b) := by
 obtain ⟨k, hk⟩ := F4
 have hg : q_Good_S (k + 4) a.V = some (qF a.V).isSome := by rw [← hk]; exact Good_f ha
 have hv : unit_Valid_S (k + 4) a.U = some (vU a.U) := by rw [← hk]; exact Valid_u _
 have hg2 : q_Good_S (k + 4) b.V = some (qF b.V).isSome := by rw [← hk]; exact Good_f hb
 have hv2 : unit_Valid_S (k + 4) b.U = some (vU b.U) := by rw [← hk]; exact Valid_u _
 rw [hk]
 unfold unit_isRight_S rt
 have e1 : (([a, b].length : Nat) : Int) = 2 := rfl
 have i0 : idx? [a, b] 0 = some a := rfl
 have i1 : idx? [a, b] 1 = some b := rfl
 simp only [e1, iter_succ, show ((0 : Int) < 2) = True from by simp, show ((1 : Int) < 2) = True from by simp, show ((2 : Int) < 2) = False from by simp, decide_true, if_true, i0, Option.bind_some, hg]
 cases (qF a.V).isSome
 ·rfl
 ·simp only [Bool.not_true, Bool.not_false, gcall, if_true, hv, Option.bind_some]
  cases vU a.U
  ·rfl
  ·simp only [w01, alt2, iter_succ, show ((1 : Int) < 2) = True from by simp, decide_true, if_true, Bool.false_eq_true, if_false, Bool.not_true, Bool.or_false, Option.bind_some, Bool.true_and, i1, hg2]
   cases (qF b.V).isSome
   ·rfl
   ·simp only [Bool.not_true, Bool.not_false, gcall, if_true, hv2, Option.bind_some]
    cases vU b.U
    ·rfl
    ·simp only [w12, alt2, iter_succ, show ((2 : Int) < 2) = False from by simp, decide_false, Bool.false_eq_true, if_false, Bool.not_true, Bool.or_false, Option.bind_some, Bool.true_and]
def quF (v : Frc) (u : MUnit) : Quantity × Int := if (qF v).isSome = true then (⟨v, u⟩, 0) else (zQ, 30)
theorem quantity_q {v : Frc} {u : MUnit} (h : inF v) : unit_quantity_S FF v u = some (quF v u) := by
 unfold unit_quantity_S quF
 rw [Good_f h]
 cases (qF v).isSome <;> rfl
theorem rRight_q {a : Quantity} (ha : inQ a) : skewbackref11_Right_S FF a = some (rt a) := by
 unfold skewbackref11_Right_S rt
 rw [rGood_f ha, rValid_u]
 cases (qF a.V).isSome <;> cases vU a.U <;> rfl
def doQ (nf : Frc → Frc → Frc) (uf : MUnit → MUnit → MUnit × Int) (a b : Quantity) : Quantity × Int :=
 if (rt a && rt b) = true then (if (uf a.U b.U).2 ≠ 0 then (zQ, (uf a.U b.U).2) else quF (nf a.V b.V) (uf a.U b.U).1) else (zQ, 1)
theorem doQ_bad {nf : Frc → Frc → Frc} {uf : MUnit → MUnit → MUnit × Int} {a b : Quantity} (h : (rt a && rt b) = false) : doQ nf uf a b = (zQ, 1) := by unfold doQ; rw [h]; rfl
theorem doQ_err {nf : Frc → Frc → Frc} {uf : MUnit → MUnit → MUnit × Int} {a b : Quantity} (h : (rt a && rt b) = true) (h2 : (uf a.U b.U).2 ≠ 0) : doQ nf uf a b = (zQ, (uf a.U b.U).2) := by unfold doQ; rw [if_pos h, if_pos h2]
theorem doQ_ok {nf : Frc → Frc → Frc} {uf : MUnit → MUnit → MUnit × Int} {a b : Quantity} (h : (rt a && rt b) = true) (h2 : (uf a.U b.U).2 = 0) : doQ nf uf a b = quF (nf a.V b.V) (uf a.U b.U).1 := by unfold doQ; rw [if_pos h, if_neg (by omega)]
theorem do_q {o : Oprn} {nf : Frc → Frc → Frc} {uf : MUnit → MUnit → MUnit × Int} {a b : Quantity} (ha : inQ a) (hb : inQ b) (hn : numberFn_S FF o.numbers a.V b.V = some (nf a.V b.V)) (hi : inF (nf a.V b.V)) (hu : unitFn_S FF o.units a.U b.U = some (uf a.U b.U)) :
  unit_operation_do_S FF o a b = some (doQ nf uf a b) := by
 refine Yld.eq ?_
 unfold unit_operation_do_S
 refine Yld.bindE (isRight_2 ha hb) ?_
 cases h1 : (rt a && rt b)
 ·rw [doQ_bad h1]; exact Yld.ift rfl (Yld.some rfl)
 refine Yld.iff rfl (Yld.bindE hu ?_)
 by_cases h2 : (uf a.U b.U).2 = 0
 ·rw [doQ_ok h1 h2]
  refine Yld.iff (by simp [h2]) (Yld.bindE hn (Yld.bindE (quantity_q hi) (Yld.some rfl)))
 ·rw [doQ_err h1 h2]
  exact Yld.ift (by simp [h2]) (Yld.some rfl)
noncomputable abbrev addF := bi addR
noncomputable abbrev subF := bi subR
noncomputable abbrev mulF := bi mulR
noncomputable abbrev divF := bi divR
theorem mulF_in (x y : Frc) : inF (mulF x y) := bi_in (fun r s => ofR_in _) x y
theorem divF_in (x y : Frc) : inF (divF x y) := bi_in divR_in x y
def mulU (u v : MUnit) := cmb u v 1
theorem Times_q {a b : Quantity} (ha : inQ a) (hb : inQ b) : unit_Times_S FF a b = some (doQ mulF mulU a b) := by
 unfold unit_Times_S
 rw [do_q (o := ⟨25, 26⟩) (nf := mulF) (uf := mulU) ha hb (Mul_f ha hb) (mulF_in _ _) (Mul_u _ _)]; rfl
theorem max_abs {n : Int} (h : -16 ≤ n ∧ n ≤ 16) : max n (IntKind.i64.wrap (-n)) = (n.natAbs : Int) := by
 rw [wi64' (by omega) (by omega)]; omega
theorem Of_1 : q_Of_S FF 1 = some (mk ((1 : Int) : Rat)) := Of_f (by decide)
end Go.Proofs.YtcbbilehdaaffaaGreatDoor

namespace Go.Sk
set_option linter.unusedSimpArgs false
set_option linter.unusedVariables false
open Go
theorem dd_small {u : Nat} (h : u < 10) : Lib.decDigits u = [UInt8.ofNat (48 + u)] := by rw [Lib.decDigits, dif_pos h]
theorem dd_big {u : Nat} (h : ¬ u < 10) : Lib.decDigits u = Lib.decDigits (u / 10) ++ [UInt8.ofNat (48 + u % 10)] := by rw [Lib.decDigits, dif_neg h]
def fd : Nat → Nat → Str
 | 0, _ => []
 | k + 1, r => fd k (r / 10) ++ [UInt8.ofNat (48 + r % 10)]
theorem fd_zero : ∀ k, fd k 0 = List.replicate k 48
 | 0 => rfl
 | k + 1 => by
  show fd k (0 / 10) ++ [UInt8.ofNat (48 + 0 % 10)] = _
  have : fd k (0 / 10) = List.replicate k 48 := fd_zero k
  rw [this, List.replicate_succ']
  rfl
theorem dd_split {q : Nat} (hq : 0 < q) : ∀ (k r : Nat), r < 10 ^ k → Lib.decDigits (q * 10 ^ k + r) = Lib.decDigits q ++ fd k r
 | 0, r, h => by
  have h0 : r = 0 := by rw [Nat.pow_zero] at h; omega
  subst h0
  rw [Nat.pow_zero, Nat.mul_one, Nat.add_zero]
  simp [fd]
 | k + 1, r, h => by
  have e : q * 10 ^ (k + 1) = 10 * (q * 10 ^ k) := by rw [Nat.pow_succ]; grind
  rw [Nat.pow_succ] at h
  have hp : 1 ≤ q * 10 ^ k := Nat.mul_pos hq (Nat.pow_pos (by decide))
  have h1 : ¬ q * 10 ^ (k + 1) + r < 10 := by omega
  rw [dd_big h1]
  have e1 : (q * 10 ^ (k + 1) + r) / 10 = q * 10 ^ k + r / 10 := by omega
  have e2 : (q * 10 ^ (k + 1) + r) % 10 = r % 10 := by omega
  rw [e1, e2, dd_split hq k (r / 10) (by omega), List.append_assoc]
  rfl
theorem dd_len_le : ∀ (k u : Nat), u < 10 ^ (k + 1) → (Lib.decDigits u).length ≤ k + 1
 | 0, u, h => by rw [dd_small (by simpa using h)]; exact Nat.le_refl _
 | k + 1, u, h => by
  by_cases h1 : u < 10
  ·rw [dd_small h1]; simp
  ·rw [Nat.pow_succ] at h
   rw [dd_big h1, List.length_append]
   have := dd_len_le k (u / 10) (by omega)
   simp
   omega
theorem fd_pad : ∀ (k r : Nat), r < 10 ^ (k + 1) → fd (k + 1) r = List.replicate (k + 1 - (Lib.decDigits r).length) 48 ++ Lib.decDigits r
 | 0, r, h => by
  have h1 : r < 10 := by simpa using h
  rw [dd_small h1]
  show [] ++ [UInt8.ofNat (48 + r % 10)] = _
  rw [Nat.mod_eq_of_lt h1]
  rfl
 | k + 1, r, h => by
  show fd (k + 1) (r / 10) ++ [UInt8.ofNat (48 + r % 10)] = _
  by_cases h1 : r < 10
  ·rw [dd_small h1, Nat.div_eq_of_lt h1, fd_zero, Nat.mod_eq_of_lt h1]
   simp
  ·rw [Nat.pow_succ] at h
   rw [fd_pad k (r / 10) (by omega), dd_big h1, List.length_append]
   have := dd_len_le k (r / 10) (by omega)
   rw [List.append_assoc]
   congr 2
   simp
def dv (l : Str) : Nat := l.foldl (fun acc c => 10 * acc + (c.toNat - 48)) 0
theorem dv_app (l : Str) (c : UInt8) : dv (l ++ [c]) = 10 * dv l + (c.toNat - 48) := by simp [dv]
def isDig (c : UInt8) : Prop := 48 ≤ c.toNat ∧ c.toNat ≤ 57
theorem dig_of {d : Nat} (h : d < 10) : (UInt8.ofNat (48 + d)).toNat = 48 + d := by simp; omega
theorem dd_dig (u : Nat) : ∀ c ∈ Lib.decDigits u, isDig c := by
 induction u using Nat.strongRecOn with
 | _ u ih =>
  by_cases h : u < 10
  ·rw [dd_small h]
   intro c hc
   rw [List.mem_singleton.1 hc]
   unfold isDig
   rw [dig_of h]; omega
  ·rw [dd_big h]
   intro c hc
   rcases List.mem_append.1 hc with g | g
   ·exact ih _ (by omega) c g
   ·rw [List.mem_singleton.1 g]
    unfold isDig
    rw [dig_of (by omega)]; omega
theorem dv_dd (u : Nat) : dv (Lib.decDigits u) = u := by
 induction u using Nat.strongRecOn with
 | _ u ih =>
  by_cases h : u < 10
  ·rw [dd_small h]
   show 10 * 0 + ((UInt8.ofNat (48 + u)).toNat - 48) = u
   rw [dig_of h]; omega
  ·rw [dd_big h, dv_app, ih _ (by omega), dig_of (by omega)]; omega
theorem head_app {m x : Str} (h : m ≠ []) : (m ++ x).head? = m.head? := by
 cases m with
 | nil => exact absurd rfl h
 | cons _ _ => rfl
def NoLead (l : Str) : Prop := l ≠ [] ∧ (l.head? = some 48 → l = [48])
theorem dd_head (u : Nat) : NoLead (Lib.decDigits u) := by
 induction u using Nat.strongRecOn with
 | _ u ih =>
  by_cases h : u < 10
  ·rw [dd_small h]
   refine ⟨by simp, fun hh => ?_⟩
   rw [Option.some.inj hh]
  ·rw [dd_big h]
   obtain ⟨h1, h2⟩ := ih (u / 10) (by omega)
   refine ⟨by simp, fun hh => ?_⟩
   rw [head_app h1] at hh
   have h3 := h2 hh
   have h4 := dv_dd (u / 10)
   rw [h3] at h4
   have : dv [48] = 0 := rfl
   omega
end Go.Sk

namespace Go.Sk
set_option linter.unusedSimpArgs false
set_option linter.unusedVariables false
open Go
theorem join_flat (xs : List Str) : Lib.join xs [] = xs.flatten := by
 cases xs with
 | nil => rfl
 | cons x r =>
  rw [Lib.join_cons]
  show x ++ (r.map ([] ++ ·)).flatten = _
  simp
theorem idx_get {α : Type} [Inhabited α] {l : List α} {i : Nat} (h : i < l.length) : l[i]? = some (idx l (i : Int)) := by
 have := idx_eq (xs := l) (i := (i : Int)) (by omega) (by omega)
 rw [Int.toNat_natCast] at this
 exact this
theorem MM155 : MM < 10 ^ 155 := by rw [MM_eq]; decide +kernel
theorem dd_MM {a : Int} (h : a < MM) : (Lib.decDigits a.toNat).length ≤ 155 := by
 refine dd_len_le 154 _ ?_
 have h2 := MM155
 have h3 : a < 10 ^ 155 := by omega
 rcases (by omega : a ≤ 0 ∨ 0 < a) with g | g
 ·have : a.toNat = 0 := by omega
  rw [this]; exact Nat.pow_pos (by decide)
 ·have : (a.toNat : Int) < ((10 ^ 155 : Nat) : Int) := by
   have e : ((10 ^ 155 : Nat) : Int) = 10 ^ 155 := by rw [Int.natCast_pow]; rfl
   rw [e]; omega
  exact Int.ofNat_lt.1 this
theorem itoa_nn {a : Int} (h : 0 ≤ a) : Lib.itoa a = Lib.decDigits a.toNat := by unfold Lib.itoa; rw [if_neg (by omega)]
theorem half_pow {W W' : Int} {k : Nat} (h0 : 0 ≤ W') (h : W' * 1000000000 ≤ W) (hk : W * 2 ^ k < MM) : W' * 2 ^ (k + 1) < MM := by
 have hp := pow2_pos k
 have h1 : W' * 2 ≤ W := by omega
 have h2 := Int.mul_le_mul_of_nonneg_right h1 (Int.le_of_lt hp)
 rw [Int.pow_succ]
 have e : W' * (2 ^ k * 2) = W' * 2 * 2 ^ k := by grind
 omega
theorem pow_bd {W : Int} {k : Nat} (h0 : 0 < W) (h : W * 2 ^ k < MM) : k < 512 := by
 have hp := pow2_pos k
 have h1 := Int.mul_le_mul_of_nonneg_right (show 1 ≤ W by omega) (Int.le_of_lt hp)
 rcases (by omega : k < 512 ∨ 512 ≤ k) with g | g
 ·exact g
 ·have h2 := pow2_le g
  have e : MM = 2 ^ 512 := by rw [MM_eq]; decide +kernel
  omega
theorem dd_nine {W : Int} (h0 : 0 < W / 1000000000) (hW : 0 ≤ W) : Lib.decDigits W.toNat = Lib.decDigits (W / 1000000000).toNat ++ fd 9 (W % 1000000000).toNat := by
 have e : W.toNat = (W / 1000000000).toNat * 10 ^ 9 + (W % 1000000000).toNat := by
  have : (10 : Nat) ^ 9 = 1000000000 := by decide
  omega
 rw [e]
 refine dd_split (by omega) 9 _ ?_
 have : (10 : Nat) ^ 9 = 1000000000 := by decide
 omega
end Go.Sk
namespace Go.Proofs.YtcbbilehdaaffaaGreatDoor
open Go Go.Sk
set_option linter.unusedSimpArgs false
set_option linter.unusedVariables false
theorem Reverse_y {F : Nat} {l : List Str} (hl : l.length ≤ 100000) (hF : 100000 < F) : slices_Reverse_S F l = some l.reverse := by
 refine Yld.eq ?_
 unfold slices_Reverse_S
 have hw : IntKind.i64.wrap ((l.length : Int) - 1) = (l.length : Int) - 1 := by rw [wi64]; omega
 rw [hw]
 refine Yld.ln (Yld.bind (P := (· = l.reverse)) (Yld.rounds l.length (fun (k : Nat) (st : List Str × Int × Int) => st.2.1 = (k : Int) ∧ st.2.2 = (l.length : Int) - 1 - (k : Int) ∧ st.1.length = l.length ∧ ∀ m, m < l.length → st.1[m]? = if m < k ∨ l.length < m + k + 1 then l[l.length - 1 - m]? else l[m]?) (by omega) ⟨rfl, by dsimp only; omega, rfl, fun m hm => by rw [if_neg (by omega)]⟩ ?_) (fun y hy => Yld.some hy))
 rintro k ⟨s, i, j⟩ hk ⟨rfl, rfl, sl, hs⟩
 dsimp only at sl hs
 dsimp only [un3]
 refine Yld.ite (fun h => ?_) (fun h => ?_)
 ·have h' := of_decide_eq_true h
  have ej : (l.length : Int) - 1 - (k : Int) = ((l.length - 1 - k : Nat) : Int) := by omega
  rw [ej]
  refine Yld.idx (by omega) (by omega) (Yld.idx (by omega) (by omega) (Yld.idx (by omega) (by omega) (Yld.idx (by omega) (by rw [List.length_set]; omega) (Yld.some (.inl ⟨_, rfl, ⟨by dsimp only; rw [wi64]; omega, by dsimp only; rw [wi64]; omega, by simp [sl], fun m hm => ?_⟩, by omega⟩)))))
  dsimp only
  simp only [Int.toNat_natCast]
  have g1 := idx_get (l := s) (i := k) (by omega)
  have g2 := idx_get (l := s) (i := l.length - 1 - k) (by omega)
  rw [hs k (by omega), if_neg (by omega)] at g1
  rw [hs _ (by omega), if_neg (by omega)] at g2
  rw [List.getElem?_set, List.length_set, List.getElem?_set]
  by_cases e1 : l.length - 1 - k = m
  ·rw [if_pos e1, if_pos (by omega), if_pos (by omega), ← g1]
   congr 1; omega
  ·rw [if_neg e1]
   by_cases e2 : k = m
   ·rw [if_pos e2, if_pos (by omega), if_pos (by omega), ← g2, e2]
   ·rw [if_neg e2, hs m hm]
    by_cases e3 : m < k ∨ l.length < m + k + 1
    ·rw [if_pos e3, if_pos (by omega)]
    ·rw [if_neg e3, if_neg (by omega)]
 ·have h' := of_decide_eq_false h
  refine Yld.some (.inr ⟨_, rfl, ?_⟩)
  apply List.ext_getElem?
  intro m
  by_cases hm : m < l.length
  ·rw [hs m hm, List.getElem?_reverse hm]
   split
   ·rfl
   ·congr 1; omega
  ·rw [List.getElem?_eq_none (by omega), List.getElem?_eq_none (by rw [List.length_reverse]; omega)]
theorem Text_y {F : Nat} (hF : 100000 < F) {x : Big} (hx : inB x) : w_Text_S F x = some (match iv x with | some a => Lib.itoa a | none => []) := by
  refine Yld.eq ?_
  unfold w_Text_S
  refine Yld.bindE (good1 (by omega) x) ?_
  cases ha : iv x with
  | none => rw [iv_none ha]; exact Yld.ift rfl (Yld.some rfl)
  | some a =>
    obtain ⟨ga, rfl, ra⟩ := iv_some hx ha
    obtain ⟨wa, na⟩ := sv_big_W ra
    have wa' : av (big a).W = absZ a := wa
    have hla := absZ_lt ra
    rw [ga, na]
    refine Yld.iff rfl ?_
    have hlen := dd_MM hla.2
    refine Yld.bind (P := fun p => p.length ≤ 1000 ∧ p.reverse.flatten = Lib.decDigits (absZ a).toNat) (Yld.rounds 512 (fun (k : Nat) (st : List Str × A16) => inD 4294967296 st.2.l ∧ st.1.length = k ∧ av st.2 * 2 ^ k < MM ∧ Lib.decDigits (absZ a).toNat = Lib.decDigits (av st.2).toNat ++ st.1.reverse.flatten) (by omega) ⟨big_in a, rfl, by dsimp only; rw [wa', Int.pow_zero, Int.mul_one]; exact hla.2, by dsimp only; rw [wa']; simp⟩ ?_) ?_
    · rintro k ⟨ps, w⟩ hk ⟨win_, pl, wb, hs⟩
      dsimp only at win_ pl wb hs
      dsimp only [un2]
      have hw0 := (av_range win_).1
      have hw1 := (av_range win_).2
      refine Yld.bindE (short_y (by omega) win_ (b := 1000000000) (by decide)) ?_
      dsimp only [un2]
      obtain ⟨r, hr⟩ : ∃ r, r = av w % 1000000000 := ⟨_, rfl⟩
      have hr0 : 0 ≤ r ∧ r < 1000000000 := by omega
      rw [← hr, wi64' (by omega) (by omega)]
      have hrl : (Lib.decDigits r.toNat).length ≤ 9 := dd_len_le 8 _ (by have : (10 : Nat) ^ (8 + 1) = 1000000000 := by decide
                                                                         omega)
      have hit : strconv_Itoa_S F r = some (Lib.decDigits r.toNat) := by
        unfold strconv_Itoa_S itoa?
        rw [itoa_nn hr0.1, if_pos (by omega)]
      refine Yld.bindE hit ?_
      have hq0 : 0 ≤ av w / 1000000000 := Int.ediv_nonneg hw0 (by decide)
      refine Yld.ite (fun h => ?_) (fun h => ?_)
      · have hz : av w / 1000000000 = 0 := (toA_zero_iff hq0 (by omega)).1 (of_decide_eq_true h)
        have hwr : av w = r := by omega
        refine Yld.app (by simp; omega) (Yld.some (.inr ⟨_, rfl, by simp; omega, ?_⟩))
        rw [List.reverse_append, List.flatten_append, hs, hwr]
        simp
      · have hz : av w / 1000000000 ≠ 0 := fun e => (of_decide_eq_false h) ((toA_zero_iff hq0 (by omega)).2 e)
        have hqp : 0 < av w / 1000000000 := by omega
        have hwl : IntKind.i64.wrap (9 - ((Lib.decDigits r.toNat).length : Int)) = ((9 - (Lib.decDigits r.toNat).length : Nat) : Int) := by rw [wi64]; omega
        have hrep : strings_Repeat_S F [48] ((9 - (Lib.decDigits r.toNat).length : Nat) : Int) = some (List.replicate (9 - (Lib.decDigits r.toNat).length) 48) := by
          unfold strings_Repeat_S repeat?
          rw [Int.toNat_natCast, if_pos ⟨by omega, by omega, by simp; omega⟩]
          have := Lib.repeatL_replicate 48 1 (9 - (Lib.decDigits r.toNat).length)
          rw [Nat.mul_one] at this
          exact congrArg some this
        rw [hwl]
        refine Yld.ln (Yld.bindE hrep (Yld.app (by simp; omega) (Yld.app (by simp; omega) (Yld.some (.inl ⟨_, rfl, ?_⟩)))))
        have hb := half_pow hq0 (by omega) wb
        have hqm : av (toA (av w / 1000000000)) = av w / 1000000000 := by rw [av_toA, Int.emod_eq_of_lt hq0 (by omega)]
        have hk2 := pow_bd hqp hb
        refine ⟨⟨toA_in _, by simp [pl], by dsimp only; rw [hqm]; exact hb, ?_⟩, by omega⟩
        dsimp only
        rw [hqm, hs, dd_nine hqp hw0, ← hr, fd_pad 8 r.toNat (by have : (10 : Nat) ^ (8 + 1) = 1000000000 := by decide
                                                                 omega), List.reverse_append, List.flatten_append]
        simp
    · rintro ps ⟨pl, pf⟩
      refine Yld.bind (P := fun p => p.length ≤ 2000 ∧ p.reverse.flatten = Lib.itoa a) ?_ ?_
      · refine Yld.ite (fun h => ?_) (fun h => ?_)
        · have hneg : a < 0 := of_decide_eq_true h
          refine Yld.app (by simp; omega) (Yld.some ⟨by simp; omega, ?_⟩)
          rw [List.reverse_append, List.flatten_append, pf]
          unfold Lib.itoa
          rw [if_pos hneg]
          have e : (absZ a).toNat = a.natAbs := by unfold absZ; rw [if_pos hneg]; omega
          rw [e]; rfl
        · have hneg : ¬ a < 0 := of_decide_eq_false h
          refine Yld.some ⟨by omega, ?_⟩
          rw [pf]
          unfold Lib.itoa
          have e : absZ a = a := if_neg hneg
          rw [if_neg hneg, e]
      · rintro p ⟨p1, p2⟩
        refine Yld.bindE (Reverse_y (by omega) hF) ?_
        have hj : strings_Join_S F p.reverse [] = some (Lib.itoa a) := by
          unfold strings_Join_S join?
          rw [join_flat, p2, if_pos]
          refine ⟨by simp; omega, ?_⟩
          unfold Lib.itoa
          have h1 := hlen
          split
          · next hneg =>
            have e : (absZ a).toNat = a.natAbs := by unfold absZ; rw [if_pos hneg]; omega
            rw [e] at h1
            simp; omega
          · next hneg =>
            have e : absZ a = a := if_neg hneg
            rw [e] at h1
            omega
        exact Yld.bindE hj (Yld.some rfl)
end Go.Proofs.YtcbbilehdaaffaaGreatDoor

namespace Go.Sk
set_option linter.unusedSimpArgs false
set_option linter.unusedVariables false
end Go.Sk
namespace Go.Proofs.YtcbbilehdaaffaaGreatDoor
open Go Go.Sk
set_option linter.unusedSimpArgs false
set_option linter.unusedVariables false
end Go.Proofs.YtcbbilehdaaffaaGreatDoor

namespace Go.Sk
set_option linter.unusedSimpArgs false
set_option linter.unusedVariables false
open Go
theorem dv_take (l : Str) {k : Nat} (h : k < l.length) : dv (l.take (k + 1)) = 10 * dv (l.take k) + (l[k].toNat - 48) := by
 rw [List.take_add_one, List.getElem?_eq_getElem h]
 exact dv_app _ _
def sgnS (s : Str) : Bool := decide (s.head? = some 45)
def digS (s : Str) : Str := if sgnS s = true then s.drop 1 else s
def illS (s : Str) : Prop := digS s = [] ∨ (digS s).head? = some 48 ∧ s ≠ [48]
inductive RdS (s : Str) : Big × Int → Prop where
 | ill (h : illS s) : RdS s (bad, 281)
 | char (h : ¬ illS s) (c : UInt8) (hc : c ∈ digS s) (hn : ¬ isDig c) : RdS s (bad, 281)
 | long (h : ¬ illS s) (hd : ∀ c ∈ digS s, isDig c) (hv : MM ≤ dv (digS s)) : RdS s (bad, 30)
 | num (h : ¬ illS s) (hd : ∀ c ∈ digS s, isDig c) (hv : (dv (digS s) : Int) < MM) : RdS s (big (if sgnS s = true then -(dv (digS s) : Int) else dv (digS s)), 0)
theorem RdS.one {s : Str} {p q : Big × Int} (hp : RdS s p) (hq : RdS s q) : p = q := by
 cases hp with
 | ill h =>
  cases hq with
  | ill _ => rfl
  | char h2 _ _ _ => exact absurd h h2
  | long h2 _ _ => exact absurd h h2
  | num h2 _ _ => exact absurd h h2
 | char h c hc hn =>
  cases hq with
  | ill h2 => exact absurd h2 h
  | char _ _ _ _ => rfl
  | long _ hd _ => exact absurd (hd c hc) hn
  | num _ hd _ => exact absurd (hd c hc) hn
 | long h hd hv =>
  cases hq with
  | ill h2 => exact absurd h2 h
  | char _ c hc hn => exact absurd (hd c hc) hn
  | long _ _ _ => rfl
  | num _ _ hv2 => omega
 | num h hd hv =>
  cases hq with
  | ill h2 => exact absurd h2 h
  | char _ c hc hn => exact absurd (hd c hc) hn
  | long _ _ hv2 => omega
  | num _ _ _ => rfl
theorem head_idx {l : Str} (h : l ≠ []) : l.head? = some (idx l 0) := by
 cases l with
 | nil => exact absurd rfl h
 | cons c r => rfl
theorem u8_45 (c : UInt8) : (c.toNat : Int) = 45 ↔ c = 45 := ⟨fun h => by
 have h2 : c.toNat = (45 : UInt8).toNat := by show c.toNat = 45; omega
 exact UInt8.toNat_inj.1 h2, fun h => by rw [h]; rfl⟩
theorem u8_48 (c : UInt8) : (c.toNat : Int) = 48 ↔ c = 48 := ⟨fun h => by
 have h2 : c.toNat = (48 : UInt8).toNat := by show c.toNat = 48; omega
 exact UInt8.toNat_inj.1 h2, fun h => by rw [h]; rfl⟩
theorem ofStr_idx {l : Str} {k : Nat} (h : k < l.length) : idx (ofStr l) (k : Int) = (l[k].toNat : Int) := by
 unfold ofStr
 have := idx_get (l := l.map fun c => (c.toNat : Int)) (i := k) (by simpa using h)
 rw [List.getElem?_map, List.getElem?_eq_getElem h] at this
 exact (Option.some.inj this).symm
theorem digS_ne {s : Str} : decide (digS s ≠ s) = sgnS s := by
 unfold digS
 cases h : sgnS s with
 | false => simp
 | true =>
  unfold sgnS at h
  cases s with
  | nil => simp at h
  | cons c r => simp
theorem digS_len (s : Str) : (digS s).length ≤ s.length := by
 unfold digS; split
 ·simp
 ·exact Nat.le_refl _
end Go.Sk
namespace Go.Proofs.YtcbbilehdaaffaaGreatDoor
open Go Go.Sk
set_option linter.unusedSimpArgs false
set_option linter.unusedVariables false
theorem sgn_first (F : Nat) (s : Str) : ∀ {β : Type} {k : UInt8 → Option β} {Q : β → Prop}, (∀ c : UInt8, ((decide (0 < (s.length : Int))) && (decide ((c.toNat : Int) = 45))) = sgnS s → Yld (k c) Q) → Yld ((gcall (decide (0 < (s.length : Int))) (idx? s 0)).bind k) Q := by
 intro β k Q h
 cases s with
 | nil => exact Yld.g0 rfl (h _ (by rfl))
 | cons c r =>
  have hl : 0 < ((c :: r).length : Int) := by rw [List.length_cons]; omega
  refine Yld.g1 (decide_eq_true hl) (Yld.idx (by decide) hl (h _ ?_))
  have e : idx (c :: r) 0 = c := rfl
  rw [e, decide_eq_true hl, Bool.true_and]
  unfold sgnS
  rw [decide_eq_decide, u8_45]
  simp
theorem Parse_y {F : Nat} (hF : 100000 < F) {s : Str} (hl : s.length ≤ 500) : Yld (w_Parse_S F s) (RdS s) := by
 unfold w_Parse_S
 have hdl := digS_len s
 refine Yld.bind (P := (· = digS s)) ?_ ?_
 ·refine sgn_first F s fun c hc => Yld.lnE _ hc ?_
  unfold digS
  refine Yld.ite (fun h => ?_) (fun h => ?_)
  ·rw [if_pos h]
   have hne : 1 ≤ s.length := by
    unfold sgnS at h
    cases s with
    | nil => simp at h
    | cons c r => simp
   exact Yld.drop (by decide) (by omega) (Yld.some rfl)
  ·rw [h]; exact Yld.some rfl
 ·rintro _ rfl
  have hill : ∀ {β : Type} {k : UInt8 → Option β} {Q : β → Prop}, (∀ c : UInt8, (((decide (digS s = [])) || ((decide ((c.toNat : Int) = 48)) && (decide (s ≠ [48])))) = true ↔ illS s) → Yld (k c) Q) → Yld ((gcall (!(decide (digS s = []))) (idx? (digS s) 0)).bind k) Q := by
   intro β k Q h
   by_cases hd : digS s = []
   ·refine Yld.g0 (by rw [decide_eq_true hd]; rfl) (h _ ?_)
    rw [decide_eq_true hd]
    exact ⟨fun _ => .inl hd, fun _ => rfl⟩
   ·have hpos : 0 < (digS s).length := List.length_pos_iff.2 hd
    refine Yld.g1 (by rw [decide_eq_false hd]; rfl) (Yld.idx (by decide) (by omega) (h _ ?_))
    rw [decide_eq_false hd, Bool.false_or, Bool.and_eq_true, decide_eq_true_eq, decide_eq_true_eq, u8_48]
    unfold illS
    rw [head_idx hd, Option.some.injEq]
    exact ⟨fun g => .inr g, fun g => g.resolve_left hd⟩
  refine hill fun c hc => Yld.ln ?_
  refine Yld.ite (fun h => ?_) (fun h => ?_)
  ·exact Yld.bindE (Bad_y F) (Yld.some (.ill (hc.1 h)))
  ·have hni : ¬ illS s := fun g => by rw [hc.2 g] at h; exact absurd h (by simp)
   have holen : ((ofStr (digS s)).length : Int) = (digS s).length := by unfold ofStr; simp
   refine Yld.bind (P := fun r => match r with | .inl _ => ∀ c ∈ digS s, isDig c | .inr z => RdS s z) (Yld.rounds (digS s).length (fun (k : Nat) (i : Int) => i = (k : Int) ∧ ∀ m (hm : m < (digS s).length), m < k → isDig (digS s)[m]) (by omega) ⟨rfl, fun m _ h => absurd h (Nat.not_lt_zero m)⟩ ?_) ?_
   ·rintro k i hk ⟨rfl, hd⟩
    rw [holen]
    refine Yld.ite (fun h => ?_) (fun h => ?_)
    ·have hk' : k < (digS s).length := by have := of_decide_eq_true h; omega
     refine Yld.idx (by omega) (by rw [holen]; omega) ?_
     rw [ofStr_idx hk']
     refine Yld.ite (fun h => ?_) (fun h => ?_)
     ·simp only [Bool.or_eq_true, decide_eq_true_eq] at h
      refine Yld.bindE (Bad_y F) (Yld.some (.inr ⟨_, rfl, .char hni _ (List.getElem_mem hk') ?_⟩))
      unfold isDig; omega
     ·simp only [Bool.or_eq_false_iff, decide_eq_false_iff_not] at h
      refine Yld.some (.inl ⟨_, rfl, ⟨by rw [wi64]; omega, fun m hm h2 => ?_⟩, hk'⟩)
      by_cases e : m = k
      ·subst e; unfold isDig; omega
      ·exact hd m hm (by omega)
    ·have hk' : k = (digS s).length := by have := of_decide_eq_false h; omega
     subst hk'
     refine Yld.some (.inr ⟨_, rfl, fun c hc2 => ?_⟩)
     obtain ⟨m, hm, rfl⟩ := List.getElem_of_mem hc2
     exact hd m hm hm
   ·rintro (u | z) hr
    ·have hd : ∀ c ∈ digS s, isDig c := hr
     clear hr
     show Yld (if decide (512 < ((digS s).length : Int)) = true then _ else _) _
     refine Yld.iff (decide_eq_false (by omega)) ?_
     have r10 : -MM < 10 ∧ (10 : Int) < MM := by have := MM_big; omega
     refine Yld.bindE (Of_y F (by decide) (by decide)) (Yld.bindE (Of_y F (by decide) (by decide)) ?_)
     have hz0 : big 0 = big (dv ((digS s).take 0) : Int) := by
      have e : dv ((digS s).take 0) = 0 := by rw [List.take_zero]; rfl
      exact congrArg big (by rw [e]; rfl)
     refine Yld.bind (P := fun z => z = big (dv (digS s) : Int)) (Yld.rounds (digS s).length (fun (k : Nat) (st : Big × Int) => st.2 = (k : Int) ∧ st.1 = big (dv ((digS s).take k) : Int)) (by omega) ⟨rfl, hz0⟩ ?_) ?_
     ·rintro k ⟨z, kx⟩ hk ⟨rfl, hz⟩
      dsimp only at hz
      dsimp only [un2]
      rw [hz, holen]
      clear hz
      refine Yld.ite (fun h => ?_) (fun h => ?_)
      ·have hk' : k < (digS s).length := by have := of_decide_eq_true h; omega
       refine Yld.idx (by omega) (by rw [holen]; omega) ?_
       rw [ofStr_idx hk']
       have hcd := hd _ (List.getElem_mem hk')
       unfold isDig at hcd
       have hw : IntKind.i64.wrap (IntKind.u8.wrap (((digS s)[k].toNat : Int) - 48)) = (((digS s)[k].toNat - 48 : Nat) : Int) := by rw [wi64, wu8]; omega
       refine Yld.bindE (Mul_y (by omega) (big_in _) (big_in _)) (Yld.lnE _ hw (Yld.bindE (Of_y F (by omega) (by omega)) (Yld.bindE (Add_y (by omega) (two_in _ _ _) (big_in _)) (Yld.some (.inl ⟨_, rfl, ⟨by dsimp only; rw [wi64]; omega, ?_⟩, hk'⟩)))))
       dsimp only
       rw [dv_take _ hk']
       generalize dv ((digS s).take k) = v
       have hdd : (digS s)[k].toNat - 48 < 10 := by omega
       generalize (digS s)[k].toNat - 48 = d at *
       have rd : -MM < (d : Int) ∧ (d : Int) < MM := by have := MM_big; omega
       have e1 : ((10 * v + d : Nat) : Int) = (v : Int) * 10 + (d : Int) := by omega
       rw [e1]
       by_cases hv : (v : Int) < MM
       ·rw [two_big (a := (v : Int)) (by omega) r10]
        show two _ (big ((v : Int) * 10)) (big (d : Int)) = _
        by_cases hv2 : (v : Int) * 10 < MM
        ·rw [two_big (by omega) rd]; rfl
        ·rw [big_out (by omega), big_out (z := (v : Int) * 10 + d) (by omega)]
         rfl
       ·rw [big_out (z := (v : Int)) (by omega), big_out (z := (v : Int) * 10 + d) (by omega)]
        rfl
      ·have hk' : k = (digS s).length := by have := of_decide_eq_false h; omega
       subst hk'
       refine Yld.some (.inr ⟨_, rfl, ?_⟩)
       rw [List.take_length]
     ·intro z hz
      rw [hz]
      clear hz
      by_cases hv : (dv (digS s) : Int) < MM
      ·have hin : -MM < (dv (digS s) : Int) ∧ (dv (digS s) : Int) < MM := by omega
       have hb : (big (dv (digS s) : Int)).Bad = false := by rw [big_Bad, decide_eq_true hin]; rfl
       refine Yld.iff hb (Yld.bindE (signed_y F _ (big_in _)) (Yld.some ?_))
       have hW := (sv_big_W hin).1
       rw [if_neg (by omega)] at hW
       rw [hW, digS_ne]
       exact .num hni hd hv
      ·rw [big_out (by omega)]
       exact Yld.ift rfl (Yld.some (.long hni hd (by omega)))
    ·exact Yld.some hr
end Go.Proofs.YtcbbilehdaaffaaGreatDoor

namespace Go.Sk
open Go
end Go.Sk
namespace Go.Proofs.YtcbbilehdaaffaaGreatDoor
open Go Go.Sk
set_option linter.unusedSimpArgs false
set_option linter.unusedVariables false
end Go.Proofs.YtcbbilehdaaffaaGreatDoor

namespace Go.Sk
set_option linter.unusedSimpArgs false
set_option linter.unusedVariables false
open Go
theorem head_dig (u : Nat) : (Lib.decDigits u).head? ≠ some 45 := fun h => by
 have hne := (dd_head u).1
 have hm : (45 : UInt8) ∈ Lib.decDigits u := List.mem_of_head? h
 have := dd_dig u _ hm
 unfold isDig at this
 exact absurd this.1 (by decide)
theorem rds_itoa {a : Int} (ra : -MM < a ∧ a < MM) : RdS (Lib.itoa a) (big a, 0) := by
 by_cases h : a < 0
 ·have e : Lib.itoa a = 45 :: Lib.decDigits a.natAbs := by unfold Lib.itoa; rw [if_pos h]
  have hs : sgnS (Lib.itoa a) = true := by rw [e]; rfl
  have hd : digS (Lib.itoa a) = Lib.decDigits a.natAbs := by unfold digS; rw [hs, e]; rfl
  have hv : dv (digS (Lib.itoa a)) = a.natAbs := by rw [hd, dv_dd]
  have hn : ¬ illS (Lib.itoa a) := fun hh => by
   unfold illS at hh
   rw [hd] at hh
   rcases hh with g | ⟨g, _⟩
   ·exact (dd_head a.natAbs).1 g
   ·have h1 := (dd_head a.natAbs).2 g
    have h2 := dv_dd a.natAbs
    rw [h1] at h2
    have h3 : dv [48] = 0 := rfl
    omega
  have := RdS.num hn (by rw [hd]; exact dd_dig _) (by rw [hv]; omega)
  rw [hs, hv, if_pos rfl] at this
  have e2 : -(a.natAbs : Int) = a := by omega
  rw [e2] at this
  exact this
 ·have e : Lib.itoa a = Lib.decDigits a.toNat := itoa_nn (by omega)
  have hs : sgnS (Lib.itoa a) = false := by rw [e]; unfold sgnS; exact decide_eq_false (head_dig _)
  have hd : digS (Lib.itoa a) = Lib.decDigits a.toNat := by unfold digS; rw [hs, e]; rfl
  have hv : dv (digS (Lib.itoa a)) = a.toNat := by rw [hd, dv_dd]
  have hn : ¬ illS (Lib.itoa a) := fun hh => by
   unfold illS at hh
   rw [hd] at hh
   rcases hh with g | ⟨g, g2⟩
   ·exact (dd_head a.toNat).1 g
   ·exact g2 (by rw [e]; exact (dd_head a.toNat).2 g)
  have := RdS.num hn (by rw [hd]; exact dd_dig _) (by rw [hv]; omega)
  rw [hs, hv, if_neg (by decide)] at this
  have e2 : (a.toNat : Int) = a := by omega
  rw [e2] at this
  exact this
theorem itoa_len {a : Int} (ra : -MM < a ∧ a < MM) : (Lib.itoa a).length ≤ 500 := by
 by_cases h : a < 0
 ·have h1 := dd_MM (a := -a) (by omega)
  have e : (-a).toNat = a.natAbs := by omega
  rw [e] at h1
  unfold Lib.itoa; rw [if_pos h, List.length_cons]; omega
 ·have h1 := dd_MM (a := a) ra.2
  rw [itoa_nn (by omega)]; omega
end Go.Sk

namespace Go.Sk
open Go
set_option linter.unusedSimpArgs false
set_option linter.unusedVariables false
def sl : Str → Nat
 | [] => 0
 | c :: r => if c = 47 then 0 else sl r + 1
theorem sl_le : ∀ s : Str, sl s ≤ s.length
 | [] => Nat.le_refl _
 | c :: r => by
  unfold sl
  split
  ·omega
  ·have := sl_le r
   rw [List.length_cons]; omega
theorem sl_none : ∀ {s : Str}, (∀ c ∈ s, c ≠ 47) → sl s = s.length
 | [], _ => rfl
 | c :: r, h => by
  unfold sl
  rw [if_neg (h c (List.mem_cons_self)), sl_none fun x hx => h x (List.mem_cons_of_mem _ hx)]
  rfl
theorem sl_app : ∀ {a b : Str}, (∀ c ∈ a, c ≠ 47) → sl (a ++ 47 :: b) = a.length
 | [], b, _ => by simp [sl]
 | c :: r, b, h => by
  rw [List.cons_append]
  unfold sl
  rw [if_neg (h c (List.mem_cons_self)), sl_app fun x hx => h x (List.mem_cons_of_mem _ hx)]
  rfl
theorem index_sl : ∀ s : Str, Lib.index s [47] = if sl s < s.length then (sl s : Int) else -1
 | [] => rfl
 | c :: r => by
  unfold Lib.index sl
  have ih := index_sl r
  have hp : List.isPrefixOf [47] (c :: r) = decide (c = 47) := by
   by_cases e : c = 47
   ·subst e; rfl
   ·simp [List.isPrefixOf, e, Ne.symm e]
  rw [hp]
  by_cases e : c = 47
  ·simp [e]
  ·rw [decide_eq_false e, if_neg (by simp), if_neg e, ih]
   by_cases h : sl r < r.length
   ·have h2 : sl r + 1 < (c :: r).length := by rw [List.length_cons]; omega
    have h3 : (((sl r : Int)) == -1) = false := by rw [beq_eq_false_iff_ne]; omega
    rw [if_pos h, if_pos h2, h3, if_neg (by simp)]
    omega
   ·have h2 : ¬ sl r + 1 < (c :: r).length := by rw [List.length_cons]; omega
    rw [if_neg h, if_neg h2]
    rfl
theorem cut_sl (s : Str) : Lib.cut s [47] = (s.take (sl s), s.drop (sl s + 1), decide (sl s < s.length)) := by
 unfold Lib.cut
 rw [index_sl]
 by_cases h : sl s < s.length
 ·rw [if_pos h, if_pos (by omega), decide_eq_true h, Int.toNat_natCast]; rfl
 ·have h2 := sl_le s
  have e : sl s = s.length := by omega
  rw [if_neg h, if_neg (by omega), decide_eq_false h, e, List.take_length, List.drop_eq_nil_of_le (by omega)]
theorem dig_no47 {c : UInt8} (h : isDig c) : c ≠ 47 := fun e => by
 subst e
 unfold isDig at h
 exact absurd h.1 (by decide)
theorem itoa_no47 (a : Int) : ∀ c ∈ Lib.itoa a, c ≠ 47 := fun c hc => by
 unfold Lib.itoa at hc
 split at hc
 ·rcases List.mem_cons.1 hc with e | h
  ·subst e; decide
  ·exact dig_no47 (dd_dig _ _ h)
 ·exact dig_no47 (dd_dig _ _ hc)
theorem RdS_in {s : Str} {p : Big × Int} (h : RdS s p) : inB p.1 := by
 cases h with
 | ill _ => exact bad_in
 | char _ _ _ _ => exact bad_in
 | long _ _ _ => exact bad_in
 | num _ _ _ => exact big_in _
end Go.Sk
namespace Go.Proofs.YtcbbilehdaaffaaGreatDoor
open Go Go.Sk
set_option linter.unusedSimpArgs false
set_option linter.unusedVariables false
def txB (x : Big) : Str := match iv x with
 | some a => Lib.itoa a
 | none => []
theorem wText {x : Big} (hx : inB x) : w_Text_S FF x = some (txB x) := by
 rw [Text_y FF2 hx]; unfold txB; try (cases iv x <;> rfl)
theorem txB_len {x : Big} (hx : inB x) : (txB x).length ≤ 500 := by
 unfold txB
 cases h : iv x with
 | none => simp
 | some a => exact itoa_len (iv_some hx h).2.2
def txF (x : Frc) : Str := if (qF x).isSome = true then (if x.D = big 1 then txB x.N else txB x.N ++ 47 :: txB x.D) else []
theorem Text_f {x : Frc} (hx : inF x) : q_Text_S FF x = some (txF x) := by
 refine Yld.eq ?_
 unfold q_Text_S txF
 refine Yld.bindE (Good_f hx) ?_
 cases h : (qF x).isSome with
 | false => exact Yld.ift rfl (Yld.some rfl)
 | true =>
  refine Yld.iff rfl (Yld.bindE one_y ?_)
  rw [if_pos rfl]
  refine Yld.ite (fun h1 => ?_) (fun h1 => ?_)
  ·rw [if_pos (of_decide_eq_true h1)]
   exact Yld.bindE (wText hx.1) (Yld.some rfl)
  ·have l1 := txB_len hx.1
   have l2 := txB_len hx.2
   rw [if_neg (of_decide_eq_false h1)]
   refine Yld.bindE (wText hx.1) (Yld.app (by simp; omega) (Yld.bindE (wText hx.2) (Yld.app (by simp; omega) (Yld.some (by simp)))))
def rdF (p : Big) (e : Int) (q : Big) (f : Int) (two : Bool) (b : Str) : Frc × Int :=
 if e = 281 ∨ f = 281 ∨ two = true ∧ (b = [48] ∨ b = [49] ∨ b.head? = some 45) then (bf, 281)
 else if e ≠ 0 ∨ f ≠ 0 then (bf, 30)
 else if (qF ⟨p, q⟩).isSome = true then (⟨p, q⟩, 0) else (bf, 281)
def RdF (s : Str) (r : Frc × Int) : Prop := ∃ p e q f, RdS (s.take (sl s)) (p, e) ∧ (if sl s < s.length then RdS (s.drop (sl s + 1)) (q, f) else q = big 1 ∧ f = 0) ∧ r = rdF p e q f (decide (sl s < s.length)) (s.drop (sl s + 1))
theorem RdF.one {s : Str} {r t : Frc × Int} (h1 : RdF s r) (h2 : RdF s t) : r = t := by
 obtain ⟨p, e, q, f, a1, a2, rfl⟩ := h1
 obtain ⟨p', e', q', f', b1, b2, rfl⟩ := h2
 have c1 := RdS.one a1 b1
 cases c1
 by_cases h : sl s < s.length
 ·rw [if_pos h] at a2 b2
  have c2 := RdS.one a2 b2
  cases c2
  rfl
 ·rw [if_neg h] at a2 b2
  rw [a2.1, a2.2, b2.1, b2.2]
theorem hasPrefix_45 (b : Str) : Lib.hasPrefix b [45] = decide (b.head? = some 45) := by
 unfold Lib.hasPrefix
 cases b with
 | nil => rfl
 | cons c r =>
  by_cases e : c = 45
  ·subst e; rfl
  ·simp [List.isPrefixOf, e, Ne.symm e]
theorem Parse_f {s : Str} (hl : s.length ≤ 450) : Yld (q_Parse_S FF s) (RdF s) := by
 unfold q_Parse_S
 have hc : strings_Cut_S FF s [47] = some (s.take (sl s), s.drop (sl s + 1), decide (sl s < s.length)) := by
  unfold strings_Cut_S cut?
  rw [if_pos (by omega), cut_sl]
 refine Yld.bindE hc ?_
 dsimp only [un3]
 refine Yld.bindE one_y (Yld.ln ?_)
 refine Yld.bind (Parse_y FF2 (s := s.take (sl s)) (by rw [List.length_take]; omega)) ?_
 rintro ⟨p, e⟩ hp
 dsimp only [un2]
 refine Yld.bind (P := fun t : Frc × Int => ∃ q f, t = ((⟨p, q⟩ : Frc), f) ∧ inB q ∧ (if sl s < s.length then RdS (s.drop (sl s + 1)) (q, f) else q = big 1 ∧ f = 0)) ?_ ?_
 ·by_cases h : sl s < s.length
  ·rw [decide_eq_true h]
   refine Yld.ift rfl (Yld.bind (Parse_y FF2 (s := s.drop (sl s + 1)) (by rw [List.length_drop]; omega)) ?_)
   rintro ⟨q, f⟩ hq
   exact Yld.some ⟨q, f, rfl, RdS_in hq, by rw [if_pos h]; exact hq⟩
  ·rw [decide_eq_false h]
   exact Yld.iff rfl (Yld.some ⟨big 1, 0, rfl, big_in 1, by rw [if_neg h]; exact ⟨rfl, rfl⟩⟩)
 ·rintro t ⟨q, f, rfl, qi, hq⟩
  have hin : inF ⟨p, q⟩ := in_mk (RdS_in hp) qi
  have fin : ∀ r, r = rdF p e q f (decide (sl s < s.length)) (s.drop (sl s + 1)) → RdF s r := fun r h => ⟨p, e, q, f, hp, hq, h⟩
  generalize s.drop (sl s + 1) = b at *
  generalize decide (sl s < s.length) = two at *
  refine Yld.bind (P := fun g : Bool => ((decide (e = 281) || decide (f = 281)) || (two && ((decide (b = [48]) || decide (b = [49])) || g))) = decide (e = 281 ∨ f = 281 ∨ two = true ∧ (b = [48] ∨ b = [49] ∨ b.head? = some 45))) ?_ ?_
  ·unfold gcall
   split
   ·refine ⟨_, rfl, ?_⟩
    dsimp only
    rw [hasPrefix_45, Bool.eq_iff_iff]
    simp only [Bool.or_eq_true, Bool.and_eq_true, decide_eq_true_eq, or_assoc]
   ·next h =>
    refine ⟨default, rfl, ?_⟩
    dsimp only
    rw [Bool.eq_iff_iff]
    have hd : (default : Bool) = false := rfl
    rw [hd]
    simp only [Bool.or_eq_true, Bool.and_eq_true, decide_eq_true_eq, or_assoc, Bool.false_eq_true, or_false]
    constructor
    ·rintro (g | g | ⟨g1, g | g⟩)
     ·exact .inl g
     ·exact .inr (.inl g)
     ·exact .inr (.inr ⟨g1, .inl g⟩)
     ·exact .inr (.inr ⟨g1, .inr (.inl g)⟩)
    ·rintro (g | g | ⟨g1, g | g | g⟩)
     ·exact .inl g
     ·exact .inr (.inl g)
     ·exact .inr (.inr ⟨g1, .inl g⟩)
     ·exact .inr (.inr ⟨g1, .inr g⟩)
     ·by_cases e1 : e = 281
      ·exact .inl e1
      ·by_cases f1 : f = 281
       ·exact .inr (.inl f1)
       ·by_cases b1 : b = [48]
        ·exact .inr (.inr ⟨g1, .inl b1⟩)
        ·by_cases b2 : b = [49]
         ·exact .inr (.inr ⟨g1, .inr b2⟩)
         ·exact absurd (by simp [e1, f1, g1, b1, b2]) h
  ·intro g hg
   rw [hg]
   refine Yld.ln ?_
   unfold rdF at fin
   by_cases h1 : e = 281 ∨ f = 281 ∨ two = true ∧ (b = [48] ∨ b = [49] ∨ b.head? = some 45)
   ·exact Yld.ift (decide_eq_true h1) (Yld.bindE Bad_f (Yld.some (fin _ (by rw [if_pos h1]))))
   ·refine Yld.iff (decide_eq_false h1) ?_
    simp only [if_neg h1] at fin
    by_cases h2 : e ≠ 0 ∨ f ≠ 0
    ·exact Yld.ift (by rcases h2 with h | h <;> simp [h]) (Yld.bindE Bad_f (Yld.some (fin _ (by rw [if_pos h2]))))
    ·have e0 : e = 0 := by omega
     have f0 : f = 0 := by omega
     simp only [if_neg h2] at fin
     refine Yld.iff (by simp [e0, f0]) (Yld.bindE (Good_f hin) ?_)
     cases h3 : (qF ⟨p, q⟩).isSome with
     | true => exact Yld.iff rfl (Yld.some (fin _ (by rw [h3, if_pos rfl])))
     | false => exact Yld.ift rfl (Yld.bindE Bad_f (Yld.some (fin _ (by rw [h3, if_neg (by simp)]))))
end Go.Proofs.YtcbbilehdaaffaaGreatDoor

namespace Go.Proofs.YtcbbilehdaaffaaGreatDoor
open Go Go.Sk
set_option linter.unusedSimpArgs false
set_option linter.unusedVariables false
def itm (nm : Str) (n : Int) : Str := if 1 < n ∨ n < -1 then nm ++ 94 :: Lib.itoa (n.natAbs : Int) else nm
theorem itoa_len16 {n : Nat} (h : n ≤ 16) : (Lib.itoa (n : Int)).length ≤ 500 := itoa_len (by
 have : (16 : Int) < MM := by rw [MM_eq]; decide +kernel
 have := MM_pos
 omega)
theorem itm_len {nm : Str} {n : Int} (hn : -16 ≤ n ∧ n ≤ 16) : (itm nm n).length ≤ nm.length + 501 := by
 unfold itm
 split
 ·have := itoa_len16 (n := n.natAbs) (by omega)
  rw [List.length_append, List.length_cons]; omega
 ·omega
def abv (above nm : Str) (n : Int) : Str := if 0 < n then (if above = [] then itm nm n else above ++ 42 :: itm nm n) else above
def blw (below nm : Str) (n : Int) : Str := if n < 0 then below ++ 47 :: itm nm n else below
theorem abv_no {above nm : Str} {n : Int} (h : ¬ 0 < n) : abv above nm n = above := if_neg h
theorem abv_1 {nm : Str} {n : Int} (h : 0 < n) : abv [] nm n = itm nm n := by unfold abv; rw [if_pos h, if_pos rfl]
theorem abv_2 {above nm : Str} {n : Int} (h : 0 < n) (h2 : above ≠ []) : abv above nm n = above ++ 42 :: itm nm n := by unfold abv; rw [if_pos h, if_neg h2]
theorem blw_no {below nm : Str} {n : Int} (h : ¬ n < 0) : blw below nm n = below := if_neg h
theorem blw_1 {below nm : Str} {n : Int} (h : n < 0) : blw below nm n = below ++ 47 :: itm nm n := if_pos h
theorem itm_1 {nm : Str} {n : Int} (h : 1 < n ∨ n < -1) : itm nm n = nm ++ 94 :: Lib.itoa (n.natAbs : Int) := if_pos h
theorem itm_0 {nm : Str} {n : Int} (h : ¬ (1 < n ∨ n < -1)) : itm nm n = nm := if_neg h
theorem abv_len {above nm : Str} {n : Int} (hn : -16 ≤ n ∧ n ≤ 16) : (abv above nm n).length ≤ above.length + nm.length + 502 := by
 have := itm_len (nm := nm) hn
 unfold abv
 split
 ·split
  ·omega
  ·rw [List.length_append, List.length_cons]; omega
 ·omega
theorem blw_len {below nm : Str} {n : Int} (hn : -16 ≤ n ∧ n ≤ 16) : (blw below nm n).length ≤ below.length + nm.length + 502 := by
 have := itm_len (nm := nm) hn
 unfold blw
 split
 ·rw [List.length_append, List.length_cons]; omega
 ·omega
def nm0 : Str := [109]
def nm1 : Str := [107, 103]
def nm2 : Str := [115]
def abvU (u : MUnit) : Str := abv (abv (abv [] nm0 u.M) nm1 u.Kg) nm2 u.S
def blwU (u : MUnit) : Str := blw (blw (blw [] nm0 u.M) nm1 u.Kg) nm2 u.S
def prU (u : MUnit) : Str := if vU u = true then (if abvU u = [] then [49] else abvU u) ++ blwU u else []
theorem itm_ne {nm : Str} {n : Int} (h : nm ≠ []) : itm nm n ≠ [] := by unfold itm; split <;> simp [h]
theorem itoa_f {n : Int} (hn : -16 ≤ n ∧ n ≤ 16) : strconv_Itoa_S FF (n.natAbs : Int) = some (Lib.itoa (n.natAbs : Int)) := by
 unfold strconv_Itoa_S itoa?
 rw [if_pos (by have := itoa_len16 (n := n.natAbs) (by omega); omega)]
theorem round_u {nm above below : Str} {n : Int} (hnm : nm.length ≤ 10) (hnn : nm ≠ []) (ha : above.length ≤ 10000) (hb : below.length ≤ 10000) (hn : -16 ≤ n ∧ n ≤ 16) :
  (Option.bind (if ((decide (1 < n)) || (decide (n < (-1)))) = true then (Option.bind (strconv_Itoa_S FF (max n (IntKind.i64.wrap (-n)))) (fun x_15 => Option.bind (app? [94] x_15) (fun x_16 => Option.bind (app? nm x_16) (fun x_17 => some x_17)))) else (some nm)) (fun p_14 => if ((decide (0 < n)) && (decide (above = []))) = true then (some (p_14, below)) else (if (decide (0 < n)) = true then (Option.bind (app? [42] p_14) (fun x_18 => Option.bind (app? above x_18) (fun x_19 => some (x_19, below)))) else (if (decide (n < 0)) = true then (Option.bind (app? [47] p_14) (fun x_20 => Option.bind (app? below x_20) (fun x_21 => some (above, x_21)))) else (some (above, below)))))) = some (abv above nm n, blw below nm n) := by
 refine Yld.eq ?_
 have hl := itm_len (nm := nm) hn
 refine Yld.bind (P := fun p => p = itm nm n) ?_ ?_
 ·by_cases h : 1 < n ∨ n < -1
  ·rw [itm_1 h, max_abs hn]
   have := itoa_len16 (n := n.natAbs) (by omega)
   refine Yld.ift (by simpa using h) (Yld.bindE (itoa_f hn) (Yld.app (by simp; omega) (Yld.app (by simp; omega) (Yld.some rfl))))
  ·rw [itm_0 h]
   exact Yld.iff (by simp; omega) (Yld.some rfl)
 ·rintro p rfl
  by_cases h1 : 0 < n
  ·rw [blw_no (by omega)]
   by_cases h2 : above = []
   ·subst h2
    rw [abv_1 h1]
    exact Yld.ift (by simp [h1]) (Yld.some rfl)
   ·rw [abv_2 h1 h2]
    exact Yld.iff (by simp [h2]) (Yld.ift (decide_eq_true h1) (Yld.app (by simp; omega) (Yld.app (by simp; omega) (Yld.some rfl))))
  ·rw [abv_no h1]
   refine Yld.iff (by simp [h1]) (Yld.iff (decide_eq_false h1) ?_)
   by_cases h2 : n < 0
   ·rw [blw_1 h2]
    exact Yld.ift (decide_eq_true h2) (Yld.app (by simp; omega) (Yld.app (by simp; omega) (Yld.some rfl)))
   ·rw [blw_no h2]
    exact Yld.iff (decide_eq_false h2) (Yld.some rfl)
end Go.Proofs.YtcbbilehdaaffaaGreatDoor

namespace Go.Proofs.YtcbbilehdaaffaaGreatDoor
open Go Go.Sk
set_option linter.unusedSimpArgs false
set_option linter.unusedVariables false
theorem iterS {σ τ : Type} {B : σ → Option (σ ⊕ τ)} {s s' : σ} {n : Nat} (h : B s = some (.inl s')) : iter (n + 1) B s = iter n B s' := by rw [iter_succ, h]; rfl
theorem iterZ {σ τ : Type} {B : σ → Option (σ ⊕ τ)} {s : σ} {t : τ} {n : Nat} (h : B s = some (.inr t)) : iter (n + 1) B s = some t := by rw [iter_succ, h]; rfl
theorem lenU {u : MUnit} (h : vU u = true) : (abvU u).length ≤ 3000 ∧ (blwU u).length ≤ 3000 := by
 obtain ⟨h1, h2, h3⟩ := vU_iff.1 h
 unfold abvU blwU
 have a1 := abv_len (above := []) (nm := nm0) h1
 have a2 := abv_len (above := abv [] nm0 u.M) (nm := nm1) h2
 have a3 := abv_len (above := abv (abv [] nm0 u.M) nm1 u.Kg) (nm := nm2) h3
 have b1 := blw_len (below := []) (nm := nm0) h1
 have b2 := blw_len (below := blw [] nm0 u.M) (nm := nm1) h2
 have b3 := blw_len (below := blw (blw [] nm0 u.M) nm1 u.Kg) (nm := nm2) h3
 simp only [nm0, nm1, nm2, List.length_nil, List.length_cons] at *
 omega
theorem Print_u (u : MUnit) : unit_Print_S FF u = some (prU u) := by
 refine Yld.eq ?_
 unfold unit_Print_S prU
 refine Yld.bindE (Valid_u u) ?_
 cases h : vU u
 ·exact Yld.ift rfl (Yld.some rfl)
 obtain ⟨h1, h2, h3⟩ := vU_iff.1 h
 have a1 := abv_len (above := []) (nm := nm0) h1
 have a2 := abv_len (above := abv [] nm0 u.M) (nm := nm1) h2
 have b1 := blw_len (below := []) (nm := nm0) h1
 have b2 := blw_len (below := blw [] nm0 u.M) (nm := nm1) h2
 obtain ⟨l1, l2⟩ := lenU h
 have e0 : ([] : Str).length = 0 := rfl
 have n0 : nm0.length = 1 := rfl
 have n1 : nm1.length = 2 := rfl
 have n2 : nm2.length = 1 := rfl
 refine Yld.iff rfl (Yld.bind (P := fun p => p = (abvU u, blwU u)) ?_ ?_)
 ·unfold unit_exponents_S
  obtain ⟨k, hk⟩ := F4
  rw [Option.bind_some]
  refine Yld.of ?_
  have r1 := round_u (nm := nm0) (above := []) (below := []) (n := u.M) (by decide) (by decide) (by decide) (by decide) h1
  have r2 := round_u (nm := nm1) (above := abv [] nm0 u.M) (below := blw [] nm0 u.M) (n := u.Kg) (by decide) (by decide) (by omega) (by omega) h2
  have r3 := round_u (nm := nm2) (above := abv (abv [] nm0 u.M) nm1 u.Kg) (below := blw (blw [] nm0 u.M) nm1 u.Kg) (n := u.S) (by decide) (by decide) (by omega) (by omega) h3
  generalize hB : (un3 fun (above_5 : Str) (below_6 : Str) (x_7 : Int) => _ : Str × Str × Int → Option ((Str × Str × Int) ⊕ (Str × Str))) = B
  rw [show iter FF B ([], [], 0) = iter (k + 4) B ([], [], 0) by rw [hk]]
  rw [iterS (s' := (abv [] nm0 u.M, blw [] nm0 u.M, 1)), iterS (s' := (abv (abv [] nm0 u.M) nm1 u.Kg, blw (blw [] nm0 u.M) nm1 u.Kg, 2)), iterS (s' := (abvU u, blwU u, 3)), iterZ (t := (abvU u, blwU u))]
  ·subst hB; rfl
  ·subst hB
   show Option.bind (Option.bind (some u.S) fun x => Option.bind (some nm2) _) _ = _
   rw [Option.bind_some, Option.bind_some]
   exact congrArg (fun o => Option.bind o _) r3
  ·subst hB
   show Option.bind (Option.bind (some u.Kg) fun x => Option.bind (some nm1) _) _ = _
   rw [Option.bind_some, Option.bind_some]
   exact congrArg (fun o => Option.bind o _) r2
  ·subst hB
   show Option.bind (Option.bind (some u.M) fun x => Option.bind (some nm0) _) _ = _
   rw [Option.bind_some, Option.bind_some]
   exact congrArg (fun o => Option.bind o _) r1
 ·rintro _ rfl
  show Yld (Option.bind (if decide (abvU u = []) = true then _ else _) _) _
  rw [if_pos rfl]
  by_cases h4 : abvU u = []
  ·rw [if_pos h4, decide_eq_true h4]
   exact Yld.bindE (if_pos rfl) (Yld.app (by simp; omega) (Yld.some rfl))
  ·rw [if_neg h4, decide_eq_false h4]
   exact Yld.bindE (if_neg (by simp)) (Yld.app (show (abvU u).length + (blwU u).length ≤ _ by omega) (Yld.some rfl))
def wrQ (a : Quantity) : Str := if rt a = true then (if a.U = zU then txF a.V else txF a.V ++ 32 :: prU a.U) else []
theorem txF_len {x : Frc} (hx : inF x) : (txF x).length ≤ 1001 := by
 unfold txF
 have h1 := txB_len hx.1
 have h2 := txB_len hx.2
 split
 ·split
  ·omega
  ·rw [List.length_append, List.length_cons]; omega
 ·exact Nat.zero_le _
theorem prU_len (u : MUnit) : (prU u).length ≤ 6000 := by
 unfold prU
 split
 ·next h =>
  obtain ⟨l1, l2⟩ := lenU h
  rw [List.length_append]
  split
  ·simp; omega
  ·omega
 ·exact Nat.zero_le _
theorem wrQ_no {a : Quantity} (h : rt a = false) : wrQ a = [] := by unfold wrQ; rw [h]; rfl
theorem wrQ_1 {a : Quantity} (h : rt a = true) (h2 : a.U = zU) : wrQ a = txF a.V := by unfold wrQ; rw [if_pos h, if_pos h2]
theorem wrQ_2 {a : Quantity} (h : rt a = true) (h2 : a.U ≠ zU) : wrQ a = txF a.V ++ 32 :: prU a.U := by unfold wrQ; rw [if_pos h, if_neg h2]
theorem Write_q {a : Quantity} (ha : inQ a) : unit_Write_S FF a = some (wrQ a) := by
 refine Yld.eq ?_
 unfold unit_Write_S
 refine Yld.bindE (isRight_1 ha) ?_
 have l1 := txF_len ha
 have l2 := prU_len a.U
 cases h : rt a
 ·rw [wrQ_no h]; exact Yld.ift rfl (Yld.some rfl)
 refine Yld.iff rfl ?_
 by_cases h2 : a.U = zU
 ·rw [wrQ_1 h h2]; exact Yld.ift (decide_eq_true h2) (Yld.bindE (Text_f ha) (Yld.some rfl))
 ·rw [wrQ_2 h h2]
  refine Yld.iff (decide_eq_false h2) (Yld.bindE (Text_f ha) (Yld.app (by simp; omega) (Yld.bindE (Print_u _) (Yld.app (by simp; omega) (Yld.some ?_)))))
  simp
end Go.Proofs.YtcbbilehdaaffaaGreatDoor

namespace Go.Proofs.YtcbbilehdaaffaaGreatDoor
open Go Go.Sk
set_option linter.unusedSimpArgs false
set_option linter.unusedVariables false
theorem get_at {q : Str} {i : Nat} (h : i < q.length) : (⟨⟨q⟩⟩ : ByteArray).get! (i + 0) = q[i] := by
 show (⟨⟨q⟩⟩ : ByteArray).get! i = _
 have h2 : i < (⟨⟨q⟩⟩ : ByteArray).size := by show i < q.toArray.size; simpa using h
 show (q.toArray)[i]! = _
 rw [getElem!_pos q.toArray i (by simpa using h)]
 simp
theorem rune_ascii {q : Str} {i : Nat} (h : i < q.length) (hb : q[i].toNat < 128) : runeAt q i = q[i].toNat ∧ runeTo q i = i + 1 := by
 unfold runeAt runeTo Utf8.decode
 simp only [get_at h]
 rw [if_pos hb]
 exact ⟨rfl, rfl⟩
theorem rune_high {q : Str} {i : Nat} (h : i < q.length) (hb : 128 ≤ q[i].toNat) : 128 ≤ runeAt q i := by
 unfold runeAt Utf8.decode
 simp only [get_at h]
 rw [if_neg (by omega)]
 repeat' split
 all_goals first | (simp only [Utf8.runeError]; omega) | (simp only [Bool.and_eq_true, decide_eq_true_eq, ge_iff_le] at *; omega) | (dsimp only; omega) | skip
def pl (p : UInt8 → Bool) : Str → Nat
 | [] => 0
 | c :: s => if p c then pl p s + 1 else 0
theorem pl_t {p : UInt8 → Bool} {c : UInt8} {s : Str} (h : p c = true) : pl p (c :: s) = pl p s + 1 := if_pos h
theorem pl_f {p : UInt8 → Bool} {c : UInt8} {s : Str} (h : p c = false) : pl p (c :: s) = 0 := if_neg (by simp [h])
theorem pl_le (p : UInt8 → Bool) : ∀ s : Str, pl p s ≤ s.length
 | [] => Nat.le_refl _
 | c :: s => by
  have := pl_le p s
  cases hc : p c
  ·rw [pl_f hc]; exact Nat.zero_le _
  ·rw [pl_t hc, List.length_cons]; omega
theorem pl_in (p : UInt8 → Bool) : ∀ {s : Str} {i : Nat} (h : i < pl p s) (h2 : i < s.length), p s[i] = true
 | c :: s, i, h, h2 => by
  cases hc : p c
  ·rw [pl_f hc] at h; omega
  ·cases i with
   | zero => exact hc
   | succ i =>
    have h3 : i < pl p s := by rw [pl_t hc] at h; omega
    exact pl_in p h3 (by simpa using h2)
theorem pl_at (p : UInt8 → Bool) : ∀ {s : Str} (h : pl p s < s.length), p (s[pl p s]) = false
 | c :: s, h => by
  cases hc : p c
  ·simp only [pl_f hc]; exact hc
  ·have h2 : pl p s < s.length := by rw [pl_t hc] at h; simpa using h
   simp only [pl_t hc]; exact pl_at p h2
theorem pl_app {p : UInt8 → Bool} : ∀ {a b : Str}, (∀ c ∈ a, p c = true) → (∀ c, b.head? = some c → p c = false) → pl p (a ++ b) = a.length
 | [], [], _, _ => rfl
 | [], c :: b, _, h => pl_f (h c rfl)
 | c :: a, b, h, h2 => by
  show pl p (c :: (a ++ b)) = _
  rw [pl_t (h c (by simp)), pl_app (fun x hx => h x (by simp [hx])) h2]; rfl
def isL (c : UInt8) : Bool := (decide (97 ≤ c.toNat) && decide (c.toNat ≤ 122)) || (decide (65 ≤ c.toNat) && decide (c.toNat ≤ 90))
def isD (c : UInt8) : Bool := decide (48 ≤ c.toNat) && decide (c.toNat ≤ 57)
theorem isL_asc {c : UInt8} (h : isL c = true) : c.toNat < 128 := by simp [isL] at h; omega
theorem isD_asc {c : UInt8} (h : isD c = true) : c.toNat < 128 := by simp [isD] at h; omega
def gL (c : Int) : Bool := (decide (97 ≤ c) && decide (c ≤ 122)) || (decide (65 ≤ c) && decide (c ≤ 90))
def gD (c : Int) : Bool := decide (48 ≤ c) && decide (c ≤ 57)
theorem gL_nat (n : Nat) : gL (n : Int) = ((decide (97 ≤ n) && decide (n ≤ 122)) || (decide (65 ≤ n) && decide (n ≤ 90))) := by
 unfold gL
 rw [show decide ((97 : Int) ≤ (n : Int)) = decide (97 ≤ n) by rw [decide_eq_decide]; omega, show decide ((n : Int) ≤ 122) = decide (n ≤ 122) by rw [decide_eq_decide]; omega, show decide ((65 : Int) ≤ (n : Int)) = decide (65 ≤ n) by rw [decide_eq_decide]; omega, show decide ((n : Int) ≤ 90) = decide (n ≤ 90) by rw [decide_eq_decide]; omega]
theorem gD_nat (n : Nat) : gD (n : Int) = (decide (48 ≤ n) && decide (n ≤ 57)) := by
 unfold gD
 rw [show decide ((48 : Int) ≤ (n : Int)) = decide (48 ≤ n) by rw [decide_eq_decide]; omega, show decide ((n : Int) ≤ 57) = decide (n ≤ 57) by rw [decide_eq_decide]; omega]
theorem index_f {s : Str} {f : Nat} {truth : Bool} {g : Int → Bool} {p : UInt8 → Bool} (hs : s.length ≤ 10000) (hf : ∀ c, runeFn_S FF f c = some (g c)) (hp : ∀ c : UInt8, p c = true → c.toNat < 128)
  (hg : ∀ c : UInt8, (g (c.toNat : Int) == truth) = !p c) (hh : ∀ c : Int, 128 ≤ c → (g c == truth) = true) : strings_indexFunc_S FF s f truth = some (if pl p s < s.length then (pl p s : Int) else -1) := by
 refine Yld.eq ?_
 unfold strings_indexFunc_S
 have hle := pl_le p s
 refine Yld.bind (P := fun o => o = if pl p s < s.length then .inr (pl p s) else .inl ()) (Yld.rounds (pl p s) (fun k (i : Nat) => i = k) (by have := FF2; omega) rfl ?_) ?_
 ·rintro i k hk rfl
  by_cases h : k < s.length
  ·refine Yld.ift (decide_eq_true h) (Yld.bindE (hf _) ?_)
   by_cases h2 : k < pl p s
   ·have hc := pl_in p h2 h
    obtain ⟨e1, e2⟩ := rune_ascii h (hp _ hc)
    rw [e1, e2, hg, hc]
    exact Yld.iff rfl (Yld.some (.inl ⟨_, rfl, rfl, h2⟩))
   ·obtain rfl : k = pl p s := by omega
    have hc := pl_at p h
    have e : (g (runeAt s (pl p s)) == truth) = true := by
     by_cases hb : s[pl p s].toNat < 128
     ·rw [(rune_ascii h hb).1, hg, hc]; rfl
     ·exact hh _ (rune_high h (by omega))
    rw [e]
    exact Yld.ift rfl (Yld.some (.inr ⟨_, rfl, by rw [if_pos h]⟩))
  ·obtain rfl : k = pl p s := by omega
   exact Yld.iff (decide_eq_false h) (Yld.some (.inr ⟨_, rfl, by rw [if_neg h]⟩))
 ·rintro _ rfl
  by_cases h : pl p s < s.length
  ·rw [if_pos h, if_pos h]; exact Yld.some rfl
  ·rw [if_neg h, if_neg h]; exact Yld.some rfl
theorem letter_f (c : Int) : runeFn_S FF 173 c = some (gL c) := rfl
theorem digit_f (c : Int) : runeFn_S FF 120 c = some (gD c) := rfl
theorem trim_f {s : Str} {f : Nat} {g : Int → Bool} {p : UInt8 → Bool} (hs : s.length ≤ 10000) (hf : ∀ c, runeFn_S FF f c = some (g c)) (hp : ∀ c : UInt8, p c = true → c.toNat < 128)
  (hg : ∀ c : UInt8, g (c.toNat : Int) = p c) (hh : ∀ c : Int, 128 ≤ c → g c = false) : strings_TrimLeftFunc_S FF s f = some (s.drop (pl p s)) := by
 refine Yld.eq ?_
 unfold strings_TrimLeftFunc_S
 have hle := pl_le p s
 refine Yld.bindE (index_f (truth := false) hs hf hp (fun c => by rw [hg]; cases p c <;> rfl) (fun c hc => by rw [hh c hc]; rfl)) ?_
 by_cases h : pl p s < s.length
 ·rw [if_pos h]
  refine Yld.iff (decide_eq_false (by omega)) (Yld.drop (by omega) (by omega) (Yld.some ?_))
  rw [Int.toNat_natCast]
 ·rw [if_neg h]
  refine Yld.ift rfl (Yld.some ?_)
  rw [List.drop_of_length_le (by omega)]
theorem take_f {s : Str} {f : Nat} {g : Int → Bool} {p : UInt8 → Bool} {q : Quantity} {sg : Int} (hs : s.length ≤ 10000) (hf : ∀ c, runeFn_S FF f c = some (g c)) (hp : ∀ c : UInt8, p c = true → c.toNat < 128)
  (hg : ∀ c : UInt8, g (c.toNat : Int) = p c) (hh : ∀ c : Int, 128 ≤ c → g c = false) : unit_reader_take_S FF f s q sg = some (s.take (pl p s), s.drop (pl p s)) := by
 refine Yld.eq ?_
 unfold unit_reader_take_S
 have hle := pl_le p s
 refine Yld.bindE (trim_f hs hf hp hg hh) ?_
 rw [List.length_drop, wi64' (by omega) (by omega)]
 refine Yld.take (by omega) (by omega) (Yld.some ?_)
 rw [show ((s.length : Int) - ((s.length - pl p s : Nat) : Int)).toNat = pl p s by omega]
theorem takeL {s : Str} {q : Quantity} {sg : Int} (hs : s.length ≤ 10000) : unit_reader_take_S FF 173 s q sg = some (s.take (pl isL s), s.drop (pl isL s)) :=
 take_f hs letter_f (fun c => isL_asc) (fun c => gL_nat _) (fun c hc => by simp [gL]; omega)
theorem takeD {s : Str} {q : Quantity} {sg : Int} (hs : s.length ≤ 10000) : unit_reader_take_S FF 120 s q sg = some (s.take (pl isD s), s.drop (pl isD s)) :=
 take_f hs digit_f (fun c => isD_asc) (fun c => gD_nat _) (fun c hc => by simp [gD]; omega)
def nmL (s : Str) : Nat := if s.head? = some 49 ∨ s.head? = some 37 then 1 else pl isL s
theorem nmL_le (s : Str) : nmL s ≤ s.length := by
 unfold nmL
 split
 ·cases s with
  | nil => simp at *
  | cons c s => simp
 ·exact pl_le _ _
theorem hasPrefix_1 {s : Str} {c : UInt8} : strings_HasPrefix_S FF s [c] = some (decide (s.head? = some c)) := by
 unfold strings_HasPrefix_S
 cases s with
 | nil => rfl
 | cons b s =>
  have e : Lib.hasPrefix (b :: s) [c] = decide ((b :: s).head? = some c) := by
   rw [Bool.eq_iff_iff]; simp [Lib.hasPrefix, List.isPrefixOf]; exact eq_comm
  rw [e]
theorem name_f {s : Str} {q : Quantity} {sg : Int} (hs : s.length ≤ 10000) : unit_reader_name_S FF s q sg = some (s.take (nmL s), s.drop (nmL s)) := by
 refine Yld.eq ?_
 unfold unit_reader_name_S
 refine Yld.bindE hasPrefix_1 ?_
 have one : ∀ {c : UInt8}, s.head? = some c → nmL s = 1 → Yld (Option.bind (take? s 1) (fun x_3 => Option.bind (drop? s 1) (fun x_4 => some (x_3, x_4)))) (· = (s.take (nmL s), s.drop (nmL s))) := fun {c} h e => by
  have : 1 ≤ s.length := by cases s with
   | nil => simp at h
   | cons b s => simp
  rw [e]
  exact Yld.take (by decide) (by omega) (Yld.drop (by decide) (by omega) (Yld.some rfl))
 by_cases h1 : s.head? = some 49
 ·rw [decide_eq_true h1]
  exact Yld.g0 rfl (Yld.ift rfl (one h1 (if_pos (.inl h1))))
 ·rw [decide_eq_false h1]
  refine Yld.g1 rfl (Yld.bindE hasPrefix_1 ?_)
  by_cases h2 : s.head? = some 37
  ·rw [decide_eq_true h2]
   exact Yld.ift rfl (one h2 (if_pos (.inr h2)))
  ·rw [decide_eq_false h2]
   have e : nmL s = pl isL s := if_neg (fun h => h.elim h1 h2)
   rw [e]
   exact Yld.iff rfl (Yld.bindE (takeL hs) (Yld.some rfl))
end Go.Proofs.YtcbbilehdaaffaaGreatDoor

namespace Go.Proofs.YtcbbilehdaaffaaGreatDoor
open Go Go.Sk
set_option linter.unusedSimpArgs false
set_option linter.unusedVariables false
def dV (c : UInt8) : Int := (c.toNat : Int) - 48
def exN (cap : Int) (l : Str) : Int := l.foldl (fun n c => min (n * 10 + dV c) cap) 0
theorem exN_snoc (cap : Int) (l : Str) (c : UInt8) : exN cap (l ++ [c]) = min (exN cap l * 10 + dV c) cap := by simp [exN]
theorem isD_rng {c : UInt8} (h : isD c = true) : 0 ≤ dV c ∧ dV c ≤ 9 := by simp [isD] at h; unfold dV; omega
theorem snocI {α : Type} {M : List α → Prop} (h0 : M []) (h1 : ∀ l c, M l → M (l ++ [c])) (l : List α) : M l := by
 have : ∀ l : List α, M l.reverse := by
  intro l
  induction l with
  | nil => exact h0
  | cons c l ih => rw [List.reverse_cons]; exact h1 _ _ ih
 have h := this l.reverse
 rwa [List.reverse_reverse] at h
theorem exN_rng {cap : Int} (hc : 0 ≤ cap) {l : Str} : (∀ c ∈ l, isD c = true) → 0 ≤ exN cap l ∧ exN cap l ≤ cap := by
 refine snocI (M := fun l => (∀ c ∈ l, isD c = true) → 0 ≤ exN cap l ∧ exN cap l ≤ cap) ?_ ?_ l
 ·intro _; exact ⟨Int.le_refl _, hc⟩
 ·intro l c ih h
  have := ih fun x hx => h x (by simp [hx])
  have := isD_rng (h c (by simp))
  rw [exN_snoc]; omega
structure ExB (t : Str) (neg : Bool) (n : Int) : Prop where
 bad : pl isD t = 0 ∨ 16 < n ∨ (1 < pl isD t ∧ t.head? = some 48) ∨ (neg = true ∧ n = 0)
instance (t : Str) (neg : Bool) (n : Int) : Decidable (ExB t neg n) := decidable_of_iff (pl isD t = 0 ∨ 16 < n ∨ (1 < pl isD t ∧ t.head? = some 48) ∨ (neg = true ∧ n = 0)) ⟨fun h => ⟨h⟩, fun h => h.bad⟩
def exT (s : Str) : Str := if (s.drop 1).head? = some 45 then s.drop 2 else s.drop 1
def exG (s : Str) : Bool := decide ((s.drop 1).head? = some 45)
def exV (s : Str) : Int := exN 17 ((exT s).take (pl isD (exT s)))
def exS (s : Str) : Int × Int × Str :=
 if s.head? = some 94 then
  (if ExB (exT s) (exG s) (exV s) then (0, 280, (exT s).drop (pl isD (exT s))) else (if exG s = true then -exV s else exV s, 0, (exT s).drop (pl isD (exT s))))
 else (1, 0, s)
theorem wi32' {z : Int} (h1 : -2147483648 ≤ z) (h2 : z ≤ 2147483647) : IntKind.i32.wrap z = z := by
 have e : IntKind.i32.wrap z = (z + 2147483648) % 4294967296 - 2147483648 := by
  simp [IntKind.wrap, IntKind.signed, IntKind.bits]; split <;> omega
 rw [e]; omega
theorem hasP_1 {b c : UInt8} {s : Str} : stringslite_HasPrefix_S FF (b :: s) [c] = some (decide (b = c)) := by
 refine Yld.eq ?_
 unfold stringslite_HasPrefix_S
 have e1 : (((([c] : Str).length : Nat) : Int) ≤ (((b :: s).length : Nat) : Int)) := by simp; omega
 refine Yld.g1 (decide_eq_true e1) (Yld.take (by simp) e1 (Yld.ln (Yld.some ?_)))
 have e2 : (b :: s).take ((([c] : Str).length : Nat) : Int).toNat = [b] := by simp
 rw [e2, decide_eq_true e1, Bool.true_and, decide_eq_decide]
 simp
theorem cutPrefix_1 {s : Str} {c : UInt8} : strings_CutPrefix_S FF s [c] = some (if s.head? = some c then (s.drop 1, true) else (s, false)) := by
 refine Yld.eq ?_
 unfold strings_CutPrefix_S stringslite_CutPrefix_S
 cases s with
 | nil => exact Yld.of rfl
 | cons b s =>
  have e1 : (((([c] : Str).length : Nat) : Int) ≤ (((b :: s).length : Nat) : Int)) := by simp; omega
  rw [hasP_1]
  by_cases h : b = c
  ·rw [if_pos (by rw [h]; rfl), decide_eq_true h]
   exact Yld.bind (P := fun o => o = (s, true)) (show Yld (if (!true) = true then some (b :: s, false) else _) _ from Yld.iff rfl (Yld.drop (by simp) e1 (Yld.some rfl))) (fun o ho => by subst ho; exact Yld.some rfl)
  ·rw [if_neg (by simp [h]), decide_eq_false h]
   exact Yld.bind (P := fun o => o = (b :: s, false)) (show Yld (if (!false) = true then _ else Option.bind (drop? (b :: s) (([c] : Str).length : Int)) fun x_2 => some (x_2, true)) _ from Yld.ift rfl (Yld.some rfl)) (fun o ho => by subst ho; exact Yld.some rfl)
theorem take_isD {t : Str} : ∀ c ∈ t.take (pl isD t), isD c = true := by
 intro c hc
 obtain ⟨i, hi, rfl⟩ := List.getElem_of_mem hc
 rw [List.getElem_take]
 have : i < pl isD t ∧ i < t.length := by rw [List.length_take] at hi; omega
 exact pl_in isD this.1 this.2
theorem digits_loop {l : Str} (hl : ∀ c ∈ l, isD c = true) (hs : l.length ≤ 10000) :
  iter FF (un2 fun (n_8 : Int) (xp_9 : Nat) => if decide (xp_9 < l.length) = true then (letN (IntKind.i32.wrap ((runeAt l xp_9) - 48)) fun x_11 => letN (IntKind.i64.wrap ((IntKind.i64.wrap (n_8 * 10)) + (IntKind.i64.wrap x_11))) fun x_12 => some (.inl (min x_12 17, runeTo l xp_9))) else (some (.inr n_8))) (0, 0) = some (exN 17 l) := by
 refine Yld.eq (Yld.rounds l.length (fun k (s : Int × Nat) => s = (exN 17 (l.take k), k)) (by have := FF2; omega) rfl ?_)
 rintro k ⟨n, i⟩ hk hs
 obtain ⟨rfl, rfl⟩ := Prod.mk.inj hs
 by_cases h : i < l.length
 ·have hc := hl l[i] (List.getElem_mem h)
  have hd := isD_rng hc
  have hn := exN_rng (cap := 17) (by decide) (l := l.take i) fun c hc => hl c (List.mem_of_mem_take hc)
  obtain ⟨e1, e2⟩ := rune_ascii h (isD_asc hc)
  refine Yld.ift (decide_eq_true h) (Yld.lnE (dV l[i]) ?_ (Yld.lnE (exN 17 (l.take i) * 10 + dV l[i]) ?_ (Yld.some (.inl ⟨_, rfl, ?_, h⟩))))
  ·rw [e1]
   unfold dV at hd ⊢
   exact wi32' (by omega) (by omega)
  ·rw [wi64' (z := dV l[i]) (by omega) (by omega), wi64' (z := exN 17 (l.take i) * 10) (by omega) (by omega), wi64' (by omega) (by omega)]
  ·rw [e2, List.take_succ_eq_append_getElem h, exN_snoc]
 ·obtain rfl : i = l.length := by omega
  exact Yld.iff (decide_eq_false h) (Yld.some (.inr ⟨_, rfl, by rw [List.take_length]⟩))
theorem exponent_f {s : Str} {q : Quantity} {sg : Int} (hs : s.length ≤ 10000) : unit_reader_exponent_S FF s q sg = some (exS s) := by
 refine Yld.eq ?_
 unfold unit_reader_exponent_S exS
 refine Yld.bindE cutPrefix_1 ?_
 by_cases h : s.head? = some 94
 ·rw [if_pos h, if_pos h]
  refine Yld.iff rfl (Yld.bindE cutPrefix_1 ?_)
  have e1 : (if (s.drop 1).head? = some 45 then ((s.drop 1).drop 1, true) else (s.drop 1, false)) = (exT s, exG s) := by
   unfold exT exG
   by_cases h2 : (s.drop 1).head? = some 45
   ·rw [if_pos h2, if_pos h2, decide_eq_true h2, List.drop_drop]
   ·rw [if_neg h2, if_neg h2, decide_eq_false h2]
  rw [e1]
  have lT : (exT s).length ≤ 10000 := by unfold exT; split <;> (rw [List.length_drop]; omega)
  have hD := take_isD (t := exT s)
  have hle := pl_le isD (exT s)
  have hv := exN_rng (cap := 17) (by decide) hD
  refine Yld.bindE (takeD lT) (Yld.bindE (digits_loop hD (Nat.le_trans (by rw [List.length_take]; exact Nat.min_le_right _ _) lT)) ?_)
  show Yld (Option.bind (gcall ((!((decide ((exT s).take (pl isD (exT s)) = [])) || (decide (16 < exV s)))) && _) _) _) _
  have fv : 0 ≤ exV s ∧ exV s ≤ 17 := hv
  have ll : ((exT s).take (pl isD (exT s))).length = pl isD (exT s) := by rw [List.length_take]; omega
  have e0 : ((exT s).take (pl isD (exT s)) = []) ↔ pl isD (exT s) = 0 := by rw [← List.length_eq_zero_iff, ll]
  have eb : decide (1 < ((((exT s).take (pl isD (exT s))).length : Nat) : Int)) = decide (1 < pl isD (exT s)) := by rw [ll, decide_eq_decide]; omega
  rw [eb]
  have fin : ∀ (x : UInt8), (1 < pl isD (exT s) → pl isD (exT s) ≠ 0 → exV s ≤ 16 → ((exT s).head? = some 48 ↔ (x.toNat : Int) = 48)) →
    Yld (letN (((decide ((exT s).take (pl isD (exT s)) = [])) || (decide (16 < exV s))) || ((decide (1 < pl isD (exT s))) && (decide ((x.toNat : Int) = 48)))) fun x_14 => if (x_14 || (exG s && (decide (exV s = 0)))) = true then (some ((0 : Int), (280 : Int), (exT s).drop (pl isD (exT s)))) else (Option.bind (if exG s = true then (some (IntKind.i64.wrap (-exV s))) else (some (exV s))) (fun n_15 => some (n_15, (0 : Int), (exT s).drop (pl isD (exT s)))))) (· = if ExB (exT s) (exG s) (exV s) then (0, 280, (exT s).drop (pl isD (exT s))) else (if exG s = true then -exV s else exV s, 0, (exT s).drop (pl isD (exT s)))) := fun x hx => by
   refine Yld.ln ?_
   by_cases hb : ExB (exT s) (exG s) (exV s)
   ·rw [if_pos hb]
    refine Yld.ift ?_ (Yld.some rfl)
    simp only [Bool.or_eq_true, Bool.and_eq_true, decide_eq_true_eq, e0]
    rcases hb.bad with h1 | h1 | h1 | h1
    ·exact .inl (.inl (.inl h1))
    ·exact .inl (.inl (.inr h1))
    ·by_cases h2 : 16 < exV s
     ·exact .inl (.inl (.inr h2))
     ·exact .inl (.inr ⟨h1.1, (hx h1.1 (by omega) (by omega)).1 h1.2⟩)
    ·exact .inr h1
   ·rw [if_neg hb]
    have hb' : ¬ (pl isD (exT s) = 0 ∨ 16 < exV s ∨ (1 < pl isD (exT s) ∧ (exT s).head? = some 48) ∨ (exG s = true ∧ exV s = 0)) := fun h => hb ⟨h⟩
    refine Yld.iff ?_ ?_
    ·rw [Bool.eq_false_iff]
     intro h2
     simp only [Bool.or_eq_true, Bool.and_eq_true, decide_eq_true_eq, e0] at h2
     rcases h2 with ((h2 | h2) | h2) | h2
     ·exact hb' (.inl h2)
     ·exact hb' (.inr (.inl h2))
     ·by_cases h3 : pl isD (exT s) = 0
      ·exact hb' (.inl h3)
      by_cases h4 : 16 < exV s
      ·exact hb' (.inr (.inl h4))
      exact hb' (.inr (.inr (.inl ⟨h2.1, (hx h2.1 h3 (by omega)).2 h2.2⟩)))
     ·exact hb' (.inr (.inr (.inr h2)))
    ·cases exG s
     ·exact Yld.some rfl
     ·rw [wi64' (by omega) (by omega)]; exact Yld.some rfl
  by_cases hg : (!((decide ((exT s).take (pl isD (exT s)) = [])) || (decide (16 < exV s))) && decide (1 < pl isD (exT s))) = true
  ·rw [hg]
   have h1 : 1 < pl isD (exT s) := by simp at hg; exact hg.2
   obtain ⟨c, t, ht⟩ : ∃ c t, exT s = c :: t := by
    cases h2 : exT s with
    | nil => rw [h2] at h1; simp [pl] at h1
    | cons c t => exact ⟨c, t, rfl⟩
   have ei : idx? ((exT s).take (pl isD (exT s))) 0 = some c := by
    obtain ⟨k, hk⟩ : ∃ k, pl isD (exT s) = k + 1 := ⟨pl isD (exT s) - 1, by omega⟩
    rw [hk, ht]
    exact idx?_eq (by decide) (by simp)
   refine Yld.g1 rfl (Yld.bindE ei (fin c fun _ _ _ => ?_))
   rw [ht]
   simp only [List.head?_cons, Option.some.injEq]
   constructor
   ·rintro rfl; rfl
   ·intro h; apply UInt8.toNat_inj.1; show c.toNat = 48; omega
  ·have hg' := Bool.eq_false_iff.2 hg
   rw [hg']
   refine Yld.g0 rfl (fin default fun h1 h2 h3 => ?_)
   exfalso
   apply hg
   simp only [Bool.and_eq_true, Bool.not_eq_true', Bool.or_eq_false_iff, decide_eq_false_iff_not, decide_eq_true_eq, e0]
   exact ⟨⟨h2, by omega⟩, h1⟩
 ·rw [if_neg h, if_neg h]
  exact Yld.ift rfl (Yld.some rfl)
end Go.Proofs.YtcbbilehdaaffaaGreatDoor

namespace Go.Proofs.YtcbbilehdaaffaaGreatDoor
open Go Go.Sk
set_option linter.unusedSimpArgs false
set_option linter.unusedVariables false
theorem u8eq {c : UInt8} {k : Nat} (hk : k < 256) : ((c.toNat : Int) = (k : Int)) ↔ c = UInt8.ofNat k := by
 constructor
 ·intro h
  apply UInt8.toNat_inj.1
  rw [UInt8.toNat_ofNat_of_lt' (by simpa using hk)]
  omega
 ·rintro rfl
  rw [UInt8.toNat_ofNat_of_lt' (by simpa using hk)]
end Go.Proofs.YtcbbilehdaaffaaGreatDoor

namespace Go.Proofs.YtcbbilehdaaffaaGreatDoor
open Go Go.Sk
set_option linter.unusedSimpArgs false
set_option linter.unusedVariables false
noncomputable def frN (x : Named) : Frc := mkB (big x.n) (big x.d)
theorem frN_in (x : Named) : inF (frN x) := mkB_in _ _
def nmOk (x : Named) : Bool := decide (-9223372036854775808 ≤ x.n ∧ x.n ≤ 9223372036854775807) && decide (-9223372036854775808 ≤ x.d ∧ x.d ≤ 9223372036854775807) && vU x.unit && !decide (x.name = [])
theorem names_ok : ∀ x ∈ unitNames, nmOk x = true := by
 have h : unitNames.all nmOk = true := by decide
 exact fun x hx => List.all_eq_true.1 h x hx
theorem nmOk_iff {x : Named} (h : nmOk x = true) : ((-9223372036854775808 ≤ x.n ∧ x.n ≤ 9223372036854775807) ∧ (-9223372036854775808 ≤ x.d ∧ x.d ≤ 9223372036854775807)) ∧ vU x.unit = true ∧ x.name ≠ [] := by
 simp only [nmOk, Bool.and_eq_true, decide_eq_true_eq, Bool.not_eq_true', decide_eq_false_iff_not] at h
 exact ⟨h.1.1, h.1.2, h.2⟩
def nameOf (s : Str) : Option Named := unitNames.find? fun x => decide (x.name = s)
theorem nameOf_mem {s : Str} {x : Named} (h : nameOf s = some x) : x ∈ unitNames := List.mem_of_find?_eq_some h
noncomputable def itF (w : Frc) (neg : Bool) (v : Frc) : Nat → Frc
 | 0 => v
 | k + 1 => if neg = true then divF (itF w neg v k) w else mulF (itF w neg v k) w
theorem itF_in {w v : Frc} {neg : Bool} (hv : inF v) : ∀ k, inF (itF w neg v k)
 | 0 => hv
 | k + 1 => by unfold itF; split; exact divF_in _ _; exact mulF_in _ _
noncomputable def facS (q : Quantity) (x : Named) (n : Int) : Quantity × Int :=
 if (cmb q.U x.unit n).2 ≠ 0 then (zQ, (cmb q.U x.unit n).2) else quF (itF (frN x) (decide (n < 0)) q.V n.natAbs) (cmb q.U x.unit n).1
theorem Frac_n {x : Named} (h : nmOk x = true) : q_Frac_S FF x.n x.d = some (frN x) := Frac_f (nmOk_iff h).1.1 (nmOk_iff h).1.2
theorem pow_loop {x : Named} {q : Quantity} {t : Str} {sg : Int} {u : MUnit} {n : Int} {c : Nat} {neg : Bool} (hx : nmOk x = true) (hq : inF q.V) (hn : -16 ≤ n ∧ n ≤ 16) (hc : c = if neg = true then 21 else 25) :
  iter FF (un2 fun (r_12 : Reader) (x_13 : Int) => if (decide (x_13 < (max n (IntKind.i64.wrap (-n))))) = true then (Option.bind (q_Frac_S FF x.n x.d) (fun x_15 => Option.bind (numberFn_S FF c r_12.q.V x_15) (fun x_16 => some (.inl ((⟨r_12.s, (⟨x_16, r_12.q.U⟩ : Quantity), r_12.sign⟩ : Reader), IntKind.i64.wrap (x_13 + 1)))))) else (some (.inr r_12))) ((⟨t, (⟨q.V, u⟩ : Quantity), sg⟩ : Reader), 0) = some ⟨t, ⟨itF (frN x) neg q.V n.natAbs, u⟩, sg⟩ := by
 rw [max_abs hn]
 refine Yld.eq (Yld.rounds n.natAbs (fun k (s : Reader × Int) => s = (⟨t, ⟨itF (frN x) neg q.V k, u⟩, sg⟩, (k : Int))) (by have := FF1; omega) rfl ?_)
 rintro k ⟨r, i⟩ hk hs
 obtain ⟨rfl, rfl⟩ := Prod.mk.inj hs
 by_cases h : k < n.natAbs
 ·refine Yld.ift (decide_eq_true (by omega)) (Yld.bindE (Frac_n hx) (Yld.bindE (x := itF (frN x) neg q.V (k + 1)) ?_ (Yld.some (.inl ⟨_, rfl, ?_, h⟩))))
  ·have i1 := itF_in (w := frN x) (neg := neg) hq k
   cases neg
   ·subst hc; exact Mul_f i1 (frN_in x)
   ·subst hc; exact Div_f i1 (frN_in x)
  ·rw [wi64' (by omega) (by omega)]; rfl
 ·exact Yld.iff (decide_eq_false (by omega)) (Yld.some (.inr ⟨_, rfl, by rw [show k = n.natAbs by omega]⟩))
theorem facS_err {q : Quantity} {x : Named} {n : Int} (h : (cmb q.U x.unit n).2 ≠ 0) : facS q x n = (zQ, (cmb q.U x.unit n).2) := if_pos h
theorem facS_ok {q : Quantity} {x : Named} {n : Int} (h : (cmb q.U x.unit n).2 = 0) : facS q x n = quF (itF (frN x) (decide (n < 0)) q.V n.natAbs) (cmb q.U x.unit n).1 := if_neg fun e => e h
theorem exS_rng (s : Str) (h : (exS s).2.1 = 0) : -16 ≤ (exS s).1 ∧ (exS s).1 ≤ 16 := by
 unfold exS at h ⊢
 split at h
 ·next h0 =>
  rw [if_pos h0]
  split at h
  ·simp at h
  ·next hb =>
   rw [if_neg hb]
   have hv := exN_rng (cap := 17) (by decide) (take_isD (t := exT s))
   have h16 : ¬ 16 < exV s := fun x => hb ⟨.inr (.inl x)⟩
   have : 0 ≤ exV s := hv.1
   dsimp only
   split <;> omega
 ·next h0 => rw [if_neg h0]; dsimp only; omega
theorem exS_len (s : Str) : (exS s).2.2.length ≤ s.length := by
 unfold exS
 have : (exT s).length ≤ s.length := by unfold exT; split <;> (rw [List.length_drop]; omega)
 split
 ·split <;> (dsimp only; rw [List.length_drop]; omega)
 ·exact Nat.le_refl _
noncomputable def facT (s : Str) (q : Quantity) (sg : Int) : Quantity × Int × Str :=
 if s.take (nmL s) = [] then (zQ, 280, []) else match nameOf (s.take (nmL s)) with
  | none => (zQ, 5, [])
  | some x => if (exS (s.drop (nmL s))).2.1 ≠ 0 then (zQ, 280, []) else
    if (facS q x (sg * (exS (s.drop (nmL s))).1)).2 ≠ 0 then (zQ, (facS q x (sg * (exS (s.drop (nmL s))).1)).2, []) else
    ((facS q x (sg * (exS (s.drop (nmL s))).1)).1, 0, (exS (s.drop (nmL s))).2.2)
end Go.Proofs.YtcbbilehdaaffaaGreatDoor

namespace Go.Proofs.YtcbbilehdaaffaaGreatDoor
open Go Go.Sk
set_option linter.unusedSimpArgs false
set_option linter.unusedVariables false
inductive PR : Str → Quantity → Int → Quantity × Int → Prop
 | err {s : Str} {q : Quantity} {sg : Int} (h : (facT s q sg).2.1 ≠ 0) : PR s q sg (zQ, (facT s q sg).2.1)
 | fin {s : Str} {q : Quantity} {sg : Int} (h : (facT s q sg).2.1 = 0) (h2 : (facT s q sg).2.2 = []) : PR s q sg ((facT s q sg).1, 0)
 | mul {s t : Str} {q : Quantity} {sg : Int} {r : Quantity × Int} (h : (facT s q sg).2.1 = 0) (h2 : (facT s q sg).2.2 = 42 :: t) (h3 : PR t (facT s q sg).1 1 r) : PR s q sg r
 | div {s t : Str} {q : Quantity} {sg : Int} {r : Quantity × Int} (h : (facT s q sg).2.1 = 0) (h2 : (facT s q sg).2.2 = 47 :: t) (h3 : PR t (facT s q sg).1 (-1) r) : PR s q sg r
 | bad {s t : Str} {q : Quantity} {sg : Int} {c : UInt8} (h : (facT s q sg).2.1 = 0) (h2 : (facT s q sg).2.2 = c :: t) (h3 : c ≠ 42) (h4 : c ≠ 47) : PR s q sg (zQ, 280)
theorem PR.one {s : Str} {q : Quantity} {sg : Int} {r r' : Quantity × Int} (h : PR s q sg r) (h' : PR s q sg r') : r = r' := by
 induction h with
 | err h => cases h' with
  | err _ => rfl
  | fin h1 => exact absurd h1 h
  | mul h1 => exact absurd h1 h
  | div h1 => exact absurd h1 h
  | bad h1 => exact absurd h1 h
 | fin h h2 => cases h' with
  | err h1 => exact absurd h h1
  | fin _ _ => rfl
  | mul _ h1 => rw [h2] at h1; cases h1
  | div _ h1 => rw [h2] at h1; cases h1
  | bad _ h1 => rw [h2] at h1; cases h1
 | mul h h2 h3 ih => cases h' with
  | err h1 => exact absurd h h1
  | fin _ h1 => rw [h2] at h1; cases h1
  | mul _ h1 h4 => rw [h2] at h1; cases h1; exact ih h4
  | div _ h1 => rw [h2] at h1; cases h1
  | bad _ h1 h4 => rw [h2] at h1; cases h1; exact absurd rfl h4
 | div h h2 h3 ih => cases h' with
  | err h1 => exact absurd h h1
  | fin _ h1 => rw [h2] at h1; cases h1
  | mul _ h1 => rw [h2] at h1; cases h1
  | div _ h1 h4 => rw [h2] at h1; cases h1; exact ih h4
  | bad _ h1 h4 h5 => rw [h2] at h1; cases h1; exact absurd rfl h5
 | bad h h2 h3 h4 => cases h' with
  | err h1 => exact absurd h h1
  | fin _ h1 => rw [h2] at h1; cases h1
  | mul _ h1 => rw [h2] at h1; cases h1; exact absurd rfl h3
  | div _ h1 => rw [h2] at h1; cases h1; exact absurd rfl h4
  | bad _ _ => rfl
theorem facT_no {s : Str} {q : Quantity} {sg : Int} (h : s.take (nmL s) = []) : facT s q sg = (zQ, 280, []) := if_pos h
theorem facT_un {s : Str} {q : Quantity} {sg : Int} (h : s.take (nmL s) ≠ []) (h1 : nameOf (s.take (nmL s)) = none) : facT s q sg = (zQ, 5, []) := by unfold facT; rw [if_neg h, h1]
theorem facT_ex {s : Str} {q : Quantity} {sg : Int} {x : Named} (h : s.take (nmL s) ≠ []) (h1 : nameOf (s.take (nmL s)) = some x) (h2 : (exS (s.drop (nmL s))).2.1 ≠ 0) : facT s q sg = (zQ, 280, []) := by unfold facT; rw [if_neg h, h1]; exact if_pos h2
theorem facT_er {s : Str} {q : Quantity} {sg : Int} {x : Named} (h : s.take (nmL s) ≠ []) (h1 : nameOf (s.take (nmL s)) = some x) (h2 : (exS (s.drop (nmL s))).2.1 = 0) (h3 : (facS q x (sg * (exS (s.drop (nmL s))).1)).2 ≠ 0) : facT s q sg = (zQ, (facS q x (sg * (exS (s.drop (nmL s))).1)).2, []) := by
 unfold facT; rw [if_neg h, h1]; dsimp only; rw [if_neg (fun e => e h2), if_pos h3]
theorem facT_ok {s : Str} {q : Quantity} {sg : Int} {x : Named} (h : s.take (nmL s) ≠ []) (h1 : nameOf (s.take (nmL s)) = some x) (h2 : (exS (s.drop (nmL s))).2.1 = 0) (h3 : (facS q x (sg * (exS (s.drop (nmL s))).1)).2 = 0) : facT s q sg = ((facS q x (sg * (exS (s.drop (nmL s))).1)).1, 0, (exS (s.drop (nmL s))).2.2) := by
 unfold facT; rw [if_neg h, h1]; dsimp only; rw [if_neg (fun e => e h2), if_neg (fun e => e h3)]
theorem facS_in {q : Quantity} {x : Named} {n : Int} (hx : nmOk x = true) (hq : inF q.V) (h : (facS q x n).2 = 0) : inF (facS q x n).1.V ∧ vU (facS q x n).1.U = true := by
 by_cases hc : (cmb q.U x.unit n).2 = 0
 ·rw [facS_ok hc] at h ⊢
  unfold quF at h ⊢
  split at h
  ·next h1 =>
   rw [if_pos h1]
   refine ⟨itF_in hq _, ?_⟩
   show vU (cmb q.U x.unit n).1 = true
   cases a1 : vU q.U
   ·rw [cmb_bad1 a1] at hc; simp at hc
   cases a2 : sm n
   ·rw [cmb_bad3 a2] at hc; simp at hc
   have hc2 := cmb_ok a1 (nmOk_iff hx).2.1 a2
   cases a3 : vU (cmU q.U x.unit n)
   ·rw [a3, if_neg (by decide)] at hc2; rw [hc2] at hc; simp at hc
   ·rw [a3, if_pos rfl] at hc2; rw [hc2]; exact a3
  ·simp at h
 ·rw [facS_err hc] at h; exact absurd h hc
theorem facT_in {s : Str} {q : Quantity} {sg : Int} (hq : inF q.V) (h : (facT s q sg).2.1 = 0) : inF (facT s q sg).1.V ∧ vU (facT s q sg).1.U = true ∧ (facT s q sg).2.2.length < s.length := by
 by_cases h0 : s.take (nmL s) = []
 ·rw [facT_no h0] at h; simp at h
 cases h1 : nameOf (s.take (nmL s)) with
 | none => rw [facT_un h0 h1] at h; simp at h
 | some x =>
  by_cases h2 : (exS (s.drop (nmL s))).2.1 = 0
  ·by_cases h3 : (facS q x (sg * (exS (s.drop (nmL s))).1)).2 = 0
   ·rw [facT_ok h0 h1 h2 h3]
    have a := facS_in (names_ok _ (nameOf_mem h1)) hq h3
    refine ⟨a.1, a.2, ?_⟩
    have b := exS_len (s.drop (nmL s))
    have c : 1 ≤ nmL s := by
     by_cases e : nmL s = 0
     ·rw [e] at h0; exact absurd rfl h0
     ·omega
    have d := nmL_le s
    rw [List.length_drop] at b
    show (exS (s.drop (nmL s))).2.2.length < s.length
    omega
   ·rw [facT_er h0 h1 h2 h3] at h; exact absurd h h3
  ·rw [facT_ex h0 h1 h2] at h; simp at h
theorem exS_er {s : Str} (h : (exS s).2.1 ≠ 0) : (exS s).2.1 = 280 := by
 unfold exS at h ⊢
 split at h
 ·next h0 =>
  rw [if_pos h0]
  split at h
  ·next h1 => rw [if_pos h1]
  ·simp at h
 ·simp at h
theorem factor_f {s : Str} {q : Quantity} {sg : Int} (hs : s.length ≤ 10000) (hq : inF q.V) (hsg : sg = 1 ∨ sg = -1) :
  Yld (unit_reader_factor_S FF s q sg) fun o => o.1 = (facT s q sg).2.1 ∧ ((facT s q sg).2.1 = 0 → o = (0, (facT s q sg).2.2, (facT s q sg).1, sg)) := by
 unfold unit_reader_factor_S
 refine Yld.bindE (name_f hs) ?_
 by_cases h0 : s.take (nmL s) = []
 ·rw [facT_no h0]
  exact Yld.ift (decide_eq_true h0) (Yld.some ⟨rfl, fun e => by simp at e⟩)
 refine Yld.iff (decide_eq_false h0) ?_
 have hlen : (s.drop (nmL s)).length ≤ 10000 := by rw [List.length_drop]; omega
 refine Yld.bind (P := fun o => match nameOf (s.take (nmL s)) with
  | none => o = .inl ()
  | some x => ∃ p : Int × Str × Quantity × Int, o = .inr p ∧ p.1 = (facT s q sg).2.1 ∧ ((facT s q sg).2.1 = 0 → p = (0, (facT s q sg).2.2, (facT s q sg).1, sg))) ?_ ?_
 ·refine Yld.rounds 23 (fun k (i : Int) => i = (k : Int) ∧ (unitNames.drop k).find? (fun x => decide (x.name = s.take (nmL s))) = nameOf (s.take (nmL s))) (by have := FF1; omega) ⟨rfl, rfl⟩ ?_
  rintro k _ hk ⟨rfl, hf⟩
  by_cases h : k < 23
  ·have hl : k < unitNames.length := h
   rw [List.drop_eq_getElem_cons hl, List.find?_cons] at hf
   have hi : idx? unitNames (k : Int) = some unitNames[k] := by
    rw [idx?_eq (by omega) (by omega)]
    simp [idx, List.getD, hl]
   have hm : unitNames[k] ∈ unitNames := List.getElem_mem hl
   generalize unitNames[k] = x at hf hi hm
   refine Yld.ift (decide_eq_true (by omega)) ?_
   have hx := names_ok x hm
   by_cases e : x.name = s.take (nmL s)
   ·rw [decide_eq_true e] at hf
    have h1 : nameOf (s.take (nmL s)) = some x := hf.symm
    rw [h1]
    refine Yld.bind (P := fun o => ∃ p : Int × Str × Quantity × Int, o = .inr p ∧ p.1 = (facT s q sg).2.1 ∧ ((facT s q sg).2.1 = 0 → p = (0, (facT s q sg).2.2, (facT s q sg).1, sg))) ?_ ?_
    ·refine Yld.bindE hi (Yld.iff (decide_eq_false fun y => y e) (Yld.bindE (exponent_f hlen) ?_))
     by_cases h2 : (exS (s.drop (nmL s))).2.1 = 0
     ·have hr := exS_rng _ h2
      have hn : -16 ≤ sg * (exS (s.drop (nmL s))).1 ∧ sg * (exS (s.drop (nmL s))).1 ≤ 16 := by rcases hsg with rfl | rfl <;> omega
      have hab : (sg * (exS (s.drop (nmL s))).1).natAbs = ((exS (s.drop (nmL s))).1).natAbs := by rcases hsg with rfl | rfl <;> omega
      refine Yld.iff (decide_eq_false fun y => y h2) ?_
      rw [wi64' (z := sg * (exS (s.drop (nmL s))).1) (by omega) (by omega)]
      refine Yld.bindE (combine_u _ _ _) ?_
      by_cases h3 : (cmb q.U x.unit (sg * (exS (s.drop (nmL s))).1)).2 = 0
      ·refine Yld.iff (decide_eq_false fun y => y h3) ?_
       refine Yld.bind (P := fun c => c = if decide (sg * (exS (s.drop (nmL s))).1 < 0) = true then 21 else 25) (Yld.ite (fun y => Yld.some (by rw [if_pos y])) (fun y => Yld.some (by rw [if_neg (by rw [y]; decide)]))) ?_
       intro c hc
       refine Yld.bindE (pow_loop hx hq hr hc) (Yld.bindE (Good_f (itF_in hq _)) ?_)
       have hfs := facS_ok h3
       rw [hab] at hfs
       unfold quF at hfs
       cases h4 : (qF (itF (frN x) (decide (sg * (exS (s.drop (nmL s))).1 < 0)) q.V ((exS (s.drop (nmL s))).1).natAbs)).isSome
       ·rw [h4, if_neg (by decide)] at hfs
        refine Yld.ift rfl (Yld.some ⟨_, rfl, ?_⟩)
        rw [facT_er h0 h1 h2 (by rw [hfs]; decide), hfs]
        exact ⟨rfl, fun y => by simp at y⟩
       ·rw [h4, if_pos rfl] at hfs
        refine Yld.iff rfl (Yld.some ⟨_, rfl, ?_⟩)
        rw [facT_ok h0 h1 h2 (by rw [hfs]), hfs]
        exact ⟨rfl, fun _ => rfl⟩
      ·refine Yld.ift (decide_eq_true h3) (Yld.some ⟨_, rfl, ?_⟩)
       have hfs := facS_err h3
       rw [facT_er h0 h1 h2 (by rw [hfs]; exact h3), hfs]
       exact ⟨rfl, fun y => absurd y h3⟩
     ·refine Yld.ift (decide_eq_true h2) (Yld.some ⟨_, rfl, ?_⟩)
      rw [facT_ex h0 h1 h2]
      exact ⟨exS_er h2, fun y => by simp at y⟩
    ·rintro _ ⟨p, rfl, hp⟩
     exact Yld.some (.inr ⟨_, rfl, p, rfl, hp⟩)
   ·rw [decide_eq_false e] at hf
    refine Yld.bindE (Yld.eq (Yld.bindE hi (Yld.ift (decide_eq_true e) (Yld.some rfl)))) (Yld.some (.inl ⟨_, rfl, ⟨?_, hf⟩, h⟩))
    rw [wi64' (by omega) (by omega)]; rfl
  ·obtain rfl : k = 23 := by omega
   have e : nameOf (s.take (nmL s)) = none := hf.symm
   rw [e]
   exact Yld.iff (decide_eq_false (by omega)) (Yld.some (.inr ⟨_, rfl, rfl⟩))
 ·intro o ho
  cases h1 : nameOf (s.take (nmL s)) with
  | none =>
   rw [h1] at ho
   subst ho
   rw [facT_un h0 h1]
   exact Yld.some ⟨rfl, fun y => by simp at y⟩
  | some x =>
   rw [h1] at ho
   obtain ⟨p, rfl, hp⟩ := ho
   exact Yld.some hp
noncomputable def q1 : Quantity := ⟨mk ((1 : Int) : Rat), zU⟩
theorem Parse_p {s : Str} : Yld (unit_Parse_S FF s) fun r => if 100 < s.length then r = (zQ, 2) else PR s q1 1 r := by
 unfold unit_Parse_S
 by_cases h : 100 < s.length
 ·exact Yld.mono (P := fun r => r = (zQ, 2)) (Yld.ift (decide_eq_true (by omega)) (Yld.ln (Yld.some rfl))) fun r hr => by rw [if_pos h]; exact hr
 refine Yld.mono (P := fun r => PR s q1 1 r) ?_ fun r hr => by rw [if_neg h]; exact hr
 refine Yld.iff (decide_eq_false (by omega)) (Yld.bindE Of_1 (Yld.ln (Yld.bind (P := fun r => PR s q1 1 r) ?_ (fun o ho => Yld.some ho))))
 refine Yld.loop (fun st : Reader => st.s.length ≤ 100 ∧ inF st.q.V ∧ (st.sign = 1 ∨ st.sign = -1) ∧ ∀ r, PR st.s st.q st.sign r → PR s q1 1 r) (fun st => st.s.length) ⟨by dsimp only; omega, mk_in _, .inl rfl, fun r hr => hr⟩ (by have := FF2; dsimp only; omega) ?_
 rintro ⟨t, q, sg⟩ ⟨hl, hq, hsg, hpr⟩
 dsimp only at hl hq hsg hpr ⊢
 refine Yld.bind (factor_f (by omega) hq hsg) ?_
 rintro ⟨e, t', q', sg'⟩ ⟨he, ho⟩
 dsimp only at he
 subst he
 by_cases h1 : (facT t q sg).2.1 = 0
 ·obtain ⟨_, e1, e2, e3⟩ : _ ∧ _ ∧ _ ∧ _ := by simpa using ho h1
  obtain ⟨i1, i2, i3⟩ := facT_in hq h1
  subst e1; subst e2
  refine Yld.iff (decide_eq_false fun y => y h1) ?_
  cases h2 : (facT t q sg).2.2 with
  | nil => exact Yld.ift rfl (Yld.some (.inr ⟨_, rfl, hpr _ (.fin h1 h2)⟩))
  | cons c t2 =>
   rw [h2] at i3
   have hd : drop? (c :: t2) 1 = some t2 := by
    unfold drop?
    rw [if_pos ⟨by decide, by simp; omega⟩]; rfl
   have l2 : t2.length < t.length := by simp at i3; omega
   refine Yld.iff rfl (Yld.bindE (show idx? (c :: t2) 0 = some c from idx?_eq (by decide) (by simp)) ?_)
   by_cases h3 : c = 42
   ·refine Yld.ift (decide_eq_true (by rw [h3]; rfl)) (Yld.bindE rfl (Yld.bindE hd (Yld.some (.inl ⟨_, rfl, ⟨?_, i1, .inl rfl, fun r hr => hpr _ (.mul h1 (by rw [h2, h3]) hr)⟩, l2⟩))))
    dsimp only; omega
   ·refine Yld.iff (decide_eq_false (p := (c.toNat : Int) = 42) fun y => h3 ((u8eq (k := 42) (by decide)).1 y)) ?_
    by_cases h4 : c = 47
    ·refine Yld.ift (decide_eq_true (by rw [h4]; rfl)) (Yld.bindE rfl (Yld.bindE hd (Yld.some (.inl ⟨_, rfl, ⟨?_, i1, .inr rfl, fun r hr => hpr _ (.div h1 (by rw [h2, h4]) hr)⟩, l2⟩))))
     dsimp only; omega
    ·exact Yld.iff (decide_eq_false (p := (c.toNat : Int) = 47) fun y => h4 ((u8eq (k := 47) (by decide)).1 y)) (Yld.ln (Yld.some (.inr ⟨_, rfl, hpr _ (.bad h1 h2 h3 h4)⟩)))
 ·exact Yld.ift (decide_eq_true h1) (Yld.ln (Yld.some (.inr ⟨_, rfl, hpr _ (.err h1)⟩)))
end Go.Proofs.YtcbbilehdaaffaaGreatDoor

namespace Go.Proofs.YtcbbilehdaaffaaGreatDoor
open Go Go.Sk
set_option linter.unusedSimpArgs false
set_option linter.unusedVariables false
theorem PR.unit {s : Str} {q : Quantity} {sg : Int} {r : Quantity × Int} (hq : inF q.V) (h : PR s q sg r) : r.2 = 0 → inF r.1.V ∧ vU r.1.U = true := by
 induction h with
 | err h => intro e; exact absurd e h
 | fin h h2 => intro _; exact ⟨(facT_in hq h).1, (facT_in hq h).2.1⟩
 | mul h h2 h3 ih => exact ih (facT_in hq h).1
 | div h h2 h3 ih => exact ih (facT_in hq h).1
 | bad h => intro e; simp at e
end Go.Proofs.YtcbbilehdaaffaaGreatDoor

namespace Go.Proofs.YtcbbilehdaaffaaGreatDoor
open Go Go.Sk
set_option linter.unusedSimpArgs false
set_option linter.unusedVariables false
theorem mk_eq' (r : Rat) : mk r = ⟨big r.num, big r.den⟩ := by simp only [mk]
theorem itoa_one : Lib.itoa 1 = [49] := by
 unfold Lib.itoa
 rw [if_neg (by decide)]
 exact dd_small (by decide)
theorem itoa_zero : Lib.itoa 0 = [48] := by
 unfold Lib.itoa
 rw [if_neg (by decide)]
 exact dd_small (by decide)
theorem itoa_inj {a b : Int} (ra : InM a) (rb : InM b) (h : Lib.itoa a = Lib.itoa b) : a = b := by
 have h1 := rds_itoa ra
 rw [h] at h1
 have := RdS.one h1 (rds_itoa rb)
 exact (big_inj ra rb).1 (Prod.mk.inj this).1
theorem txB_big {a : Int} (h : InM a) : txB (big a) = Lib.itoa a := by unfold txB; rw [iv_big h]
theorem txF_one {r : Rat} (hf : fits r) (h1 : (r.den : Int) = 1) : txF (mk r) = Lib.itoa r.num := by
 have t1 : txB (big r.num) = Lib.itoa r.num := txB_big hf.1
 unfold txF
 rw [qF_mk hf, if_pos (show (some r).isSome = true from rfl), mk_N, mk_D, if_pos (congrArg big h1), t1]
theorem txF_two {r : Rat} (hf : fits r) (h1 : (r.den : Int) ≠ 1) : txF (mk r) = Lib.itoa r.num ++ 47 :: Lib.itoa r.den := by
 have t1 : txB (big r.num) = Lib.itoa r.num := txB_big hf.1
 have t2 : txB (big r.den) = Lib.itoa r.den := txB_big hf.2
 have hd : big (r.den : Int) ≠ big 1 := fun g => h1 ((big_inj hf.2 one_InM).1 g)
 unfold txF
 rw [qF_mk hf, if_pos (show (some r).isSome = true from rfl), mk_N, mk_D, if_neg hd, t1, t2]
theorem rdF_good {p q : Big} {r : Rat} {b : Str} {two : Bool} (hq : qF ⟨p, q⟩ = some r) (hb : two = true → b ≠ [48] ∧ b ≠ [49] ∧ b.head? ≠ some 45) : rdF p 0 q 0 two b = (⟨p, q⟩, 0) := by
 unfold rdF
 rw [hq, if_neg, if_neg (by simp), if_pos (show (some r).isSome = true from rfl)]
 rintro (h | h | ⟨h, h2⟩)
 ·exact absurd h (by decide)
 ·exact absurd h (by decide)
 ·obtain ⟨n1, n2, n3⟩ := hb h
  rcases h2 with g | g | g
  ·exact n1 g
  ·exact n2 g
  ·exact n3 g
theorem back_one {r : Rat} (hf : fits r) (h1 : (r.den : Int) = 1) : RdF (Lib.itoa r.num) (mk r, 0) := by
 have e := sl_none (itoa_no47 r.num)
 have hq : mk r = ⟨big r.num, big 1⟩ := by rw [mk_eq', h1]
 have hs := qF_mk hf
 rw [hq] at hs
 have hlt : ¬ sl (Lib.itoa r.num) < (Lib.itoa r.num).length := by omega
 refine ⟨big r.num, 0, big 1, 0, ?_, ?_, ?_⟩
 ·rw [e, List.take_length]; exact rds_itoa hf.1
 ·rw [if_neg hlt]; exact ⟨rfl, rfl⟩
 ·rw [decide_eq_false hlt, rdF_good hs (fun h => by cases h), hq]
theorem back_two {r : Rat} (hf : fits r) (h1 : (r.den : Int) ≠ 1) : RdF (Lib.itoa r.num ++ 47 :: Lib.itoa r.den) (mk r, 0) := by
 have h0 := den_pos r
 have e := sl_app (b := Lib.itoa r.den) (itoa_no47 r.num)
 have hlt : sl (Lib.itoa r.num ++ 47 :: Lib.itoa r.den) < (Lib.itoa r.num ++ 47 :: Lib.itoa r.den).length := by rw [e]; simp
 have ht : (Lib.itoa r.num ++ 47 :: Lib.itoa r.den).take (Lib.itoa r.num).length = Lib.itoa r.num := by simp
 have hdr : (Lib.itoa r.num ++ 47 :: Lib.itoa r.den).drop ((Lib.itoa r.num).length + 1) = Lib.itoa r.den := by simp
 have n1 : Lib.itoa r.den ≠ [49] := fun g => h1 (itoa_inj hf.2 one_InM (by rw [g, itoa_one]))
 have n2 : Lib.itoa r.den ≠ [48] := fun g => by have := itoa_inj hf.2 zero_InM (by rw [g, itoa_zero]); omega
 have n3 : (Lib.itoa r.den).head? ≠ some 45 := by
  rw [itoa_nn (by omega)]; exact head_dig _
 have hs := qF_mk hf
 rw [mk_eq'] at hs
 refine ⟨big r.num, 0, big r.den, 0, ?_, ?_, ?_⟩
 ·rw [e, ht]; exact rds_itoa hf.1
 ·rw [if_pos hlt, e, hdr]; exact rds_itoa hf.2
 ·rw [decide_eq_true hlt, e, hdr, rdF_good hs (fun _ => ⟨n2, n1, n3⟩), mk_eq']
theorem read_back {x : Frc} {r : Rat} (hx : inF x) (h : qF x = some r) {z : Frc × Int} (hz : RdF (txF x) z) : z = (x, 0) := by
 obtain ⟨hf, e⟩ := qF_some hx h
 rw [e] at hz ⊢
 by_cases h1 : (r.den : Int) = 1
 ·rw [txF_one hf h1] at hz
  exact RdF.one hz (back_one hf h1)
 ·rw [txF_two hf h1] at hz
  exact RdF.one hz (back_two hf h1)
theorem txF_450 {x : Frc} (hx : inF x) : (txF x).length ≤ 450 := by
 have key : ∀ {b : Big}, inB b → (txB b).length ≤ 160 := fun {b} hb => by
  unfold txB
  cases h : iv b with
  | none => simp
  | some a =>
   have ra := (iv_some hb h).2.2
   dsimp only
   unfold Lib.itoa
   split
   ·have h1 := dd_MM (a := -a) (by omega)
    have e : (-a).toNat = a.natAbs := by omega
    rw [e] at h1
    rw [List.length_cons]; omega
   ·have h1 := dd_MM (a := a) ra.2
    omega
 have l1 := key hx.1
 have l2 := key hx.2
 unfold txF
 split
 ·split
  ·omega
  ·rw [List.length_append, List.length_cons]; omega
 ·simp
theorem index_none {c : UInt8} : ∀ {a : Str}, (∀ x ∈ a, x ≠ c) → Lib.index a [c] = -1
 | [], _ => rfl
 | b :: a, h => by
  unfold Lib.index
  have hb : ([c] : Str).isPrefixOf (b :: a) = false := by
   have := h b (by simp)
   simp [List.isPrefixOf, Ne.symm this]
  rw [hb, index_none fun x hx => h x (by simp [hx])]; rfl
theorem index_at {c : UInt8} : ∀ {a b : Str}, (∀ x ∈ a, x ≠ c) → Lib.index (a ++ c :: b) [c] = a.length
 | [], b, _ => by
  show Lib.index (c :: b) [c] = 0
  unfold Lib.index
  rw [if_pos (by simp [List.isPrefixOf])]
 | d :: a, b, h => by
  show Lib.index (d :: (a ++ c :: b)) [c] = _
  unfold Lib.index
  have hb : ([c] : Str).isPrefixOf (d :: (a ++ c :: b)) = false := by
   have := h d (by simp)
   simp [List.isPrefixOf, Ne.symm this]
  have ih := index_at (a := a) (b := b) fun x hx => h x (by simp [hx])
  rw [hb, ih, if_neg (by simp), if_neg (by rw [beq_iff_eq]; omega)]
  rw [List.length_cons]; omega
theorem cut_none {c : UInt8} {a : Str} (h : ∀ x ∈ a, x ≠ c) (hl : a.length ≤ 100000) : strings_Cut_S FF a [c] = some (a, [], false) := by
 unfold strings_Cut_S cut? Lib.cut
 rw [if_pos (by omega), index_none h]; rfl
theorem cut_at {c : UInt8} {a b : Str} (h : ∀ x ∈ a, x ≠ c) (hl : a.length + b.length ≤ 100000) : strings_Cut_S FF (a ++ c :: b) [c] = some (a, b, true) := by
 unfold strings_Cut_S cut? Lib.cut
 rw [if_pos (by rw [List.length_append, List.length_cons]; omega), index_at h, if_pos (by omega), Int.toNat_natCast]
 have e1 : (a ++ c :: b).take a.length = a := by simp
 have e2 : (a ++ c :: b).drop (a.length + ([c] : Str).length) = b := by
  rw [← List.drop_drop, List.drop_left]; rfl
 rw [e1, e2]
theorem itoa_rng (a : Int) : ∀ c ∈ Lib.itoa a, c ≠ 32 ∧ c ≠ 46 := fun c hc => by
 have hd : ∀ {c : UInt8}, isDig c → c ≠ 32 ∧ c ≠ 46 := fun {c} h => by
  unfold isDig at h
  constructor <;> (rintro rfl; revert h; decide)
 unfold Lib.itoa at hc
 split at hc
 ·rcases List.mem_cons.1 hc with rfl | h
  ·decide
  ·exact hd (dd_dig _ _ h)
 ·exact hd (dd_dig _ _ hc)
theorem txB_rng (x : Big) : ∀ c ∈ txB x, c ≠ 32 ∧ c ≠ 46 := by
 unfold txB
 split
 ·exact itoa_rng _
 ·simp
theorem txF_rng (x : Frc) : ∀ c ∈ txF x, c ≠ 32 ∧ c ≠ 46 := by
 unfold txF
 split
 ·split
  ·exact txB_rng _
  ·intro c hc
   rcases List.mem_append.1 hc with h | h
   ·exact txB_rng _ c h
   ·rcases List.mem_cons.1 h with rfl | h
    ·decide
    ·exact txB_rng _ c h
 ·simp
def PX (s : Str) (r : Quantity × Int) : Prop := if 100 < s.length then r = (zQ, 2) else PR s q1 1 r
theorem PX.one {s : Str} {r r' : Quantity × Int} (h : PX s r) (h' : PX s r') : r = r' := by
 unfold PX at h h'
 split at h
 ·next h1 => rw [if_pos h1] at h'; rw [h, h']
 ·next h1 => rw [if_neg h1] at h'; exact PR.one h h'
theorem PX.unit {s : Str} {r : Quantity × Int} (h : PX s r) (e : r.2 = 0) : inF r.1.V ∧ vU r.1.U = true := by
 unfold PX at h
 split at h
 ·rw [h] at e; simp at e
 ·exact PR.unit (mk_in _) h e
noncomputable def rdQ (x : Frc) (r : Quantity × Int) : Quantity × Int := if r.2 ≠ 0 then (zQ, r.2) else doQ mulF mulU ⟨x, zU⟩ r.1
theorem rdQ_er {x : Frc} {r : Quantity × Int} (h : r.2 ≠ 0) : rdQ x r = (zQ, r.2) := if_pos h
theorem rdQ_ok {x : Frc} {r : Quantity × Int} (h : r.2 = 0) : rdQ x r = doQ mulF mulU ⟨x, zU⟩ r.1 := if_neg fun y => y h
theorem Read_2 {x : Frc} {s : Str} (hx : inF x) (hg : (qF x).isSome = true) (hs : s.length ≤ 10000) : Yld (unit_Read_S FF (txF x ++ 32 :: s)) fun o => ∃ r, PX s r ∧ o = rdQ x r := by
 obtain ⟨r, hr⟩ := Option.isSome_iff_exists.1 hg
 have hl := txF_450 hx
 have hc := txF_rng x
 unfold unit_Read_S
 refine Yld.bindE (cut_at (fun c h => (hc c h).1) (by omega)) (Yld.ln (Yld.bindE (x := (x, 0)) ?_ ?_))
 ·refine Yld.eq (Yld.bindE (cut_none (a := txF x) (fun c h => (hc c h).2) (by omega)) (Yld.iff rfl (Yld.bind (Parse_f hl) ?_)))
  intro z hz
  rw [read_back hx hr hz]
  exact Yld.some rfl
 ·refine Yld.iff rfl (Yld.iff rfl (Yld.bind (Parse_p (s := s)) ?_))
  intro q hq
  obtain ⟨q, e⟩ := q
  by_cases h0 : e = 0
  ·subst h0
   have hu := PX.unit hq rfl
   exact Yld.iff rfl (Yld.bindE (Times_q hx hu.1) (Yld.some ⟨_, hq, (rdQ_ok rfl).symm⟩))
  ·exact Yld.ift (decide_eq_true h0) (Yld.ln (Yld.some ⟨_, hq, (rdQ_er h0).symm⟩))
theorem Read_1 {x : Frc} (hx : inF x) (hg : (qF x).isSome = true) : unit_Read_S FF (txF x) = some (⟨x, zU⟩, 0) := by
 obtain ⟨r, hr⟩ := Option.isSome_iff_exists.1 hg
 have hl := txF_450 hx
 have hc := txF_rng x
 refine Yld.eq ?_
 unfold unit_Read_S
 refine Yld.bindE (cut_none (fun c h => (hc c h).1) (by omega)) (Yld.ln (Yld.bindE (x := (x, 0)) ?_ ?_))
 ·refine Yld.eq (Yld.bindE (cut_none (a := txF x) (fun c h => (hc c h).2) (by omega)) (Yld.iff rfl (Yld.bind (Parse_f hl) ?_)))
  intro z hz
  rw [read_back hx hr hz]
  exact Yld.some rfl
 ·exact Yld.iff rfl (Yld.ift rfl (Yld.some rfl))
theorem cmb_z {u : MUnit} (h : vU u = true) : cmb zU u 1 = (u, 0) := by
 have e : cmU zU u 1 = u := by simp [cmU, zU]
 rw [cmb_ok vU_z h (by decide), e, if_pos h]
theorem doQ_z {x y : Frc} {u : MUnit} (hx : (qF x).isSome = true) (hy : (qF y).isSome = true) (hu : vU u = true) : doQ mulF mulU ⟨x, zU⟩ ⟨y, u⟩ = quF (mulF x y) u := by
 have h1 : rt ⟨x, zU⟩ = true := by unfold rt; rw [hx, vU_z]; rfl
 have h2 : rt ⟨y, u⟩ = true := by unfold rt; rw [hy, hu]; rfl
 have e : mulU zU u = (u, 0) := cmb_z hu
 rw [doQ_ok (by rw [h1, h2]; rfl) (by rw [e]), e]
end Go.Proofs.YtcbbilehdaaffaaGreatDoor

namespace Go.Proofs.YtcbbilehdaaffaaGreatDoor
open Go Go.Sk
set_option linter.unusedSimpArgs false
set_option linter.unusedVariables false
noncomputable abbrev oneF : Frc := mk ((1 : Int) : Rat)
theorem one_fits : fits ((1 : Int) : Rat) := int_fits (by decide)
theorem one_q : qF oneF = some ((1 : Int) : Rat) := qF_mk one_fits
theorem one_r : ((1 : Int) : Rat) = 1 := rfl
theorem mulF_1 {x : Frc} {r : Rat} (hx : inF x) (h : qF x = some r) : mulF x oneF = x := by
 obtain ⟨hf, e⟩ := qF_some hx h
 rw [show mulF x oneF = mulR r ((1 : Int) : Rat) from bi_some h one_q]
 unfold mulR
 rw [one_r, Rat.mul_one, ofR_fits hf, e]
theorem mul_11 : mulF oneF oneF = oneF := mulF_1 (mk_in _) one_q
theorem div_11 : divF oneF oneF = oneF := by
 rw [show divF oneF oneF = divR ((1 : Int) : Rat) ((1 : Int) : Rat) from bi_some one_q one_q]
 unfold divR
 rw [if_neg (by decide), one_r, show (1 : Rat) / 1 = 1 by decide +kernel]
 exact ofR_fits one_fits
theorem itF_1 (neg : Bool) : ∀ k, itF oneF neg oneF k = oneF
 | 0 => rfl
 | k + 1 => by unfold itF; rw [itF_1 neg k]; split; exact div_11; exact mul_11
theorem quF_1 (u : MUnit) : quF oneF u = (⟨oneF, u⟩, 0) := by unfold quF; rw [one_q]; rfl
def dg16 (N : Nat) : Str := if N < 10 then [UInt8.ofNat (48 + N)] else [49, UInt8.ofNat (38 + N)]
theorem it16 {N : Nat} (h : N ≤ 16) : Lib.itoa (N : Int) = dg16 N := by
 rw [itoa_nn (by omega), Int.toNat_natCast]
 unfold dg16
 by_cases h1 : N < 10
 ·rw [if_pos h1, dd_small h1]
 ·rw [if_neg h1, dd_big h1, dd_small (by omega), show N / 10 = 1 by omega, show 48 + N % 10 = 38 + N by omega]; rfl
def dgOk (N : Nat) : Bool := decide (exN 17 (dg16 N) = (N : Int)) && (dg16 N).all isD && decide ((dg16 N).head? ≠ some 45) && decide ((dg16 N).head? ≠ some 48) && decide (dg16 N ≠ []) && decide ((dg16 N).length ≤ 2)
theorem dg_ok : ∀ {N : Nat}, 1 ≤ N → N ≤ 16 → dgOk N = true := by
 intro N h1 h2
 have h : ((List.range 16).all fun k => dgOk (k + 1)) = true := by decide
 have := List.all_eq_true.1 h (N - 1) (List.mem_range.2 (by omega))
 rwa [show N - 1 + 1 = N by omega] at this
def stops (t : Str) : Prop := ∀ c, t.head? = some c → c = 42 ∨ c = 47
def exW (n : Int) : Str := if 1 < n ∨ n < -1 then 94 :: Lib.itoa (n.natAbs : Int) else []
theorem itm_ex (nm : Str) (n : Int) : itm nm n = nm ++ exW n := by unfold itm exW; split <;> simp
theorem exW_head {n : Int} {t : Str} (ht : stops t) : ∀ c, (exW n ++ t).head? = some c → c = 94 ∨ c = 42 ∨ c = 47 := by
 unfold exW
 split
 ·intro c h; simp at h; exact .inl h.symm
 ·intro c h; exact .inr (ht c h)
theorem exS_none {t : Str} (ht : stops t) : exS t = (1, 0, t) := if_neg fun h => by rcases ht _ h with h | h <;> cases h
theorem ex_ok {n : Int} {t : Str} (h1 : n ≠ 0) (h2 : -16 ≤ n ∧ n ≤ 16) (ht : stops t) : exS (exW n ++ t) = ((n.natAbs : Int), 0, t) := by
 unfold exW
 by_cases h : 1 < n ∨ n < -1
 ·rw [if_pos h, it16 (by omega)]
  have ok := dg_ok (N := n.natAbs) (by omega) (by omega)
  simp only [dgOk, Bool.and_eq_true, decide_eq_true_eq] at ok
  obtain ⟨⟨⟨⟨⟨o1, o2⟩, o3⟩, o4⟩, o5⟩, o6⟩ := ok
  have hN : n.natAbs ≤ 16 := by omega
  generalize dg16 n.natAbs = D at *
  have hd : (D ++ t).head? = D.head? := head_app o5
  have eT : exT (94 :: D ++ t) = D ++ t := by
   unfold exT
   rw [List.cons_append, List.drop_succ_cons, List.drop_zero, hd, if_neg o3]
  have eG : exG (94 :: D ++ t) = false := by
   unfold exG
   rw [List.cons_append, List.drop_succ_cons, List.drop_zero, hd]
   exact decide_eq_false o3
  have ep : pl isD (D ++ t) = D.length := pl_app (fun c hc => List.all_eq_true.1 o2 c hc) (fun c hc => by rcases ht c hc with h | h <;> (rw [h]; decide))
  have eV : exV (94 :: D ++ t) = (n.natAbs : Int) := by
   unfold exV
   rw [eT, ep, List.take_left, o1]
  unfold exS
  rw [eT, eG, eV, ep, List.drop_left, if_pos (show (94 :: D ++ t).head? = some 94 from rfl), if_neg, if_neg (by decide)]
  rintro ⟨hb⟩
  rw [ep, hd] at hb
  rcases hb with hb | hb | ⟨_, hb⟩ | ⟨hb, _⟩
  ·exact o5 (List.length_eq_zero_iff.1 hb)
  ·omega
  ·exact o4 hb
  ·cases hb
 ·rw [if_neg h, List.nil_append, exS_none ht, show ((n.natAbs : Nat) : Int) = 1 by omega]
structure Nm (nm : Str) (x : Named) : Prop where
 name : nameOf nm = some x
 fr : x.n = 1 ∧ x.d = 1
 let' : nm.all isL = true
 ne : nm ≠ []
theorem frN_1 {x : Named} (h : x.n = 1 ∧ x.d = 1) : frN x = oneF := by unfold frN; rw [h.1, h.2, mkB_one (by decide)]
theorem let_head {nm : Str} (h : nm.all isL = true) : ¬ (nm.head? = some 49 ∨ nm.head? = some 37) := by
 cases nm with
 | nil => simp
 | cons c s =>
  simp only [List.all_cons, Bool.and_eq_true] at h
  simp only [List.head?_cons, Option.some.injEq]
  rintro (rfl | rfl)
  ·exact absurd h.1 (by decide)
  ·exact absurd h.1 (by decide)
theorem nm_at {nm b : Str} (h : nm.all isL = true) (hne : nm ≠ []) (hb : ∀ c, b.head? = some c → isL c = false) : nmL (nm ++ b) = nm.length := by
 unfold nmL
 rw [head_app hne, if_neg (let_head h)]
 exact pl_app (fun c hc => List.all_eq_true.1 h c hc) hb
theorem facS_1 {U : MUnit} {x : Named} {n : Int} (h : x.n = 1 ∧ x.d = 1) (hU : vU U = true) (hx : vU x.unit = true) (hn : -16 ≤ n ∧ n ≤ 16) (hV : vU (cmU U x.unit n) = true) : facS ⟨oneF, U⟩ x n = (⟨oneF, cmU U x.unit n⟩, 0) := by
 have hc := cmb_ok hU hx (sm_iff.2 hn)
 rw [if_pos hV] at hc
 rw [facS_ok (by rw [hc]), hc, frN_1 h, itF_1, quF_1]
theorem fac_m {nm t : Str} {x : Named} {n sg : Int} {U : MUnit} (h : Nm nm x) (h1 : n ≠ 0) (h2 : -16 ≤ n ∧ n ≤ 16) (ht : stops t) (hU : vU U = true) (hsg : sg = 1 ∨ sg = -1) (hV : vU (cmU U x.unit (sg * (n.natAbs : Int))) = true) :
  facT (itm nm n ++ t) ⟨oneF, U⟩ sg = (⟨oneF, cmU U x.unit (sg * (n.natAbs : Int))⟩, 0, t) := by
 have e1 : nmL (itm nm n ++ t) = nm.length := by
  rw [itm_ex, List.append_assoc]
  exact nm_at h.let' h.ne fun c hc => by rcases exW_head ht c hc with h | h | h <;> (rw [h]; decide)
 have e2 : (itm nm n ++ t).take nm.length = nm := by rw [itm_ex, List.append_assoc, List.take_left]
 have e3 : (itm nm n ++ t).drop nm.length = exW n ++ t := by rw [itm_ex, List.append_assoc, List.drop_left]
 have e4 := ex_ok h1 h2 ht
 have hx := names_ok _ (nameOf_mem h.name)
 have e5 := facS_1 (n := sg * (n.natAbs : Int)) h.fr hU (nmOk_iff hx).2.1 (by rcases hsg with rfl | rfl <;> omega) hV
 have := facT_ok (s := itm nm n ++ t) (q := ⟨oneF, U⟩) (sg := sg) (x := x) (by rw [e1, e2]; exact h.ne) (by rw [e1, e2]; exact h.name) (by rw [e1, e3, e4]) (by rw [e1, e3, e4]; dsimp only; rw [e5])
 rw [this, e1, e3, e4]
 dsimp only
 rw [e5]
def Tl (t : Str) (U W : MUnit) : Prop := (t = [] ∧ U = W) ∨ (∃ s, t = 42 :: s ∧ PR s ⟨oneF, U⟩ 1 (⟨oneF, W⟩, 0)) ∨ (∃ s, t = 47 :: s ∧ PR s ⟨oneF, U⟩ (-1) (⟨oneF, W⟩, 0))
theorem Tl.stops {t : Str} {U W : MUnit} (h : Tl t U W) : stops t := by
 rcases h with ⟨rfl, _⟩ | ⟨s, rfl, _⟩ | ⟨s, rfl, _⟩
 ·intro c h; cases h
 ·intro c h; cases h; exact .inl rfl
 ·intro c h; cases h; exact .inr rfl
theorem step {s t : Str} {q : Quantity} {sg : Int} {U W : MUnit} (h : facT s q sg = (⟨oneF, U⟩, 0, t)) (hT : Tl t U W) : PR s q sg (⟨oneF, W⟩, 0) := by
 have h1 : (facT s q sg).2.1 = 0 := by rw [h]
 have h2 : (facT s q sg).2.2 = t := by rw [h]
 have h3 : (facT s q sg).1 = ⟨oneF, U⟩ := by rw [h]
 rcases hT with ⟨rfl, rfl⟩ | ⟨s, rfl, hp⟩ | ⟨s, rfl, hp⟩
 ·have := PR.fin h1 h2
  rwa [h3] at this
 ·rw [← h3] at hp; exact PR.mul h1 h2 hp
 ·rw [← h3] at hp; exact PR.div h1 h2 hp
theorem item {nm t : Str} {x : Named} {n sg : Int} {U V W : MUnit} (h : Nm nm x) (h1 : n ≠ 0) (h2 : -16 ≤ n ∧ n ≤ 16) (hU : vU U = true) (hsg : sg = 1 ∨ sg = -1) (hV : vU V = true) (e : cmU U x.unit (sg * (n.natAbs : Int)) = V) (hT : Tl t V W) :
  PR (itm nm n ++ t) ⟨oneF, U⟩ sg (⟨oneF, W⟩, 0) := by
 subst e
 exact step (fac_m h h1 h2 hT.stops hU hsg hV) hT
def bt (nm : Str) (n : Int) : Str := if n < 0 then 47 :: itm nm n else []
def ct (nm : Str) (n : Int) : Str := if 0 < n then 42 :: itm nm n else []
theorem tl_b {nm t : Str} {x : Named} {n : Int} {U V W : MUnit} (h : Nm nm x) (h2 : -16 ≤ n ∧ n ≤ 16) (hU : vU U = true) (hV : vU V = true) (e : n < 0 → cmU U x.unit n = V) (e0 : ¬ n < 0 → U = V) (hT : Tl t V W) : Tl (bt nm n ++ t) U W := by
 unfold bt
 by_cases hn : n < 0
 ·rw [if_pos hn]
  exact .inr (.inr ⟨_, rfl, item h (by omega) h2 hU (.inr rfl) hV (by rw [← e hn]; congr 1; omega) hT⟩)
 ·rw [if_neg hn, e0 hn]; exact hT
theorem tl_c {nm t : Str} {x : Named} {n : Int} {U V W : MUnit} (h : Nm nm x) (h2 : -16 ≤ n ∧ n ≤ 16) (hU : vU U = true) (hV : vU V = true) (e : 0 < n → cmU U x.unit n = V) (e0 : ¬ 0 < n → U = V) (hT : Tl t V W) : Tl (ct nm n ++ t) U W := by
 unfold ct
 by_cases hn : 0 < n
 ·rw [if_pos hn]
  exact .inr (.inl ⟨_, rfl, item h (by omega) h2 hU (.inl rfl) hV (by rw [← e hn]; congr 1; omega) hT⟩)
 ·rw [if_neg hn, e0 hn]; exact hT
def x0 : Named := ⟨nm0, 1, 1, ⟨1, 0, 0⟩⟩
def x1 : Named := ⟨nm1, 1, 1, ⟨0, 1, 0⟩⟩
def x2 : Named := ⟨nm2, 1, 1, ⟨0, 0, 1⟩⟩
theorem N0 : Nm nm0 x0 := ⟨by decide, ⟨rfl, rfl⟩, by decide, by decide⟩
theorem N1 : Nm nm1 x1 := ⟨by decide, ⟨rfl, rfl⟩, by decide, by decide⟩
theorem N2 : Nm nm2 x2 := ⟨by decide, ⟨rfl, rfl⟩, by decide, by decide⟩
theorem abv_ct {a nm : Str} {n : Int} (h : a ≠ []) : abv a nm n = a ++ ct nm n := by unfold abv ct; split <;> simp [h]
theorem blw_bt (a nm : Str) (n : Int) : blw a nm n = a ++ bt nm n := by unfold blw bt; split <;> simp
theorem fac_1 {t : Str} {sg : Int} {U : MUnit} (ht : stops t) (hU : vU U = true) (hsg : sg = 1 ∨ sg = -1) : facT (49 :: t) ⟨oneF, U⟩ sg = (⟨oneF, U⟩, 0, t) := by
 have e1 : nmL (49 :: t) = 1 := if_pos (.inl rfl)
 have e4 := exS_none ht
 have hn : nameOf [49] = some ⟨[49], 1, 1, ⟨0, 0, 0⟩⟩ := by decide
 have e : cmU U ⟨0, 0, 0⟩ (sg * 1) = U := by simp [cmU]
 have e5 := facS_1 (x := ⟨[49], 1, 1, ⟨0, 0, 0⟩⟩) (n := sg * 1) ⟨rfl, rfl⟩ hU (show vU ⟨0, 0, 0⟩ = true by decide) (by rcases hsg with rfl | rfl <;> omega) (by rw [e]; exact hU)
 rw [e] at e5
 have := facT_ok (s := 49 :: t) (q := ⟨oneF, U⟩) (sg := sg) (x := ⟨[49], 1, 1, ⟨0, 0, 0⟩⟩) (by rw [e1]; simp) (by rw [e1]; exact hn) (by rw [e1]; show (exS t).2.1 = 0; rw [e4]) (by rw [e1]; show (facS _ _ (sg * (exS t).1)).2 = 0; rw [e4]; dsimp only; rw [e5])
 rw [this, e1]
 show ((facS _ _ (sg * (exS t).1)).1, 0, (exS t).2.2) = _
 rw [e4]; dsimp only; rw [e5]
theorem itm_len3 {nm : Str} {n : Int} (h : -16 ≤ n ∧ n ≤ 16) : (itm nm n).length ≤ nm.length + 3 := by
 rw [itm_ex, List.length_append]
 unfold exW
 split
 ·rw [it16 (by omega), List.length_cons]
  have ok := dg_ok (N := n.natAbs) (by omega) (by omega)
  simp only [dgOk, Bool.and_eq_true, decide_eq_true_eq] at ok
  omega
 ·simp
theorem abv_len3 {a nm : Str} {n : Int} (h : -16 ≤ n ∧ n ≤ 16) : (abv a nm n).length ≤ a.length + nm.length + 4 := by
 have := itm_len3 (nm := nm) h
 unfold abv
 split
 ·split
  ·omega
  ·rw [List.length_append, List.length_cons]; omega
 ·omega
theorem blw_len3 {a nm : Str} {n : Int} (h : -16 ≤ n ∧ n ≤ 16) : (blw a nm n).length ≤ a.length + nm.length + 4 := by
 have := itm_len3 (nm := nm) h
 unfold blw
 split
 ·rw [List.length_append, List.length_cons]; omega
 ·omega
theorem prU_100 {u : MUnit} (hu : vU u = true) : (prU u).length ≤ 100 := by
 obtain ⟨a1, a2, a3⟩ := vU_iff.1 hu
 have l0 : nm0.length = 1 := rfl
 have l1 : nm1.length = 2 := rfl
 have l2 : nm2.length = 1 := rfl
 have b1 := abv_len3 (a := []) (nm := nm0) a1
 have b2 := abv_len3 (a := abv [] nm0 u.M) (nm := nm1) a2
 have b3 := abv_len3 (a := abv (abv [] nm0 u.M) nm1 u.Kg) (nm := nm2) a3
 have c1 := blw_len3 (a := []) (nm := nm0) a1
 have c2 := blw_len3 (a := blw [] nm0 u.M) (nm := nm1) a2
 have c3 := blw_len3 (a := blw (blw [] nm0 u.M) nm1 u.Kg) (nm := nm2) a3
 have z : ([] : Str).length = 0 := rfl
 unfold prU abvU blwU
 rw [if_pos hu, List.length_append]
 split
 ·rw [List.length_singleton]; omega
 ·omega
theorem print_back {u : MUnit} (hu : vU u = true) : PR (prU u) q1 1 (⟨oneF, u⟩, 0) := by
 obtain ⟨M, K, S⟩ := u
 obtain ⟨a1, a2, a3⟩ := vU_iff.1 hu
 dsimp only at a1 a2 a3
 have V : ∀ {m k s : Int}, (-16 ≤ m ∧ m ≤ 16) → (-16 ≤ k ∧ k ≤ 16) → (-16 ≤ s ∧ s ≤ 16) → vU ⟨m, k, s⟩ = true := fun h1 h2 h3 => vU_iff.2 ⟨h1, h2, h3⟩
 have z : (-16 : Int) ≤ 0 ∧ (0 : Int) ≤ 16 := by decide
 have mx : ∀ {n : Int}, (-16 ≤ n ∧ n ≤ 16) → -16 ≤ max n 0 ∧ max n 0 ≤ 16 := fun h => by omega
 have hbl : blwU ⟨M, K, S⟩ = bt nm0 M ++ (bt nm1 K ++ (bt nm2 S ++ [])) := by unfold blwU; rw [blw_bt, blw_bt, blw_bt]; simp
 have T3 : Tl (blwU ⟨M, K, S⟩) ⟨max M 0, max K 0, max S 0⟩ ⟨M, K, S⟩ := by
  rw [hbl]
  refine tl_b (V := ⟨M, max K 0, max S 0⟩) N0 a1 (V (mx a1) (mx a2) (mx a3)) (V a1 (mx a2) (mx a3)) (fun h => ?_) (fun h => ?_) ?_
  ·simp [cmU, x0]; omega
  ·rw [show max M 0 = M by omega]
  refine tl_b (V := ⟨M, K, max S 0⟩) N1 a2 (V a1 (mx a2) (mx a3)) (V a1 a2 (mx a3)) (fun h => ?_) (fun h => ?_) ?_
  ·simp [cmU, x1]; omega
  ·rw [show max K 0 = K by omega]
  refine tl_b (V := ⟨M, K, S⟩) N2 a3 (V a1 a2 (mx a3)) (V a1 a2 a3) (fun h => ?_) (fun h => ?_) (.inl ⟨rfl, rfl⟩)
  ·simp [cmU, x2]; omega
  ·rw [show max S 0 = S by omega]
 unfold prU q1
 rw [hu, if_pos rfl]
 generalize blwU ⟨M, K, S⟩ = B at T3 ⊢
 have T4 : Tl (ct nm2 S ++ B) ⟨max M 0, max K 0, 0⟩ ⟨M, K, S⟩ := by
  refine tl_c (V := ⟨max M 0, max K 0, max S 0⟩) N2 a3 (V (mx a1) (mx a2) z) (V (mx a1) (mx a2) (mx a3)) (fun h => ?_) (fun h => ?_) T3
  ·simp [cmU, x2]; omega
  ·rw [show max S 0 = 0 by omega]
 have T5 : Tl (ct nm1 K ++ (ct nm2 S ++ B)) ⟨max M 0, 0, 0⟩ ⟨M, K, S⟩ := by
  refine tl_c (V := ⟨max M 0, max K 0, 0⟩) N1 a2 (V (mx a1) z z) (V (mx a1) (mx a2) z) (fun h => ?_) (fun h => ?_) T4
  ·simp [cmU, x1]; omega
  ·rw [show max K 0 = 0 by omega]
 unfold abvU
 dsimp only
 have n0 : nm0 ≠ [] := by decide
 have n1 : nm1 ≠ [] := by decide
 have n2 : nm2 ≠ [] := by decide
 by_cases hM : 0 < M
 ·have e := itm_ne (nm := nm0) (n := M) n0
  rw [abv_1 hM, abv_ct e, abv_ct (by simp [e]), if_neg (by simp [e]), List.append_assoc, List.append_assoc]
  refine item (V := ⟨max M 0, 0, 0⟩) N0 (by omega) a1 vU_z (.inl rfl) (V (mx a1) z z) ?_ T5
  simp [cmU, x0, zU]; omega
 rw [abv_no (above := []) hM]
 rw [show max M 0 = 0 by omega] at T3 T4
 by_cases hK : 0 < K
 ·have e := itm_ne (nm := nm1) (n := K) n1
  rw [abv_1 hK, abv_ct e, if_neg (by simp [e]), List.append_assoc]
  refine item (V := ⟨0, max K 0, 0⟩) N1 (by omega) a2 vU_z (.inl rfl) (V z (mx a2) z) ?_ T4
  simp [cmU, x1, zU]; omega
 rw [abv_no (above := []) hK]
 rw [show max K 0 = 0 by omega] at T3
 by_cases hS : 0 < S
 ·have e := itm_ne (nm := nm2) (n := S) n2
  rw [abv_1 hS, if_neg e]
  refine item (V := ⟨0, 0, max S 0⟩) N2 (by omega) a3 vU_z (.inl rfl) (V z z (mx a3)) ?_ T3
  simp [cmU, x2, zU]; omega
 rw [abv_no (above := []) hS, if_pos rfl]
 rw [show max S 0 = 0 by omega] at T3
 exact step (fac_1 T3.stops vU_z (.inl rfl)) T3
end Go.Proofs.YtcbbilehdaaffaaGreatDoor

namespace Go.Proofs.YtcbbilehdaaffaaGreatDoor
open Go Go.Sk
set_option maxRecDepth 100000
theorem sanity_y : skewbacklaw11_sanity_S FF = some true := by
 unfold skewbacklaw11_sanity_S unit_Write_S q_Text_S w_Text_S unit_Print_S
 simp only [itoa_S_K]
 decide +kernel
end Go.Proofs.YtcbbilehdaaffaaGreatDoor

namespace Go.Proofs.YtcbbilehdaaffaaGreatDoor
open Go Go.Sk
set_option linter.unusedSimpArgs false
set_option linter.unusedVariables false
theorem print_px {u : MUnit} (hu : vU u = true) {r : Quantity × Int} (h : PX (prU u) r) : r = (⟨oneF, u⟩, 0) := by
 have hl := prU_100 hu
 unfold PX at h
 rw [if_neg (by omega)] at h
 exact PR.one h (print_back hu)
theorem write_back {a : Quantity} (ha : inQ a) (h : rt a = true) : unit_Read_S FF (wrQ a) = some (a, 0) := by
 obtain ⟨⟨r, hr⟩, hu⟩ := rt_iff.1 h
 by_cases h1 : a.U = zU
 ·rw [wrQ_1 h h1, Read_1 ha (by rw [hr]; rfl), ← h1]
 ·rw [wrQ_2 h h1]
  have hl := prU_100 hu
  refine Yld.eq (Yld.mono (Read_2 (s := prU a.U) ha (by rw [hr]; rfl) (by omega)) ?_)
  rintro o ⟨r', hp, rfl⟩
  rw [print_px hu hp, rdQ_ok rfl]
  dsimp only
  rw [doQ_z (by rw [hr]; rfl) (by rw [one_q]; rfl) hu, mulF_1 ha hr]
  unfold quF
  rw [hr]; rfl
theorem printsBack_y {a : Quantity} (ha : inQ a) : skewbacklaw11_UnitPrintsBack_S FF a = some true := by
 refine Yld.eq ?_
 unfold skewbacklaw11_UnitPrintsBack_S
 refine Yld.bindE (rRight_q ha) ?_
 cases h : rt a
 ·exact Yld.g0 rfl (Yld.g0 rfl (Yld.ift rfl (Yld.bindE sanity_y (Yld.some rfl))))
 obtain ⟨⟨r, hr⟩, hu⟩ := rt_iff.1 h
 refine Yld.g1 rfl (Yld.bind (P := fun _ => True) ⟨_, rBits_y FF2 ha.1, trivial⟩ ?_)
 intro k1 _
 cases h1 : decide (400 < k1)
 ·refine Yld.g1 rfl (Yld.bind (P := fun _ => True) ⟨_, rBits_y FF2 ha.2, trivial⟩ ?_)
  intro k2 _
  cases h2 : decide (400 < k2)
  ·refine Yld.iff rfl (Yld.bindE (Print_u a.U) (Yld.bind (Parse_p (s := prU a.U)) ?_))
   intro q hq
   rw [print_px hu hq]
   refine Yld.bindE (Write_q ha) (Yld.bindE (write_back ha h) (Yld.bindE sanity_y (Yld.g1 rfl (Yld.bindE Of_1 (Yld.some ?_)))))
   rw [show (mk ((1 : Int) : Rat)) = oneF from rfl]
   simp
  ·exact Yld.ift rfl (Yld.bindE sanity_y (Yld.some rfl))
 ·exact Yld.g0 rfl (Yld.ift rfl (Yld.bindE sanity_y (Yld.some rfl)))
end Go.Proofs.YtcbbilehdaaffaaGreatDoor

namespace Go.Proofs.YtcbbilehdaaffaaGreatDoor
open Go Go.Sk
end Go.Proofs.YtcbbilehdaaffaaGreatDoor

namespace Go.Sk
open Go
theorem int_mem_rel {h : PH} {cs : List CP} {L : List Value} {k : IntKind} {z : Int} (hr : cellsRel h cs L) (hm : CP.int k z ∈ cs) : inR k z := by
 obtain ⟨i, hi, he⟩ := List.getElem_of_mem hm
 obtain ⟨u, _, hu⟩ := All2.get hr i (.int k z) (by rw [List.getElem?_eq_getElem hi, he])
 exact hu.2
end Go.Sk
namespace Go.Proofs.YtcbbilehdaaffaaGreatDoor
open Go Go.Sk
theorem inD_of {w : A16} (H : ∀ z ∈ w.l, inR .u32 z) : inD 4294967296 w.l := fun i => by
 by_cases hi : i < w.l.length
 ·have h1 := H w.l[i] (List.getElem_mem hi)
  have e : dg w.l i = w.l[i] := by simp [dg, List.getD, List.getElem?_eq_getElem hi]
  rw [e]
  have h2 : 0 ≤ w.l[i] ∧ w.l[i] ≤ 4294967295 := by simpa [inR, IntKind.min, IntKind.max, IntKind.signed, IntKind.bits] using h1
  omega
 ·rw [dg_ge (by omega)]; decide
theorem inF_ints {x : Frc} (H : ∀ z, CP.int .u32 z ∈ eFrc x → inR .u32 z) : inF x := by
 refine ⟨inD_of fun z hz => H z ?_, inD_of fun z hz => H z ?_⟩
 ·unfold eFrc eBig
  exact List.mem_append_left _ (List.mem_cons_of_mem _ (List.mem_cons_of_mem _ (List.mem_map_of_mem hz)))
 ·unfold eFrc eBig
  exact List.mem_append_right _ (List.mem_cons_of_mem _ (List.mem_cons_of_mem _ (List.mem_map_of_mem hz)))
end Go.Proofs.YtcbbilehdaaffaaGreatDoor

namespace Go.Proofs.YtcbbilehdaaffaaGreatDoor
open Go Go.Sk
theorem inQ_of {x : Quantity} {h : PH} {v : Value} (hx : (BV.agg (eQuantity x)).rel h (fun _ => .bool false) v) : inQ x := by
 obtain ⟨cs, _, hr⟩ := hx
 refine inF_ints fun z hz => int_mem_rel hr ?_
 unfold eQuantity
 exact List.mem_append_left _ hz
end Go.Proofs.YtcbbilehdaaffaaGreatDoor

namespace Go.Proofs.YtcbbilehdaaffaaGreatDoor
open Go Go.Sk
theorem printsBack_law {mx : Int} (a : Quantity) (ha : inQ a) : Meets Tryz.prog (tabs mx) 4 [] [.agg (eQuantity a)] (Is [] (.b (.one (.bool true)))) :=
 skewbacklaw11_UnitPrintsBack_spec (printsBack_y ha)
end Go.Proofs.YtcbbilehdaaffaaGreatDoor

