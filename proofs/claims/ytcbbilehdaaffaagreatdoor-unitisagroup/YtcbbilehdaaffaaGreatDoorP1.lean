/- the plain law -/
import Derived.Test.YtcbbilehdaaffaaGreatDoorW4
namespace Go.Sk
set_option linter.unusedSimpArgs false
set_option linter.unusedVariables false
def MM : Int := 4294967296 ^ 16
theorem MM_eq : MM = 13407807929942597099574024998205846127479365820592393377723561443721764030073546976801874298166903427690031858186486050853753882811946569946433649006084096 := by decide +kernel
theorem MM_pos : 0 < MM := by rw [MM_eq]; decide
def av (w : A16) : Int := ds 4294967296 (dg w.l) 16
def toA (z : Int) : A16 := .of ((List.range 16).map fun i => nd 4294967296 z i)
end Go.Sk
namespace Go.Proofs.YtcbbilehdaaffaaGreatDoor
open Go Go.Sk
set_option linter.unusedSimpArgs false
set_option linter.unusedVariables false
end Go.Proofs.YtcbbilehdaaffaaGreatDoor

namespace Go.Sk
set_option linter.unusedSimpArgs false
set_option linter.unusedVariables false
def bad : Big := ⟨true, false, A16.zero⟩
def big (z : Int) : Big := if -MM < z ∧ z < MM then ⟨false, decide (z < 0), toA (if z < 0 then -z else z)⟩ else bad
def toB : Option Int → Big
 | some z => big z
 | none => bad
def goodB (x : Big) : Bool := !x.Bad && (!decide (x.W = A16.zero) || !x.Neg)
def sv (x : Big) : Int := if x.Neg = true then -av x.W else av x.W
def iv (x : Big) : Option Int := if goodB x = true then some (sv x) else none
end Go.Sk
namespace Go.Proofs.YtcbbilehdaaffaaGreatDoor
open Go Go.Sk
set_option linter.unusedSimpArgs false
set_option linter.unusedVariables false
def two (f : Int → Int → Option Int) (x y : Big) : Big := match iv x, iv y with
 | some a, some b => toB (f a b)
 | _, _ => bad
def one (f : Int → Option Int) (x : Big) : Big := match iv x with
 | some a => toB (f a)
 | none => bad
end Go.Proofs.YtcbbilehdaaffaaGreatDoor

namespace Go.Sk
set_option linter.unusedSimpArgs false
set_option linter.unusedVariables false
def cmpZ (a b : Int) : Int := if a < b then -1 else if b < a then 1 else 0
def absZ (z : Int) : Int := if z < 0 then -z else z
end Go.Sk
namespace Go.Proofs.YtcbbilehdaaffaaGreatDoor
open Go Go.Sk
set_option linter.unusedSimpArgs false
set_option linter.unusedVariables false
end Go.Proofs.YtcbbilehdaaffaaGreatDoor

namespace Go.Sk
set_option linter.unusedSimpArgs false
set_option linter.unusedVariables false
end Go.Sk
namespace Go.Proofs.YtcbbilehdaaffaaGreatDoor
open Go Go.Sk
set_option linter.unusedSimpArgs false
set_option linter.unusedVariables false
end Go.Proofs.YtcbbilehdaaffaaGreatDoor

namespace Go.Proofs.YtcbbilehdaaffaaGreatDoor
open Go Go.Sk
set_option linter.unusedSimpArgs false
set_option linter.unusedVariables false
end Go.Proofs.YtcbbilehdaaffaaGreatDoor

namespace Go.Sk
set_option linter.unusedSimpArgs false
set_option linter.unusedVariables false
end Go.Sk
namespace Go.Proofs.YtcbbilehdaaffaaGreatDoor
open Go Go.Sk
set_option linter.unusedSimpArgs false
set_option linter.unusedVariables false
end Go.Proofs.YtcbbilehdaaffaaGreatDoor

namespace Go.Sk
set_option linter.unusedSimpArgs false
set_option linter.unusedVariables false
end Go.Sk
namespace Go.Proofs.YtcbbilehdaaffaaGreatDoor
open Go Go.Sk
set_option linter.unusedSimpArgs false
set_option linter.unusedVariables false
end Go.Proofs.YtcbbilehdaaffaaGreatDoor

namespace Go.Sk
set_option linter.unusedSimpArgs false
set_option linter.unusedVariables false
end Go.Sk
namespace Go.Proofs.YtcbbilehdaaffaaGreatDoor
open Go Go.Sk
set_option linter.unusedSimpArgs false
set_option linter.unusedVariables false
end Go.Proofs.YtcbbilehdaaffaaGreatDoor

namespace Go.Sk
set_option linter.unusedSimpArgs false
set_option linter.unusedVariables false
end Go.Sk
namespace Go.Proofs.YtcbbilehdaaffaaGreatDoor
open Go Go.Sk
set_option linter.unusedSimpArgs false
set_option linter.unusedVariables false
end Go.Proofs.YtcbbilehdaaffaaGreatDoor

namespace Go.Proofs.YtcbbilehdaaffaaGreatDoor
open Go Go.Sk
set_option linter.unusedSimpArgs false
set_option linter.unusedVariables false
end Go.Proofs.YtcbbilehdaaffaaGreatDoor

namespace Go.Sk
set_option linter.unusedSimpArgs false
set_option linter.unusedVariables false
end Go.Sk
namespace Go.Proofs.YtcbbilehdaaffaaGreatDoor
open Go Go.Sk
set_option linter.unusedSimpArgs false
set_option linter.unusedVariables false
end Go.Proofs.YtcbbilehdaaffaaGreatDoor

namespace Go.Sk
set_option linter.unusedSimpArgs false
set_option linter.unusedVariables false
end Go.Sk
namespace Go.Proofs.YtcbbilehdaaffaaGreatDoor
open Go Go.Sk
set_option linter.unusedSimpArgs false
set_option linter.unusedVariables false
end Go.Proofs.YtcbbilehdaaffaaGreatDoor

namespace Go.Sk
set_option linter.unusedSimpArgs false
set_option linter.unusedVariables false
end Go.Sk
namespace Go.Proofs.YtcbbilehdaaffaaGreatDoor
open Go Go.Sk
set_option linter.unusedSimpArgs false
set_option linter.unusedVariables false
end Go.Proofs.YtcbbilehdaaffaaGreatDoor

namespace Go.Sk
set_option linter.unusedSimpArgs false
set_option linter.unusedVariables false
def fr (a b : Int) : Int :=
 let r := absZ a % absZ b
 let r' := if (decide (a < 0) != decide (b < 0)) && !decide (r = 0) then absZ b - r else r
 if b < 0 then -r' else r'
set_option linter.unusedVariables false
end Go.Sk

namespace Go.Sk
set_option linter.unusedSimpArgs false
set_option linter.unusedVariables false
end Go.Sk
namespace Go.Proofs.YtcbbilehdaaffaaGreatDoor
open Go Go.Sk
set_option linter.unusedSimpArgs false
set_option linter.unusedVariables false
end Go.Proofs.YtcbbilehdaaffaaGreatDoor

namespace Go.Sk
end Go.Sk
namespace Go.Proofs.YtcbbilehdaaffaaGreatDoor
open Go Go.Sk
set_option linter.unusedSimpArgs false
set_option linter.unusedVariables false
end Go.Proofs.YtcbbilehdaaffaaGreatDoor

namespace Go.Sk
set_option linter.unusedSimpArgs false
set_option linter.unusedVariables false
end Go.Sk
namespace Go.Proofs.YtcbbilehdaaffaaGreatDoor
open Go Go.Sk
set_option linter.unusedSimpArgs false
set_option linter.unusedVariables false
end Go.Proofs.YtcbbilehdaaffaaGreatDoor

namespace Go.Sk
set_option linter.unusedSimpArgs false
set_option linter.unusedVariables false
structure Kn (B P v1 v2 V u2 u0 R t : Int) : Prop where
 P0 : 0 < P
 v10 : 2147483648 ≤ v1
 v11 : v1 < B
 v20 : 0 ≤ v2 ∧ v2 < B
 V0 : (v1 * B + v2) * P ≤ V
 V1 : V < (v1 * B + v2 + 1) * P
 u00 : 0 ≤ u0 ∧ u0 < B
 R0 : (u2 * B + u0) * P ≤ R
 R1 : R < (u2 * B + u0 + 1) * P
 Rt : t * V ≤ R
 tR : R < (t + 1) * V
 t0 : 0 ≤ t
 t1 : t < B
theorem Kn.fin {B P v1 v2 V u2 u0 R t d : Int} (k : Kn B P v1 v2 V u2 u0 R t) (hd0 : 0 ≤ d) (h : d * (v1 * B + v2) ≤ u2 * B + u0) (hd : d < B) : d ≤ t + 1 := by
 rcases (by omega : d ≤ t + 1 ∨ t + 1 ≤ d - 1) with g | g
 ·exact g
 ·have hB : 0 < B := by omega
  have hP := k.P0
  have hv1 := k.v10
  have h5 : B * P ≤ (v1 * B + v2) * P := Int.mul_le_mul_of_nonneg_right (by have h := Int.mul_le_mul_of_nonneg_right (show 1 ≤ v1 by omega) (Int.le_of_lt hB); have := k.v20; omega) (Int.le_of_lt hP)
  have hV0 := k.V0
  have hBP := Int.mul_pos hB hP
  have h1 : (t + 1) * V ≤ (d - 1) * V := Int.mul_le_mul_of_nonneg_right g (by omega)
  have h2 : d * V ≤ d * ((v1 * B + v2 + 1) * P) := Int.mul_le_mul_of_nonneg_left (Int.le_of_lt k.V1) hd0
  have h3 : d * (v1 * B + v2) * P ≤ (u2 * B + u0) * P := Int.mul_le_mul_of_nonneg_right h (Int.le_of_lt hP)
  have e : d * ((v1 * B + v2 + 1) * P) = d * (v1 * B + v2) * P + d * P := by grind
  have h4 : d * P < B * P := Int.mul_lt_mul_of_pos_right hd hP
  have e2 : (d - 1) * V = d * V - V := by grind
  have := k.R0
  have := k.tR
  omega
end Go.Sk
namespace Go.Proofs.YtcbbilehdaaffaaGreatDoor
open Go Go.Sk
set_option linter.unusedSimpArgs false
set_option linter.unusedVariables false
end Go.Proofs.YtcbbilehdaaffaaGreatDoor

namespace Go.Sk
set_option linter.unusedSimpArgs false
set_option linter.unusedVariables false
def a17 (w : A16) (x : Int) : A17 := ⟨w.a0, w.a1, w.a2, w.a3, w.a4, w.a5, w.a6, w.a7, w.a8, w.a9, w.a10, w.a11, w.a12, w.a13, w.a14, w.a15, x⟩
def a16 (u : A17) : A16 := ⟨u.a0, u.a1, u.a2, u.a3, u.a4, u.a5, u.a6, u.a7, u.a8, u.a9, u.a10, u.a11, u.a12, u.a13, u.a14, u.a15⟩
end Go.Sk
namespace Go.Proofs.YtcbbilehdaaffaaGreatDoor
open Go Go.Sk
set_option linter.unusedSimpArgs false
set_option linter.unusedVariables false
end Go.Proofs.YtcbbilehdaaffaaGreatDoor

namespace Go.Proofs.YtcbbilehdaaffaaGreatDoor
open Go Go.Sk
set_option linter.unusedSimpArgs false
set_option linter.unusedVariables false
end Go.Proofs.YtcbbilehdaaffaaGreatDoor

namespace Go.Sk
set_option linter.unusedSimpArgs false
set_option linter.unusedVariables false
end Go.Sk
namespace Go.Proofs.YtcbbilehdaaffaaGreatDoor
open Go Go.Sk
set_option linter.unusedSimpArgs false
set_option linter.unusedVariables false
end Go.Proofs.YtcbbilehdaaffaaGreatDoor

namespace Go.Sk
def decK : Nat → Nat → Str
 | 0, _ => []
 | f + 1, u => if u < 10 then [UInt8.ofNat (48 + u)] else decK f (u / 10) ++ [UInt8.ofNat (48 + u % 10)]
theorem decK_eq : ∀ (f u : Nat), u < f → decK f u = Lib.decDigits u
 | 0, u, h => absurd h (Nat.not_lt_zero u)
 | f + 1, u, h => by
  rw [Lib.decDigits]
  unfold decK
  split
  ·rfl
  ·rw [decK_eq f (u / 10) (by omega)]
def itoaK (n : Int) : Str := if n < 0 then 45 :: decK (n.natAbs + 1) n.natAbs else decK (n.toNat + 1) n.toNat
theorem itoaK_eq (n : Int) : Lib.itoa n = itoaK n := by
 unfold itoaK Lib.itoa
 rw [decK_eq _ _ (Nat.lt_succ_self _), decK_eq _ _ (Nat.lt_succ_self _)]
def itoaK? (n : Int) : Option Str := if (itoaK n).length ≤ 1000000000 then some (itoaK n) else none
theorem itoaK?_eq : itoa? = itoaK? := by
 funext n
 unfold itoa? itoaK?
 rw [itoaK_eq]
end Go.Sk
namespace Go.Proofs.YtcbbilehdaaffaaGreatDoor
open Go Go.Sk
set_option maxRecDepth 100000
def FF : Nat := 13407807929942597099574024998205846127479365820592393377723561443721764030073546976801874298166903427690031858186486050853753882811946569946433649006084097
theorem FF1 : 100 < FF := by decide +kernel
theorem itoa_S_K : strconv_Itoa_S = fun _ n => itoaK? n := by
 funext F n
 unfold strconv_Itoa_S
 rw [itoaK?_eq]
end Go.Proofs.YtcbbilehdaaffaaGreatDoor

namespace Go.Proofs.YtcbbilehdaaffaaGreatDoor
open Go Go.Sk
set_option linter.unusedSimpArgs false
set_option linter.unusedVariables false
abbrev InM (a : Int) : Prop := -MM < a ∧ a < MM
end Go.Proofs.YtcbbilehdaaffaaGreatDoor

namespace Go.Proofs.YtcbbilehdaaffaaGreatDoor
open Go Go.Sk
set_option linter.unusedSimpArgs false
set_option linter.unusedVariables false
end Go.Proofs.YtcbbilehdaaffaaGreatDoor

namespace Go.Sk
set_option linter.unusedSimpArgs false
set_option linter.unusedVariables false
end Go.Sk

namespace Go.Sk
set_option linter.unusedSimpArgs false
set_option linter.unusedVariables false
def cross (p q r s : Int) : Int := cmpZ (p * s) (r * q)
theorem cross_rest {p q r s : Int} (h : p / q = r / s) : cross p q r s = cmpZ (p % q * s) (r % s * q) := by
 have e1 := Int.mul_ediv_add_emod p q
 have e2 := Int.mul_ediv_add_emod r s
 rw [← h] at e2
 generalize p / q = k at *
 generalize p % q = a at *
 generalize r % s = b at *
 have e3 : p * s = a * s + k * q * s := by rw [← e1]; grind
 have e4 : r * q = b * q + k * q * s := by rw [← e2]; grind
 unfold cross cmpZ
 rw [e3, e4]
 have h1 : (a * s + k * q * s < b * q + k * q * s) = (a * s < b * q) := propext (by omega)
 have h2 : (b * q + k * q * s < a * s + k * q * s) = (b * q < a * s) := propext (by omega)
 simp only [h1, h2]
theorem cross_next {p q r s : Int} (h : p / q = r / s) : cross p q r s = -cross q (p % q) s (r % s) := by
 rw [cross_rest h]
 unfold cross
 rw [Int.mul_comm (p % q), Int.mul_comm (r % s)]
 generalize s * (p % q) = u
 generalize q * (r % s) = v
 unfold cmpZ
 split <;> split <;> (try split) <;> omega
end Go.Sk

namespace Go.Proofs.YtcbbilehdaaffaaGreatDoor
open Go Go.Sk
set_option linter.unusedSimpArgs false
set_option linter.unusedVariables false
def bf : Frc := ⟨bad, big 1⟩
def mk (r : Rat) : Frc := ⟨big r.num, big r.den⟩
def qF (x : Frc) : Option Rat := match iv x.N, iv x.D with
 | some n, some d => if 0 < d ∧ Nat.gcd n.natAbs d.natAbs = 1 then some (Rat.divInt n d) else none
 | _, _ => none
end Go.Proofs.YtcbbilehdaaffaaGreatDoor

namespace Go.Proofs.YtcbbilehdaaffaaGreatDoor
open Go Go.Sk
set_option linter.unusedSimpArgs false
set_option linter.unusedVariables false
end Go.Proofs.YtcbbilehdaaffaaGreatDoor

namespace Go.Proofs.YtcbbilehdaaffaaGreatDoor
open Go Go.Sk
set_option linter.unusedSimpArgs false
set_option linter.unusedVariables false
end Go.Proofs.YtcbbilehdaaffaaGreatDoor

namespace Go.Proofs.YtcbbilehdaaffaaGreatDoor
open Go Go.Sk
set_option linter.unusedSimpArgs false
set_option linter.unusedVariables false
structure CmpI (c : Int) (p q r s o : Int) : Prop where
 ip : InM p
 iq : InM q
 ir : InM r
 is : InM s
 q0 : 0 < q
 s0 : 0 < s
 o1 : o = 1 ∨ o = -1
 val : o * cross p q r s = c
theorem CmpI.next {c p q r s o : Int} (h : CmpI c p q r s o) (he : p / q = r / s) (h1 : p % q ≠ 0) (h2 : r % s ≠ 0) : CmpI c q (p % q) s (r % s) (-o) := by
 have a0 := Int.emod_nonneg p (show q ≠ 0 by have := h.q0; omega)
 have a1 := Int.emod_lt_of_pos p h.q0
 have b0 := Int.emod_nonneg r (show s ≠ 0 by have := h.s0; omega)
 have b1 := Int.emod_lt_of_pos r h.s0
 have := h.iq.2
 have := h.is.2
 have := MM_pos
 refine ⟨h.iq, ⟨by omega, by omega⟩, h.is, ⟨by omega, by omega⟩, by omega, by omega, by have := h.o1; omega, ?_⟩
 rw [← h.val, cross_next he, Int.neg_mul, Int.mul_neg]
end Go.Proofs.YtcbbilehdaaffaaGreatDoor

namespace Go.Proofs.YtcbbilehdaaffaaGreatDoor
open Go Go.Sk
set_option linter.unusedSimpArgs false
set_option linter.unusedVariables false
theorem F4 : ∃ k, FF = k + 4 := ⟨FF - 4, by have := FF1; omega⟩
def sm (n : Int) : Bool := decide (-16 ≤ n) && decide (n ≤ 16)
def vU (u : MUnit) : Bool := sm u.M && sm u.Kg && sm u.S
theorem sm_iff {n : Int} : sm n = true ↔ -16 ≤ n ∧ n ≤ 16 := by simp [sm]
theorem vU_iff {u : MUnit} : vU u = true ↔ (-16 ≤ u.M ∧ u.M ≤ 16) ∧ (-16 ≤ u.Kg ∧ u.Kg ≤ 16) ∧ (-16 ≤ u.S ∧ u.S ≤ 16) := by simp [vU, sm_iff, and_assoc]
theorem Valid_u (u : MUnit) : unit_Valid_S FF u = some (vU u) := by
 obtain ⟨k, hk⟩ := F4
 rw [hk]
 unfold unit_Valid_S unit_exponents_S unit_small_S
 have w1 : IntKind.i64.wrap (0 + 1) = 1 := by decide
 have w2 : IntKind.i64.wrap (1 + 1) = 2 := by decide
 have w3 : IntKind.i64.wrap (2 + 1) = 3 := by decide
 have i0 : idx? (⟨u.M, u.Kg, u.S⟩ : A3).l 0 = some u.M := rfl
 have i1 : idx? (⟨u.M, u.Kg, u.S⟩ : A3).l 1 = some u.Kg := rfl
 have i2 : idx? (⟨u.M, u.Kg, u.S⟩ : A3).l 2 = some u.S := rfl
 simp only [Option.bind_some, iter_succ, show ((0 : Int) < 3) = True from by simp, show ((1 : Int) < 3) = True from by simp, show ((2 : Int) < 3) = True from by simp, show ((3 : Int) < 3) = False from by simp, decide_true, decide_false, if_true, Bool.false_eq_true, if_false, i0]
 unfold vU
 cases h1 : sm u.M
 ·simp only [sm] at h1; simp [h1, alt2]
 ·simp only [sm] at h1
  simp only [h1, Bool.not_true, Bool.false_eq_true, if_false, Option.bind_some, alt2, w1, iter_succ, show ((1 : Int) < 3) = True from by simp, decide_true, if_true, i1]
  cases h2 : sm u.Kg
  ·simp only [sm] at h2; simp [h2, alt2]
  ·simp only [sm] at h2
   simp only [h2, Bool.not_true, Bool.false_eq_true, if_false, Option.bind_some, alt2, w2, iter_succ, show ((2 : Int) < 3) = True from by simp, decide_true, if_true, i2]
   cases h3 : sm u.S
   ·simp only [sm] at h3; simp [h3, alt2]
   ·simp only [sm] at h3
    simp only [h3, Bool.not_true, Bool.false_eq_true, if_false, Option.bind_some, alt2, w3, iter_succ, show ((3 : Int) < 3) = False from by simp, decide_false, Bool.true_and]
theorem prod_rng {n v : Int} (hn : -16 ≤ n ∧ n ≤ 16) (hv : -16 ≤ v ∧ v ≤ 16) : -256 ≤ n * v ∧ n * v ≤ 256 := by
 have h : (n * v).natAbs ≤ 16 * 16 := by rw [Int.natAbs_mul]; exact Nat.mul_le_mul (by omega) (by omega)
 omega
def zU : MUnit := ⟨0, 0, 0⟩
def cmU (u v : MUnit) (n : Int) : MUnit := ⟨u.M + n * v.M, u.Kg + n * v.Kg, u.S + n * v.S⟩
def cmb (u v : MUnit) (n : Int) : MUnit × Int := if (vU u && vU v && sm n) = true then (if vU (cmU u v n) = true then (cmU u v n, 0) else (zU, 2)) else (zU, 1)
theorem vU_z : vU zU = true := by decide
theorem cmb_ok {u v : MUnit} {n : Int} (h1 : vU u = true) (h2 : vU v = true) (h3 : sm n = true) : cmb u v n = if vU (cmU u v n) = true then (cmU u v n, 0) else (zU, 2) := by unfold cmb; rw [h1, h2, h3]; rfl
theorem cmb_bad1 {u v : MUnit} {n : Int} (h1 : vU u = false) : cmb u v n = (zU, 1) := by unfold cmb; rw [h1]; rfl
theorem cmb_bad2 {u v : MUnit} {n : Int} (h1 : vU v = false) : cmb u v n = (zU, 1) := by unfold cmb; rw [h1]; cases vU u <;> rfl
theorem cmb_bad3 {u v : MUnit} {n : Int} (h1 : sm n = false) : cmb u v n = (zU, 1) := by unfold cmb; rw [h1]; cases vU u <;> cases vU v <;> rfl
theorem cmb_wrap {u v n : Int} (hu : -16 ≤ u ∧ u ≤ 16) (hn : -16 ≤ n ∧ n ≤ 16) (hv : -16 ≤ v ∧ v ≤ 16) : IntKind.i64.wrap (u + IntKind.i64.wrap (n * v)) = u + n * v := by
 have := prod_rng hn hv
 rw [wi64' (z := n * v) (by omega) (by omega), wi64' (by omega) (by omega)]
theorem combine_u (u v : MUnit) (n : Int) : unit_combine_S FF u v n = some (cmb u v n) := by
 refine Yld.eq ?_
 unfold unit_combine_S
 refine Yld.bindE (Valid_u u) ?_
 cases h1 : vU u
 ·rw [cmb_bad1 h1]; exact Yld.g0 rfl (Yld.g0 rfl (Yld.ift rfl (Yld.some rfl)))
 refine Yld.g1 rfl (Yld.bindE (Valid_u v) ?_)
 cases h2 : vU v
 ·rw [cmb_bad2 h2]; exact Yld.g0 rfl (Yld.ift rfl (Yld.some rfl))
 refine Yld.g1 rfl (Yld.bindE (show unit_small_S FF n = some (sm n) from rfl) ?_)
 cases h3 : sm n
 ·rw [cmb_bad3 h3]; exact Yld.ift rfl (Yld.some rfl)
 obtain ⟨a1, a2, a3⟩ := vU_iff.1 h1
 obtain ⟨b1, b2, b3⟩ := vU_iff.1 h2
 have c := sm_iff.1 h3
 rw [cmb_ok h1 h2 h3]
 refine Yld.iff rfl (Yld.lnE _ (cmb_wrap a1 c b1) (Yld.lnE _ (cmb_wrap a2 c b2) (Yld.lnE _ (cmb_wrap a3 c b3) (Yld.bindE (Valid_u (cmU u v n)) ?_))))
 cases h4 : vU (cmU u v n)
 ·exact Yld.ift rfl (Yld.some rfl)
 ·exact Yld.iff rfl (Yld.some rfl)
theorem Mul_u (u v : MUnit) : unit_Mul_S FF u v = some (cmb u v 1) := by unfold unit_Mul_S; rw [combine_u]; rfl
theorem Div_u (u v : MUnit) : unit_Div_S FF u v = some (cmb u v (-1)) := by unfold unit_Div_S; rw [combine_u]; rfl
theorem Pow_u (u : MUnit) (n : Int) : unit_Pow_S FF u n = some (cmb zU u n) := by unfold unit_Pow_S; rw [show (⟨0, 0, 0⟩ : MUnit) = zU from rfl, combine_u]; rfl
end Go.Proofs.YtcbbilehdaaffaaGreatDoor

namespace Go.Proofs.YtcbbilehdaaffaaGreatDoor
open Go Go.Sk
set_option linter.unusedSimpArgs false
set_option linter.unusedVariables false
end Go.Proofs.YtcbbilehdaaffaaGreatDoor

namespace Go.Sk
set_option linter.unusedSimpArgs false
set_option linter.unusedVariables false
open Go
def fd : Nat → Nat → Str
 | 0, _ => []
 | k + 1, r => fd k (r / 10) ++ [UInt8.ofNat (48 + r % 10)]
def dv (l : Str) : Nat := l.foldl (fun acc c => 10 * acc + (c.toNat - 48)) 0
def isDig (c : UInt8) : Prop := 48 ≤ c.toNat ∧ c.toNat ≤ 57
end Go.Sk

namespace Go.Sk
set_option linter.unusedSimpArgs false
set_option linter.unusedVariables false
open Go
end Go.Sk
namespace Go.Proofs.YtcbbilehdaaffaaGreatDoor
open Go Go.Sk
set_option linter.unusedSimpArgs false
set_option linter.unusedVariables false
end Go.Proofs.YtcbbilehdaaffaaGreatDoor

namespace Go.Sk
set_option linter.unusedSimpArgs false
set_option linter.unusedVariables false
end Go.Sk
namespace Go.Proofs.YtcbbilehdaaffaaGreatDoor
open Go Go.Sk
set_option linter.unusedSimpArgs false
set_option linter.unusedVariables false
end Go.Proofs.YtcbbilehdaaffaaGreatDoor

namespace Go.Sk
set_option linter.unusedSimpArgs false
set_option linter.unusedVariables false
open Go
def sgnS (s : Str) : Bool := decide (s.head? = some 45)
def digS (s : Str) : Str := if sgnS s = true then s.drop 1 else s
def illS (s : Str) : Prop := digS s = [] ∨ (digS s).head? = some 48 ∧ s ≠ [48]
inductive RdS (s : Str) : Big × Int → Prop where
 | ill (h : illS s) : RdS s (bad, 281)
 | char (h : ¬ illS s) (c : UInt8) (hc : c ∈ digS s) (hn : ¬ isDig c) : RdS s (bad, 281)
 | long (h : ¬ illS s) (hd : ∀ c ∈ digS s, isDig c) (hv : MM ≤ dv (digS s)) : RdS s (bad, 30)
 | num (h : ¬ illS s) (hd : ∀ c ∈ digS s, isDig c) (hv : (dv (digS s) : Int) < MM) : RdS s (big (if sgnS s = true then -(dv (digS s) : Int) else dv (digS s)), 0)
theorem RdS.one {s : Str} {p q : Big × Int} (hp : RdS s p) (hq : RdS s q) : p = q := by
 cases hp with
 | ill h =>
  cases hq with
  | ill _ => rfl
  | char h2 _ _ _ => exact absurd h h2
  | long h2 _ _ => exact absurd h h2
  | num h2 _ _ => exact absurd h h2
 | char h c hc hn =>
  cases hq with
  | ill h2 => exact absurd h2 h
  | char _ _ _ _ => rfl
  | long _ hd _ => exact absurd (hd c hc) hn
  | num _ hd _ => exact absurd (hd c hc) hn
 | long h hd hv =>
  cases hq with
  | ill h2 => exact absurd h2 h
  | char _ c hc hn => exact absurd (hd c hc) hn
  | long _ _ _ => rfl
  | num _ _ hv2 => omega
 | num h hd hv =>
  cases hq with
  | ill h2 => exact absurd h2 h
  | char _ c hc hn => exact absurd (hd c hc) hn
  | long _ _ hv2 => omega
  | num _ _ _ => rfl
end Go.Sk
namespace Go.Proofs.YtcbbilehdaaffaaGreatDoor
open Go Go.Sk
set_option linter.unusedSimpArgs false
set_option linter.unusedVariables false
end Go.Proofs.YtcbbilehdaaffaaGreatDoor

namespace Go.Sk
open Go
end Go.Sk
namespace Go.Proofs.YtcbbilehdaaffaaGreatDoor
open Go Go.Sk
set_option linter.unusedSimpArgs false
set_option linter.unusedVariables false
end Go.Proofs.YtcbbilehdaaffaaGreatDoor

namespace Go.Sk
set_option linter.unusedSimpArgs false
set_option linter.unusedVariables false
open Go
end Go.Sk

namespace Go.Sk
open Go
set_option linter.unusedSimpArgs false
set_option linter.unusedVariables false
def sl : Str → Nat
 | [] => 0
 | c :: r => if c = 47 then 0 else sl r + 1
end Go.Sk
namespace Go.Proofs.YtcbbilehdaaffaaGreatDoor
open Go Go.Sk
set_option linter.unusedSimpArgs false
set_option linter.unusedVariables false
def rdF (p : Big) (e : Int) (q : Big) (f : Int) (two : Bool) (b : Str) : Frc × Int :=
 if e = 281 ∨ f = 281 ∨ two = true ∧ (b = [48] ∨ b = [49] ∨ b.head? = some 45) then (bf, 281)
 else if e ≠ 0 ∨ f ≠ 0 then (bf, 30)
 else if (qF ⟨p, q⟩).isSome = true then (⟨p, q⟩, 0) else (bf, 281)
def RdF (s : Str) (r : Frc × Int) : Prop := ∃ p e q f, RdS (s.take (sl s)) (p, e) ∧ (if sl s < s.length then RdS (s.drop (sl s + 1)) (q, f) else q = big 1 ∧ f = 0) ∧ r = rdF p e q f (decide (sl s < s.length)) (s.drop (sl s + 1))
theorem RdF.one {s : Str} {r t : Frc × Int} (h1 : RdF s r) (h2 : RdF s t) : r = t := by
 obtain ⟨p, e, q, f, a1, a2, rfl⟩ := h1
 obtain ⟨p', e', q', f', b1, b2, rfl⟩ := h2
 have c1 := RdS.one a1 b1
 cases c1
 by_cases h : sl s < s.length
 ·rw [if_pos h] at a2 b2
  have c2 := RdS.one a2 b2
  cases c2
  rfl
 ·rw [if_neg h] at a2 b2
  rw [a2.1, a2.2, b2.1, b2.2]
end Go.Proofs.YtcbbilehdaaffaaGreatDoor

namespace Go.Proofs.YtcbbilehdaaffaaGreatDoor
open Go Go.Sk
set_option linter.unusedSimpArgs false
set_option linter.unusedVariables false
theorem cmb_sm {u v : MUnit} {n : Int} (h : (cmb u v n).2 = 0) : -16 ≤ n ∧ n ≤ 16 := by
 cases h3 : sm n
 ·rw [cmb_bad3 h3] at h; simp at h
 ·exact sm_iff.1 h3
end Go.Proofs.YtcbbilehdaaffaaGreatDoor

namespace Go.Proofs.YtcbbilehdaaffaaGreatDoor
open Go Go.Sk
set_option linter.unusedSimpArgs false
set_option linter.unusedVariables false
end Go.Proofs.YtcbbilehdaaffaaGreatDoor

namespace Go.Proofs.YtcbbilehdaaffaaGreatDoor
open Go Go.Sk
set_option maxRecDepth 100000
theorem sanity_y : skewbacklaw11_sanity_S FF = some true := by
 unfold skewbacklaw11_sanity_S unit_Write_S q_Text_S w_Text_S unit_Print_S
 simp only [itoa_S_K]
 decide +kernel
end Go.Proofs.YtcbbilehdaaffaaGreatDoor

namespace Go.Proofs.YtcbbilehdaaffaaGreatDoor
open Go Go.Sk
set_option linter.unusedSimpArgs false
set_option linter.unusedVariables false
theorem neq2 {α β : Type} [DecidableEq α] [DecidableEq β] {a : α} {b : β} : (decide (a ≠ a) || decide (b ≠ b)) = false := by simp
theorem group_y {u v w : MUnit} {n m : Int} : skewbacklaw11_UnitIsAGroup_S FF u v w n m = some true := by
 refine Yld.eq ?_
 unfold skewbacklaw11_UnitIsAGroup_S
 refine Yld.bindE (Valid_u u) ?_
 cases h1 : vU u
 ·exact Yld.g0 rfl (Yld.g0 rfl (Yld.ift rfl (Yld.bindE sanity_y (Yld.some rfl))))
 refine Yld.g1 rfl (Yld.bindE (Valid_u v) ?_)
 cases h2 : vU v
 ·exact Yld.g0 rfl (Yld.ift rfl (Yld.bindE sanity_y (Yld.some rfl)))
 refine Yld.g1 rfl (Yld.bindE (Valid_u w) ?_)
 cases h3 : vU w
 ·exact Yld.ift rfl (Yld.bindE sanity_y (Yld.some rfl))
 have hc : cmb v u 1 = cmb u v 1 := by
  rw [cmb_ok h2 h1 (by decide), cmb_ok h1 h2 (by decide)]
  have : cmU v u 1 = cmU u v 1 := by simp only [cmU, MUnit.mk.injEq]; omega
  rw [this]
 refine Yld.iff rfl (Yld.bindE (Mul_u u v) (Yld.bindE (Mul_u v u) ?_))
 rw [hc]
 refine Yld.iff neq2 (Yld.bind (P := fun o => o = .inl ()) ?_ ?_)
 ·refine Yld.ite (fun h => ?_) (fun _ => Yld.some rfl)
  have e1 := cmb_ok h1 h2 (n := 1) (by decide)
  cases h4 : vU (cmU u v 1)
  ·rw [h4] at e1; rw [e1] at h; simp at h
  rw [h4, if_pos rfl] at e1
  rw [e1]
  have e2 : cmb (cmU u v 1) v (-1) = (u, 0) := by
   rw [cmb_ok h4 h2 (by decide)]
   have : cmU (cmU u v 1) v (-1) = u := by simp only [cmU]; cases u; simp only [MUnit.mk.injEq]; omega
   rw [this, if_pos h1]
  refine Yld.bindE (Div_u _ _) ?_
  rw [e2]
  refine Yld.iff neq2 (Yld.bindE (Mul_u v w) (Yld.bindE (Mul_u _ w) (Yld.bindE (Mul_u u _) (Yld.lnE false ?_ (Yld.iff rfl (Yld.some rfl))))))
  have e3 := cmb_ok h2 h3 (n := 1) (by decide)
  cases h5 : vU (cmU v w 1)
  ·rw [h5] at e3; rw [e3]; rfl
  rw [h5, if_pos rfl] at e3
  rw [e3]
  have e4 : cmb (cmU u v 1) w 1 = cmb u (cmU v w 1) 1 := by
   rw [cmb_ok h4 h3 (by decide), cmb_ok h1 h5 (by decide)]
   have : cmU (cmU u v 1) w 1 = cmU u (cmU v w 1) 1 := by simp only [cmU, MUnit.mk.injEq]; omega
   rw [this]
  rw [e4]
  simp
 ·rintro _ rfl
  refine Yld.bindE (Pow_u u n) (Yld.bindE (Pow_u u m) ?_)
  refine Yld.ite (fun _ => Yld.bindE sanity_y (Yld.some rfl)) (fun h => ?_)
  have h6 : (cmb zU u n).2 = 0 ∧ (cmb zU u m).2 = 0 := by simpa using h
  have hn := cmb_sm h6.1
  have hm := cmb_sm h6.2
  have f1 := cmb_ok vU_z h1 (sm_iff.2 hn)
  have f2 := cmb_ok vU_z h1 (sm_iff.2 hm)
  cases h7 : vU (cmU zU u n)
  ·rw [h7] at f1; rw [f1] at h6; simp at h6
  cases h8 : vU (cmU zU u m)
  ·rw [h8] at f2; rw [f2] at h6; simp at h6
  rw [h7, if_pos rfl] at f1
  rw [h8, if_pos rfl] at f2
  rw [f1, f2]
  refine Yld.bindE (Mul_u _ _) (Yld.bindE (Pow_u u _) (Yld.bindE sanity_y (Yld.lnE true ?_ (Yld.some rfl))))
  rw [wi64' (by omega) (by omega)]
  cases h9 : sm (n + m)
  ·rw [cmb_bad3 h9]; simp
  ·have e5 : cmb (cmU zU u n) (cmU zU u m) 1 = cmb zU u (n + m) := by
    rw [cmb_ok h7 h8 (by decide), cmb_ok vU_z h1 h9]
    have : cmU (cmU zU u n) (cmU zU u m) 1 = cmU zU u (n + m) := by simp only [cmU, zU, MUnit.mk.injEq, Int.add_mul]; omega
    rw [this]
   rw [e5]
   rw [cmb_ok vU_z h1 h9]
   split <;> simp
end Go.Proofs.YtcbbilehdaaffaaGreatDoor

namespace Go.Proofs.YtcbbilehdaaffaaGreatDoor
open Go Go.Sk
end Go.Proofs.YtcbbilehdaaffaaGreatDoor

namespace Go.Sk
open Go
end Go.Sk
namespace Go.Proofs.YtcbbilehdaaffaaGreatDoor
open Go Go.Sk
end Go.Proofs.YtcbbilehdaaffaaGreatDoor

namespace Go.Proofs.YtcbbilehdaaffaaGreatDoor
open Go Go.Sk
end Go.Proofs.YtcbbilehdaaffaaGreatDoor

namespace Go.Proofs.YtcbbilehdaaffaaGreatDoor
open Go Go.Sk
theorem group_law {mx : Int} (u : MUnit) (v : MUnit) (w : MUnit) (n : Int) (m : Int)  : Meets Tryz.prog (tabs mx) 7 [] [.agg (eMUnit u), .agg (eMUnit v), .agg (eMUnit w), .one (.i n), .one (.i m)] (Is [] (.b (.one (.bool true)))) :=
 skewbacklaw11_UnitIsAGroup_spec (group_y )
end Go.Proofs.YtcbbilehdaaffaaGreatDoor

