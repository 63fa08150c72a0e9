/- the plain law -/
import Derived.Test.YtcbbilehdaaffaaGreatDoorW4
namespace Go.Sk
set_option linter.unusedSimpArgs false
set_option linter.unusedVariables false
def MM : Int := 4294967296 ^ 16
theorem MM_eq : MM = 13407807929942597099574024998205846127479365820592393377723561443721764030073546976801874298166903427690031858186486050853753882811946569946433649006084096 := by decide +kernel
theorem MM_pos : 0 < MM := by rw [MM_eq]; decide
def av (w : A16) : Int := ds 4294967296 (dg w.l) 16
def toA (z : Int) : A16 := .of ((List.range 16).map fun i => nd 4294967296 z i)
end Go.Sk
namespace Go.Proofs.YtcbbilehdaaffaaGreatDoor
open Go Go.Sk
set_option linter.unusedSimpArgs false
set_option linter.unusedVariables false
end Go.Proofs.YtcbbilehdaaffaaGreatDoor

namespace Go.Sk
set_option linter.unusedSimpArgs false
set_option linter.unusedVariables false
def bad : Big := ⟨true, false, A16.zero⟩
def big (z : Int) : Big := if -MM < z ∧ z < MM then ⟨false, decide (z < 0), toA (if z < 0 then -z else z)⟩ else bad
def toB : Option Int → Big
 | some z => big z
 | none => bad
def goodB (x : Big) : Bool := !x.Bad && (!decide (x.W = A16.zero) || !x.Neg)
def sv (x : Big) : Int := if x.Neg = true then -av x.W else av x.W
def iv (x : Big) : Option Int := if goodB x = true then some (sv x) else none
end Go.Sk
namespace Go.Proofs.YtcbbilehdaaffaaGreatDoor
open Go Go.Sk
set_option linter.unusedSimpArgs false
set_option linter.unusedVariables false
def two (f : Int → Int → Option Int) (x y : Big) : Big := match iv x, iv y with
 | some a, some b => toB (f a b)
 | _, _ => bad
def one (f : Int → Option Int) (x : Big) : Big := match iv x with
 | some a => toB (f a)
 | none => bad
end Go.Proofs.YtcbbilehdaaffaaGreatDoor

namespace Go.Sk
set_option linter.unusedSimpArgs false
set_option linter.unusedVariables false
def cmpZ (a b : Int) : Int := if a < b then -1 else if b < a then 1 else 0
def absZ (z : Int) : Int := if z < 0 then -z else z
end Go.Sk
namespace Go.Proofs.YtcbbilehdaaffaaGreatDoor
open Go Go.Sk
set_option linter.unusedSimpArgs false
set_option linter.unusedVariables false
end Go.Proofs.YtcbbilehdaaffaaGreatDoor

namespace Go.Sk
set_option linter.unusedSimpArgs false
set_option linter.unusedVariables false
end Go.Sk
namespace Go.Proofs.YtcbbilehdaaffaaGreatDoor
open Go Go.Sk
set_option linter.unusedSimpArgs false
set_option linter.unusedVariables false
end Go.Proofs.YtcbbilehdaaffaaGreatDoor

namespace Go.Proofs.YtcbbilehdaaffaaGreatDoor
open Go Go.Sk
set_option linter.unusedSimpArgs false
set_option linter.unusedVariables false
end Go.Proofs.YtcbbilehdaaffaaGreatDoor

namespace Go.Sk
set_option linter.unusedSimpArgs false
set_option linter.unusedVariables false
end Go.Sk
namespace Go.Proofs.YtcbbilehdaaffaaGreatDoor
open Go Go.Sk
set_option linter.unusedSimpArgs false
set_option linter.unusedVariables false
end Go.Proofs.YtcbbilehdaaffaaGreatDoor

namespace Go.Sk
set_option linter.unusedSimpArgs false
set_option linter.unusedVariables false
end Go.Sk
namespace Go.Proofs.YtcbbilehdaaffaaGreatDoor
open Go Go.Sk
set_option linter.unusedSimpArgs false
set_option linter.unusedVariables false
end Go.Proofs.YtcbbilehdaaffaaGreatDoor

namespace Go.Sk
set_option linter.unusedSimpArgs false
set_option linter.unusedVariables false
end Go.Sk
namespace Go.Proofs.YtcbbilehdaaffaaGreatDoor
open Go Go.Sk
set_option linter.unusedSimpArgs false
set_option linter.unusedVariables false
end Go.Proofs.YtcbbilehdaaffaaGreatDoor

namespace Go.Sk
set_option linter.unusedSimpArgs false
set_option linter.unusedVariables false
end Go.Sk
namespace Go.Proofs.YtcbbilehdaaffaaGreatDoor
open Go Go.Sk
set_option linter.unusedSimpArgs false
set_option linter.unusedVariables false
end Go.Proofs.YtcbbilehdaaffaaGreatDoor

namespace Go.Proofs.YtcbbilehdaaffaaGreatDoor
open Go Go.Sk
set_option linter.unusedSimpArgs false
set_option linter.unusedVariables false
end Go.Proofs.YtcbbilehdaaffaaGreatDoor

namespace Go.Sk
set_option linter.unusedSimpArgs false
set_option linter.unusedVariables false
end Go.Sk
namespace Go.Proofs.YtcbbilehdaaffaaGreatDoor
open Go Go.Sk
set_option linter.unusedSimpArgs false
set_option linter.unusedVariables false
end Go.Proofs.YtcbbilehdaaffaaGreatDoor

namespace Go.Sk
set_option linter.unusedSimpArgs false
set_option linter.unusedVariables false
end Go.Sk
namespace Go.Proofs.YtcbbilehdaaffaaGreatDoor
open Go Go.Sk
set_option linter.unusedSimpArgs false
set_option linter.unusedVariables false
end Go.Proofs.YtcbbilehdaaffaaGreatDoor

namespace Go.Sk
set_option linter.unusedSimpArgs false
set_option linter.unusedVariables false
end Go.Sk
namespace Go.Proofs.YtcbbilehdaaffaaGreatDoor
open Go Go.Sk
set_option linter.unusedSimpArgs false
set_option linter.unusedVariables false
end Go.Proofs.YtcbbilehdaaffaaGreatDoor

namespace Go.Sk
set_option linter.unusedSimpArgs false
set_option linter.unusedVariables false
def fr (a b : Int) : Int :=
 let r := absZ a % absZ b
 let r' := if (decide (a < 0) != decide (b < 0)) && !decide (r = 0) then absZ b - r else r
 if b < 0 then -r' else r'
set_option linter.unusedVariables false
end Go.Sk

namespace Go.Sk
set_option linter.unusedSimpArgs false
set_option linter.unusedVariables false
end Go.Sk
namespace Go.Proofs.YtcbbilehdaaffaaGreatDoor
open Go Go.Sk
set_option linter.unusedSimpArgs false
set_option linter.unusedVariables false
end Go.Proofs.YtcbbilehdaaffaaGreatDoor

namespace Go.Sk
end Go.Sk
namespace Go.Proofs.YtcbbilehdaaffaaGreatDoor
open Go Go.Sk
set_option linter.unusedSimpArgs false
set_option linter.unusedVariables false
end Go.Proofs.YtcbbilehdaaffaaGreatDoor

namespace Go.Sk
set_option linter.unusedSimpArgs false
set_option linter.unusedVariables false
end Go.Sk
namespace Go.Proofs.YtcbbilehdaaffaaGreatDoor
open Go Go.Sk
set_option linter.unusedSimpArgs false
set_option linter.unusedVariables false
end Go.Proofs.YtcbbilehdaaffaaGreatDoor

namespace Go.Sk
set_option linter.unusedSimpArgs false
set_option linter.unusedVariables false
structure Kn (B P v1 v2 V u2 u0 R t : Int) : Prop where
 P0 : 0 < P
 v10 : 2147483648 ≤ v1
 v11 : v1 < B
 v20 : 0 ≤ v2 ∧ v2 < B
 V0 : (v1 * B + v2) * P ≤ V
 V1 : V < (v1 * B + v2 + 1) * P
 u00 : 0 ≤ u0 ∧ u0 < B
 R0 : (u2 * B + u0) * P ≤ R
 R1 : R < (u2 * B + u0 + 1) * P
 Rt : t * V ≤ R
 tR : R < (t + 1) * V
 t0 : 0 ≤ t
 t1 : t < B
theorem Kn.fin {B P v1 v2 V u2 u0 R t d : Int} (k : Kn B P v1 v2 V u2 u0 R t) (hd0 : 0 ≤ d) (h : d * (v1 * B + v2) ≤ u2 * B + u0) (hd : d < B) : d ≤ t + 1 := by
 rcases (by omega : d ≤ t + 1 ∨ t + 1 ≤ d - 1) with g | g
 ·exact g
 ·have hB : 0 < B := by omega
  have hP := k.P0
  have hv1 := k.v10
  have h5 : B * P ≤ (v1 * B + v2) * P := Int.mul_le_mul_of_nonneg_right (by have h := Int.mul_le_mul_of_nonneg_right (show 1 ≤ v1 by omega) (Int.le_of_lt hB); have := k.v20; omega) (Int.le_of_lt hP)
  have hV0 := k.V0
  have hBP := Int.mul_pos hB hP
  have h1 : (t + 1) * V ≤ (d - 1) * V := Int.mul_le_mul_of_nonneg_right g (by omega)
  have h2 : d * V ≤ d * ((v1 * B + v2 + 1) * P) := Int.mul_le_mul_of_nonneg_left (Int.le_of_lt k.V1) hd0
  have h3 : d * (v1 * B + v2) * P ≤ (u2 * B + u0) * P := Int.mul_le_mul_of_nonneg_right h (Int.le_of_lt hP)
  have e : d * ((v1 * B + v2 + 1) * P) = d * (v1 * B + v2) * P + d * P := by grind
  have h4 : d * P < B * P := Int.mul_lt_mul_of_pos_right hd hP
  have e2 : (d - 1) * V = d * V - V := by grind
  have := k.R0
  have := k.tR
  omega
end Go.Sk
namespace Go.Proofs.YtcbbilehdaaffaaGreatDoor
open Go Go.Sk
set_option linter.unusedSimpArgs false
set_option linter.unusedVariables false
end Go.Proofs.YtcbbilehdaaffaaGreatDoor

namespace Go.Sk
set_option linter.unusedSimpArgs false
set_option linter.unusedVariables false
def a17 (w : A16) (x : Int) : A17 := ⟨w.a0, w.a1, w.a2, w.a3, w.a4, w.a5, w.a6, w.a7, w.a8, w.a9, w.a10, w.a11, w.a12, w.a13, w.a14, w.a15, x⟩
def a16 (u : A17) : A16 := ⟨u.a0, u.a1, u.a2, u.a3, u.a4, u.a5, u.a6, u.a7, u.a8, u.a9, u.a10, u.a11, u.a12, u.a13, u.a14, u.a15⟩
end Go.Sk
namespace Go.Proofs.YtcbbilehdaaffaaGreatDoor
open Go Go.Sk
set_option linter.unusedSimpArgs false
set_option linter.unusedVariables false
end Go.Proofs.YtcbbilehdaaffaaGreatDoor

namespace Go.Proofs.YtcbbilehdaaffaaGreatDoor
open Go Go.Sk
set_option linter.unusedSimpArgs false
set_option linter.unusedVariables false
end Go.Proofs.YtcbbilehdaaffaaGreatDoor

namespace Go.Sk
set_option linter.unusedSimpArgs false
set_option linter.unusedVariables false
end Go.Sk
namespace Go.Proofs.YtcbbilehdaaffaaGreatDoor
open Go Go.Sk
set_option linter.unusedSimpArgs false
set_option linter.unusedVariables false
end Go.Proofs.YtcbbilehdaaffaaGreatDoor

namespace Go.Sk
def decK : Nat → Nat → Str
 | 0, _ => []
 | f + 1, u => if u < 10 then [UInt8.ofNat (48 + u)] else decK f (u / 10) ++ [UInt8.ofNat (48 + u % 10)]
theorem decK_eq : ∀ (f u : Nat), u < f → decK f u = Lib.decDigits u
 | 0, u, h => absurd h (Nat.not_lt_zero u)
 | f + 1, u, h => by
  rw [Lib.decDigits]
  unfold decK
  split
  ·rfl
  ·rw [decK_eq f (u / 10) (by omega)]
def itoaK (n : Int) : Str := if n < 0 then 45 :: decK (n.natAbs + 1) n.natAbs else decK (n.toNat + 1) n.toNat
theorem itoaK_eq (n : Int) : Lib.itoa n = itoaK n := by
 unfold itoaK Lib.itoa
 rw [decK_eq _ _ (Nat.lt_succ_self _), decK_eq _ _ (Nat.lt_succ_self _)]
def itoaK? (n : Int) : Option Str := if (itoaK n).length ≤ 1000000000 then some (itoaK n) else none
theorem itoaK?_eq : itoa? = itoaK? := by
 funext n
 unfold itoa? itoaK?
 rw [itoaK_eq]
end Go.Sk
namespace Go.Proofs.YtcbbilehdaaffaaGreatDoor
open Go Go.Sk
set_option maxRecDepth 100000
def FF : Nat := 13407807929942597099574024998205846127479365820592393377723561443721764030073546976801874298166903427690031858186486050853753882811946569946433649006084097
theorem FF1 : 100 < FF := by decide +kernel
theorem itoa_S_K : strconv_Itoa_S = fun _ n => itoaK? n := by
 funext F n
 unfold strconv_Itoa_S
 rw [itoaK?_eq]
end Go.Proofs.YtcbbilehdaaffaaGreatDoor

namespace Go.Proofs.YtcbbilehdaaffaaGreatDoor
open Go Go.Sk
set_option linter.unusedSimpArgs false
set_option linter.unusedVariables false
abbrev InM (a : Int) : Prop := -MM < a ∧ a < MM
end Go.Proofs.YtcbbilehdaaffaaGreatDoor

namespace Go.Proofs.YtcbbilehdaaffaaGreatDoor
open Go Go.Sk
set_option linter.unusedSimpArgs false
set_option linter.unusedVariables false
end Go.Proofs.YtcbbilehdaaffaaGreatDoor

namespace Go.Sk
set_option linter.unusedSimpArgs false
set_option linter.unusedVariables false
end Go.Sk

namespace Go.Sk
set_option linter.unusedSimpArgs false
set_option linter.unusedVariables false
def cross (p q r s : Int) : Int := cmpZ (p * s) (r * q)
theorem cross_rest {p q r s : Int} (h : p / q = r / s) : cross p q r s = cmpZ (p % q * s) (r % s * q) := by
 have e1 := Int.mul_ediv_add_emod p q
 have e2 := Int.mul_ediv_add_emod r s
 rw [← h] at e2
 generalize p / q = k at *
 generalize p % q = a at *
 generalize r % s = b at *
 have e3 : p * s = a * s + k * q * s := by rw [← e1]; grind
 have e4 : r * q = b * q + k * q * s := by rw [← e2]; grind
 unfold cross cmpZ
 rw [e3, e4]
 have h1 : (a * s + k * q * s < b * q + k * q * s) = (a * s < b * q) := propext (by omega)
 have h2 : (b * q + k * q * s < a * s + k * q * s) = (b * q < a * s) := propext (by omega)
 simp only [h1, h2]
theorem cross_next {p q r s : Int} (h : p / q = r / s) : cross p q r s = -cross q (p % q) s (r % s) := by
 rw [cross_rest h]
 unfold cross
 rw [Int.mul_comm (p % q), Int.mul_comm (r % s)]
 generalize s * (p % q) = u
 generalize q * (r % s) = v
 unfold cmpZ
 split <;> split <;> (try split) <;> omega
end Go.Sk

namespace Go.Proofs.YtcbbilehdaaffaaGreatDoor
open Go Go.Sk
set_option linter.unusedSimpArgs false
set_option linter.unusedVariables false
def bf : Frc := ⟨bad, big 1⟩
def mk (r : Rat) : Frc := ⟨big r.num, big r.den⟩
def qF (x : Frc) : Option Rat := match iv x.N, iv x.D with
 | some n, some d => if 0 < d ∧ Nat.gcd n.natAbs d.natAbs = 1 then some (Rat.divInt n d) else none
 | _, _ => none
end Go.Proofs.YtcbbilehdaaffaaGreatDoor

namespace Go.Proofs.YtcbbilehdaaffaaGreatDoor
open Go Go.Sk
set_option linter.unusedSimpArgs false
set_option linter.unusedVariables false
end Go.Proofs.YtcbbilehdaaffaaGreatDoor

namespace Go.Proofs.YtcbbilehdaaffaaGreatDoor
open Go Go.Sk
set_option linter.unusedSimpArgs false
set_option linter.unusedVariables false
end Go.Proofs.YtcbbilehdaaffaaGreatDoor

namespace Go.Proofs.YtcbbilehdaaffaaGreatDoor
open Go Go.Sk
set_option linter.unusedSimpArgs false
set_option linter.unusedVariables false
structure CmpI (c : Int) (p q r s o : Int) : Prop where
 ip : InM p
 iq : InM q
 ir : InM r
 is : InM s
 q0 : 0 < q
 s0 : 0 < s
 o1 : o = 1 ∨ o = -1
 val : o * cross p q r s = c
theorem CmpI.next {c p q r s o : Int} (h : CmpI c p q r s o) (he : p / q = r / s) (h1 : p % q ≠ 0) (h2 : r % s ≠ 0) : CmpI c q (p % q) s (r % s) (-o) := by
 have a0 := Int.emod_nonneg p (show q ≠ 0 by have := h.q0; omega)
 have a1 := Int.emod_lt_of_pos p h.q0
 have b0 := Int.emod_nonneg r (show s ≠ 0 by have := h.s0; omega)
 have b1 := Int.emod_lt_of_pos r h.s0
 have := h.iq.2
 have := h.is.2
 have := MM_pos
 refine ⟨h.iq, ⟨by omega, by omega⟩, h.is, ⟨by omega, by omega⟩, by omega, by omega, by have := h.o1; omega, ?_⟩
 rw [← h.val, cross_next he, Int.neg_mul, Int.mul_neg]
end Go.Proofs.YtcbbilehdaaffaaGreatDoor

namespace Go.Proofs.YtcbbilehdaaffaaGreatDoor
open Go Go.Sk
set_option linter.unusedSimpArgs false
set_option linter.unusedVariables false
theorem F4 : ∃ k, FF = k + 4 := ⟨FF - 4, by have := FF1; omega⟩
def sm (n : Int) : Bool := decide (-16 ≤ n) && decide (n ≤ 16)
def vU (u : MUnit) : Bool := sm u.M && sm u.Kg && sm u.S
theorem sm_iff {n : Int} : sm n = true ↔ -16 ≤ n ∧ n ≤ 16 := by simp [sm]
theorem vU_iff {u : MUnit} : vU u = true ↔ (-16 ≤ u.M ∧ u.M ≤ 16) ∧ (-16 ≤ u.Kg ∧ u.Kg ≤ 16) ∧ (-16 ≤ u.S ∧ u.S ≤ 16) := by simp [vU, sm_iff, and_assoc]
theorem Valid_u (u : MUnit) : unit_Valid_S FF u = some (vU u) := by
 obtain ⟨k, hk⟩ := F4
 rw [hk]
 unfold unit_Valid_S unit_exponents_S unit_small_S
 have w1 : IntKind.i64.wrap (0 + 1) = 1 := by decide
 have w2 : IntKind.i64.wrap (1 + 1) = 2 := by decide
 have w3 : IntKind.i64.wrap (2 + 1) = 3 := by decide
 have i0 : idx? (⟨u.M, u.Kg, u.S⟩ : A3).l 0 = some u.M := rfl
 have i1 : idx? (⟨u.M, u.Kg, u.S⟩ : A3).l 1 = some u.Kg := rfl
 have i2 : idx? (⟨u.M, u.Kg, u.S⟩ : A3).l 2 = some u.S := rfl
 simp only [Option.bind_some, iter_succ, show ((0 : Int) < 3) = True from by simp, show ((1 : Int) < 3) = True from by simp, show ((2 : Int) < 3) = True from by simp, show ((3 : Int) < 3) = False from by simp, decide_true, decide_false, if_true, Bool.false_eq_true, if_false, i0]
 unfold vU
 cases h1 : sm u.M
 ·simp only [sm] at h1; simp [h1, alt2]
 ·simp only [sm] at h1
  simp only [h1, Bool.not_true, Bool.false_eq_true, if_false, Option.bind_some, alt2, w1, iter_succ, show ((1 : Int) < 3) = True from by simp, decide_true, if_true, i1]
  cases h2 : sm u.Kg
  ·simp only [sm] at h2; simp [h2, alt2]
  ·simp only [sm] at h2
   simp only [h2, Bool.not_true, Bool.false_eq_true, if_false, Option.bind_some, alt2, w2, iter_succ, show ((2 : Int) < 3) = True from by simp, decide_true, if_true, i2]
   cases h3 : sm u.S
   ·simp only [sm] at h3; simp [h3, alt2]
   ·simp only [sm] at h3
    simp only [h3, Bool.not_true, Bool.false_eq_true, if_false, Option.bind_some, alt2, w3, iter_succ, show ((3 : Int) < 3) = False from by simp, decide_false, Bool.true_and]
theorem rsmall (n : Int) : skewbackref11_small_S FF n = some (sm n) := rfl
theorem rValid_u (u : MUnit) : skewbackref11_Valid_S FF u = some (vU u) := by
 unfold skewbackref11_Valid_S vU
 rw [rsmall, rsmall, rsmall]
 cases h1 : sm u.M <;> cases h2 : sm u.Kg <;> cases h3 : sm u.S <;> rfl
theorem prod_rng {n v : Int} (hn : -16 ≤ n ∧ n ≤ 16) (hv : -16 ≤ v ∧ v ≤ 16) : -256 ≤ n * v ∧ n * v ≤ 256 := by
 have h : (n * v).natAbs ≤ 16 * 16 := by rw [Int.natAbs_mul]; exact Nat.mul_le_mul (by omega) (by omega)
 omega
def zU : MUnit := ⟨0, 0, 0⟩
def cmU (u v : MUnit) (n : Int) : MUnit := ⟨u.M + n * v.M, u.Kg + n * v.Kg, u.S + n * v.S⟩
def cmb (u v : MUnit) (n : Int) : MUnit × Int := if (vU u && vU v && sm n) = true then (if vU (cmU u v n) = true then (cmU u v n, 0) else (zU, 2)) else (zU, 1)
theorem vU_z : vU zU = true := by decide
theorem cmb_ok {u v : MUnit} {n : Int} (h1 : vU u = true) (h2 : vU v = true) (h3 : sm n = true) : cmb u v n = if vU (cmU u v n) = true then (cmU u v n, 0) else (zU, 2) := by unfold cmb; rw [h1, h2, h3]; rfl
theorem cmb_bad1 {u v : MUnit} {n : Int} (h1 : vU u = false) : cmb u v n = (zU, 1) := by unfold cmb; rw [h1]; rfl
theorem cmb_bad2 {u v : MUnit} {n : Int} (h1 : vU v = false) : cmb u v n = (zU, 1) := by unfold cmb; rw [h1]; cases vU u <;> rfl
theorem cmb_bad3 {u v : MUnit} {n : Int} (h1 : sm n = false) : cmb u v n = (zU, 1) := by unfold cmb; rw [h1]; cases vU u <;> cases vU v <;> rfl
theorem cmb_wrap {u v n : Int} (hu : -16 ≤ u ∧ u ≤ 16) (hn : -16 ≤ n ∧ n ≤ 16) (hv : -16 ≤ v ∧ v ≤ 16) : IntKind.i64.wrap (u + IntKind.i64.wrap (n * v)) = u + n * v := by
 have := prod_rng hn hv
 rw [wi64' (z := n * v) (by omega) (by omega), wi64' (by omega) (by omega)]
theorem combine_u (u v : MUnit) (n : Int) : unit_combine_S FF u v n = some (cmb u v n) := by
 refine Yld.eq ?_
 unfold unit_combine_S
 refine Yld.bindE (Valid_u u) ?_
 cases h1 : vU u
 ·rw [cmb_bad1 h1]; exact Yld.g0 rfl (Yld.g0 rfl (Yld.ift rfl (Yld.some rfl)))
 refine Yld.g1 rfl (Yld.bindE (Valid_u v) ?_)
 cases h2 : vU v
 ·rw [cmb_bad2 h2]; exact Yld.g0 rfl (Yld.ift rfl (Yld.some rfl))
 refine Yld.g1 rfl (Yld.bindE (show unit_small_S FF n = some (sm n) from rfl) ?_)
 cases h3 : sm n
 ·rw [cmb_bad3 h3]; exact Yld.ift rfl (Yld.some rfl)
 obtain ⟨a1, a2, a3⟩ := vU_iff.1 h1
 obtain ⟨b1, b2, b3⟩ := vU_iff.1 h2
 have c := sm_iff.1 h3
 rw [cmb_ok h1 h2 h3]
 refine Yld.iff rfl (Yld.lnE _ (cmb_wrap a1 c b1) (Yld.lnE _ (cmb_wrap a2 c b2) (Yld.lnE _ (cmb_wrap a3 c b3) (Yld.bindE (Valid_u (cmU u v n)) ?_))))
 cases h4 : vU (cmU u v n)
 ·exact Yld.ift rfl (Yld.some rfl)
 ·exact Yld.iff rfl (Yld.some rfl)
theorem Mul_u (u v : MUnit) : unit_Mul_S FF u v = some (cmb u v 1) := by unfold unit_Mul_S; rw [combine_u]; rfl
theorem Div_u (u v : MUnit) : unit_Div_S FF u v = some (cmb u v (-1)) := by unfold unit_Div_S; rw [combine_u]; rfl
theorem Pow_u (u : MUnit) (n : Int) : unit_Pow_S FF u n = some (cmb zU u n) := by unfold unit_Pow_S; rw [show (⟨0, 0, 0⟩ : MUnit) = zU from rfl, combine_u]; rfl
def mdo (r : MUnit × Int) : Made := ⟨r.1, r.2⟩
theorem made_u {w : MUnit} : skewbackref11_made_S FF w = some (if vU w = true then ⟨w, 0⟩ else ⟨zU, 2⟩) := by
 unfold skewbackref11_made_S
 rw [rValid_u]
 cases h : vU w <;> rfl
theorem rMul_u (u v : MUnit) : skewbackref11_Mul_S FF u v = some (mdo (cmb u v 1)) := by
 refine Yld.eq ?_
 unfold skewbackref11_Mul_S
 refine Yld.bindE (rValid_u u) ?_
 cases h1 : vU u
 ·rw [cmb_bad1 h1]; exact Yld.g0 rfl (Yld.ift rfl (Yld.some rfl))
 refine Yld.g1 rfl (Yld.bindE (rValid_u v) ?_)
 cases h2 : vU v
 ·rw [cmb_bad2 h2]; exact Yld.ift rfl (Yld.some rfl)
 obtain ⟨a1, a2, a3⟩ := vU_iff.1 h1
 obtain ⟨b1, b2, b3⟩ := vU_iff.1 h2
 refine Yld.iff rfl (Yld.lnE (cmU u v 1) ?_ (Yld.bindE made_u (Yld.some ?_)))
 ·simp only [cmU, MUnit.mk.injEq]
  refine ⟨?_, ?_, ?_⟩ <;> rw [wi64' (by omega) (by omega)] <;> omega
 ·rw [cmb_ok h1 h2 (by decide)]
  split <;> rfl
theorem rDiv_u (u v : MUnit) : skewbackref11_Div_S FF u v = some (mdo (cmb u v (-1))) := by
 refine Yld.eq ?_
 unfold skewbackref11_Div_S
 refine Yld.bindE (rValid_u u) ?_
 cases h1 : vU u
 ·rw [cmb_bad1 h1]; exact Yld.g0 rfl (Yld.ift rfl (Yld.some rfl))
 refine Yld.g1 rfl (Yld.bindE (rValid_u v) ?_)
 cases h2 : vU v
 ·rw [cmb_bad2 h2]; exact Yld.ift rfl (Yld.some rfl)
 obtain ⟨a1, a2, a3⟩ := vU_iff.1 h1
 obtain ⟨b1, b2, b3⟩ := vU_iff.1 h2
 refine Yld.iff rfl (Yld.lnE (cmU u v (-1)) ?_ (Yld.bindE made_u (Yld.some ?_)))
 ·simp only [cmU, MUnit.mk.injEq]
  refine ⟨?_, ?_, ?_⟩ <;> rw [wi64' (by omega) (by omega)] <;> omega
 ·rw [cmb_ok h1 h2 (by decide)]
  split <;> rfl
theorem rPow_u (u : MUnit) (n : Int) : skewbackref11_Pow_S FF u n = some (mdo (cmb zU u n)) := by
 refine Yld.eq ?_
 unfold skewbackref11_Pow_S
 refine Yld.bindE (rValid_u u) ?_
 cases h1 : vU u
 ·rw [cmb_bad2 h1]; exact Yld.g0 rfl (Yld.ift rfl (Yld.some rfl))
 refine Yld.g1 rfl (Yld.bindE (rsmall n) ?_)
 cases h2 : sm n
 ·rw [cmb_bad3 h2]; exact Yld.ift rfl (Yld.some rfl)
 obtain ⟨a1, a2, a3⟩ := vU_iff.1 h1
 have c := sm_iff.1 h2
 have p1 := prod_rng c a1
 have p2 := prod_rng c a2
 have p3 := prod_rng c a3
 refine Yld.iff rfl (Yld.lnE (cmU zU u n) ?_ (Yld.bindE made_u (Yld.some ?_)))
 ·simp only [cmU, zU, MUnit.mk.injEq]
  refine ⟨?_, ?_, ?_⟩ <;> rw [wi64' (by omega) (by omega)] <;> omega
 ·rw [cmb_ok vU_z h1 h2]
  split <;> rfl
end Go.Proofs.YtcbbilehdaaffaaGreatDoor

namespace Go.Proofs.YtcbbilehdaaffaaGreatDoor
open Go Go.Sk
set_option linter.unusedSimpArgs false
set_option linter.unusedVariables false
theorem max_abs {n : Int} (h : -16 ≤ n ∧ n ≤ 16) : max n (IntKind.i64.wrap (-n)) = (n.natAbs : Int) := by
 rw [wi64' (by omega) (by omega)]; omega
end Go.Proofs.YtcbbilehdaaffaaGreatDoor

namespace Go.Sk
set_option linter.unusedSimpArgs false
set_option linter.unusedVariables false
open Go
theorem dd_small {u : Nat} (h : u < 10) : Lib.decDigits u = [UInt8.ofNat (48 + u)] := by rw [Lib.decDigits, dif_pos h]
theorem dd_big {u : Nat} (h : ¬ u < 10) : Lib.decDigits u = Lib.decDigits (u / 10) ++ [UInt8.ofNat (48 + u % 10)] := by rw [Lib.decDigits, dif_neg h]
def fd : Nat → Nat → Str
 | 0, _ => []
 | k + 1, r => fd k (r / 10) ++ [UInt8.ofNat (48 + r % 10)]
theorem dd_len_le : ∀ (k u : Nat), u < 10 ^ (k + 1) → (Lib.decDigits u).length ≤ k + 1
 | 0, u, h => by rw [dd_small (by simpa using h)]; exact Nat.le_refl _
 | k + 1, u, h => by
  by_cases h1 : u < 10
  ·rw [dd_small h1]; simp
  ·rw [Nat.pow_succ] at h
   rw [dd_big h1, List.length_append]
   have := dd_len_le k (u / 10) (by omega)
   simp
   omega
def dv (l : Str) : Nat := l.foldl (fun acc c => 10 * acc + (c.toNat - 48)) 0
def isDig (c : UInt8) : Prop := 48 ≤ c.toNat ∧ c.toNat ≤ 57
end Go.Sk

namespace Go.Sk
set_option linter.unusedSimpArgs false
set_option linter.unusedVariables false
open Go
theorem MM155 : MM < 10 ^ 155 := by rw [MM_eq]; decide +kernel
theorem dd_MM {a : Int} (h : a < MM) : (Lib.decDigits a.toNat).length ≤ 155 := by
 refine dd_len_le 154 _ ?_
 have h2 := MM155
 have h3 : a < 10 ^ 155 := by omega
 rcases (by omega : a ≤ 0 ∨ 0 < a) with g | g
 ·have : a.toNat = 0 := by omega
  rw [this]; exact Nat.pow_pos (by decide)
 ·have : (a.toNat : Int) < ((10 ^ 155 : Nat) : Int) := by
   have e : ((10 ^ 155 : Nat) : Int) = 10 ^ 155 := by rw [Int.natCast_pow]; rfl
   rw [e]; omega
  exact Int.ofNat_lt.1 this
theorem itoa_nn {a : Int} (h : 0 ≤ a) : Lib.itoa a = Lib.decDigits a.toNat := by unfold Lib.itoa; rw [if_neg (by omega)]
end Go.Sk
namespace Go.Proofs.YtcbbilehdaaffaaGreatDoor
open Go Go.Sk
set_option linter.unusedSimpArgs false
set_option linter.unusedVariables false
end Go.Proofs.YtcbbilehdaaffaaGreatDoor

namespace Go.Sk
set_option linter.unusedSimpArgs false
set_option linter.unusedVariables false
end Go.Sk
namespace Go.Proofs.YtcbbilehdaaffaaGreatDoor
open Go Go.Sk
set_option linter.unusedSimpArgs false
set_option linter.unusedVariables false
end Go.Proofs.YtcbbilehdaaffaaGreatDoor

namespace Go.Sk
set_option linter.unusedSimpArgs false
set_option linter.unusedVariables false
open Go
def sgnS (s : Str) : Bool := decide (s.head? = some 45)
def digS (s : Str) : Str := if sgnS s = true then s.drop 1 else s
def illS (s : Str) : Prop := digS s = [] ∨ (digS s).head? = some 48 ∧ s ≠ [48]
inductive RdS (s : Str) : Big × Int → Prop where
 | ill (h : illS s) : RdS s (bad, 281)
 | char (h : ¬ illS s) (c : UInt8) (hc : c ∈ digS s) (hn : ¬ isDig c) : RdS s (bad, 281)
 | long (h : ¬ illS s) (hd : ∀ c ∈ digS s, isDig c) (hv : MM ≤ dv (digS s)) : RdS s (bad, 30)
 | num (h : ¬ illS s) (hd : ∀ c ∈ digS s, isDig c) (hv : (dv (digS s) : Int) < MM) : RdS s (big (if sgnS s = true then -(dv (digS s) : Int) else dv (digS s)), 0)
theorem RdS.one {s : Str} {p q : Big × Int} (hp : RdS s p) (hq : RdS s q) : p = q := by
 cases hp with
 | ill h =>
  cases hq with
  | ill _ => rfl
  | char h2 _ _ _ => exact absurd h h2
  | long h2 _ _ => exact absurd h h2
  | num h2 _ _ => exact absurd h h2
 | char h c hc hn =>
  cases hq with
  | ill h2 => exact absurd h2 h
  | char _ _ _ _ => rfl
  | long _ hd _ => exact absurd (hd c hc) hn
  | num _ hd _ => exact absurd (hd c hc) hn
 | long h hd hv =>
  cases hq with
  | ill h2 => exact absurd h2 h
  | char _ c hc hn => exact absurd (hd c hc) hn
  | long _ _ _ => rfl
  | num _ _ hv2 => omega
 | num h hd hv =>
  cases hq with
  | ill h2 => exact absurd h2 h
  | char _ c hc hn => exact absurd (hd c hc) hn
  | long _ _ hv2 => omega
  | num _ _ _ => rfl
end Go.Sk
namespace Go.Proofs.YtcbbilehdaaffaaGreatDoor
open Go Go.Sk
set_option linter.unusedSimpArgs false
set_option linter.unusedVariables false
end Go.Proofs.YtcbbilehdaaffaaGreatDoor

namespace Go.Sk
open Go
end Go.Sk
namespace Go.Proofs.YtcbbilehdaaffaaGreatDoor
open Go Go.Sk
set_option linter.unusedSimpArgs false
set_option linter.unusedVariables false
end Go.Proofs.YtcbbilehdaaffaaGreatDoor

namespace Go.Sk
set_option linter.unusedSimpArgs false
set_option linter.unusedVariables false
open Go
theorem itoa_len {a : Int} (ra : -MM < a ∧ a < MM) : (Lib.itoa a).length ≤ 500 := by
 by_cases h : a < 0
 ·have h1 := dd_MM (a := -a) (by omega)
  have e : (-a).toNat = a.natAbs := by omega
  rw [e] at h1
  unfold Lib.itoa; rw [if_pos h, List.length_cons]; omega
 ·have h1 := dd_MM (a := a) ra.2
  rw [itoa_nn (by omega)]; omega
end Go.Sk

namespace Go.Sk
open Go
set_option linter.unusedSimpArgs false
set_option linter.unusedVariables false
def sl : Str → Nat
 | [] => 0
 | c :: r => if c = 47 then 0 else sl r + 1
end Go.Sk
namespace Go.Proofs.YtcbbilehdaaffaaGreatDoor
open Go Go.Sk
set_option linter.unusedSimpArgs false
set_option linter.unusedVariables false
def rdF (p : Big) (e : Int) (q : Big) (f : Int) (two : Bool) (b : Str) : Frc × Int :=
 if e = 281 ∨ f = 281 ∨ two = true ∧ (b = [48] ∨ b = [49] ∨ b.head? = some 45) then (bf, 281)
 else if e ≠ 0 ∨ f ≠ 0 then (bf, 30)
 else if (qF ⟨p, q⟩).isSome = true then (⟨p, q⟩, 0) else (bf, 281)
def RdF (s : Str) (r : Frc × Int) : Prop := ∃ p e q f, RdS (s.take (sl s)) (p, e) ∧ (if sl s < s.length then RdS (s.drop (sl s + 1)) (q, f) else q = big 1 ∧ f = 0) ∧ r = rdF p e q f (decide (sl s < s.length)) (s.drop (sl s + 1))
theorem RdF.one {s : Str} {r t : Frc × Int} (h1 : RdF s r) (h2 : RdF s t) : r = t := by
 obtain ⟨p, e, q, f, a1, a2, rfl⟩ := h1
 obtain ⟨p', e', q', f', b1, b2, rfl⟩ := h2
 have c1 := RdS.one a1 b1
 cases c1
 by_cases h : sl s < s.length
 ·rw [if_pos h] at a2 b2
  have c2 := RdS.one a2 b2
  cases c2
  rfl
 ·rw [if_neg h] at a2 b2
  rw [a2.1, a2.2, b2.1, b2.2]
end Go.Proofs.YtcbbilehdaaffaaGreatDoor

namespace Go.Proofs.YtcbbilehdaaffaaGreatDoor
open Go Go.Sk
set_option linter.unusedSimpArgs false
set_option linter.unusedVariables false
def itm (nm : Str) (n : Int) : Str := if 1 < n ∨ n < -1 then nm ++ 94 :: Lib.itoa (n.natAbs : Int) else nm
theorem itoa_len16 {n : Nat} (h : n ≤ 16) : (Lib.itoa (n : Int)).length ≤ 500 := itoa_len (by
 have : (16 : Int) < MM := by rw [MM_eq]; decide +kernel
 have := MM_pos
 omega)
theorem itm_len {nm : Str} {n : Int} (hn : -16 ≤ n ∧ n ≤ 16) : (itm nm n).length ≤ nm.length + 501 := by
 unfold itm
 split
 ·have := itoa_len16 (n := n.natAbs) (by omega)
  rw [List.length_append, List.length_cons]; omega
 ·omega
def abv (above nm : Str) (n : Int) : Str := if 0 < n then (if above = [] then itm nm n else above ++ 42 :: itm nm n) else above
def blw (below nm : Str) (n : Int) : Str := if n < 0 then below ++ 47 :: itm nm n else below
theorem abv_no {above nm : Str} {n : Int} (h : ¬ 0 < n) : abv above nm n = above := if_neg h
theorem abv_1 {nm : Str} {n : Int} (h : 0 < n) : abv [] nm n = itm nm n := by unfold abv; rw [if_pos h, if_pos rfl]
theorem abv_2 {above nm : Str} {n : Int} (h : 0 < n) (h2 : above ≠ []) : abv above nm n = above ++ 42 :: itm nm n := by unfold abv; rw [if_pos h, if_neg h2]
theorem blw_no {below nm : Str} {n : Int} (h : ¬ n < 0) : blw below nm n = below := if_neg h
theorem blw_1 {below nm : Str} {n : Int} (h : n < 0) : blw below nm n = below ++ 47 :: itm nm n := if_pos h
theorem itm_1 {nm : Str} {n : Int} (h : 1 < n ∨ n < -1) : itm nm n = nm ++ 94 :: Lib.itoa (n.natAbs : Int) := if_pos h
theorem itm_0 {nm : Str} {n : Int} (h : ¬ (1 < n ∨ n < -1)) : itm nm n = nm := if_neg h
theorem abv_len {above nm : Str} {n : Int} (hn : -16 ≤ n ∧ n ≤ 16) : (abv above nm n).length ≤ above.length + nm.length + 502 := by
 have := itm_len (nm := nm) hn
 unfold abv
 split
 ·split
  ·omega
  ·rw [List.length_append, List.length_cons]; omega
 ·omega
theorem blw_len {below nm : Str} {n : Int} (hn : -16 ≤ n ∧ n ≤ 16) : (blw below nm n).length ≤ below.length + nm.length + 502 := by
 have := itm_len (nm := nm) hn
 unfold blw
 split
 ·rw [List.length_append, List.length_cons]; omega
 ·omega
def nm0 : Str := [109]
def nm1 : Str := [107, 103]
def nm2 : Str := [115]
def abvU (u : MUnit) : Str := abv (abv (abv [] nm0 u.M) nm1 u.Kg) nm2 u.S
def blwU (u : MUnit) : Str := blw (blw (blw [] nm0 u.M) nm1 u.Kg) nm2 u.S
def prU (u : MUnit) : Str := if vU u = true then (if abvU u = [] then [49] else abvU u) ++ blwU u else []
theorem itoa_f {n : Int} (hn : -16 ≤ n ∧ n ≤ 16) : strconv_Itoa_S FF (n.natAbs : Int) = some (Lib.itoa (n.natAbs : Int)) := by
 unfold strconv_Itoa_S itoa?
 rw [if_pos (by have := itoa_len16 (n := n.natAbs) (by omega); omega)]
theorem round_u {nm above below : Str} {n : Int} (hnm : nm.length ≤ 10) (hnn : nm ≠ []) (ha : above.length ≤ 10000) (hb : below.length ≤ 10000) (hn : -16 ≤ n ∧ n ≤ 16) :
  (Option.bind (if ((decide (1 < n)) || (decide (n < (-1)))) = true then (Option.bind (strconv_Itoa_S FF (max n (IntKind.i64.wrap (-n)))) (fun x_15 => Option.bind (app? [94] x_15) (fun x_16 => Option.bind (app? nm x_16) (fun x_17 => some x_17)))) else (some nm)) (fun p_14 => if ((decide (0 < n)) && (decide (above = []))) = true then (some (p_14, below)) else (if (decide (0 < n)) = true then (Option.bind (app? [42] p_14) (fun x_18 => Option.bind (app? above x_18) (fun x_19 => some (x_19, below)))) else (if (decide (n < 0)) = true then (Option.bind (app? [47] p_14) (fun x_20 => Option.bind (app? below x_20) (fun x_21 => some (above, x_21)))) else (some (above, below)))))) = some (abv above nm n, blw below nm n) := by
 refine Yld.eq ?_
 have hl := itm_len (nm := nm) hn
 refine Yld.bind (P := fun p => p = itm nm n) ?_ ?_
 ·by_cases h : 1 < n ∨ n < -1
  ·rw [itm_1 h, max_abs hn]
   have := itoa_len16 (n := n.natAbs) (by omega)
   refine Yld.ift (by simpa using h) (Yld.bindE (itoa_f hn) (Yld.app (by simp; omega) (Yld.app (by simp; omega) (Yld.some rfl))))
  ·rw [itm_0 h]
   exact Yld.iff (by simp; omega) (Yld.some rfl)
 ·rintro p rfl
  by_cases h1 : 0 < n
  ·rw [blw_no (by omega)]
   by_cases h2 : above = []
   ·subst h2
    rw [abv_1 h1]
    exact Yld.ift (by simp [h1]) (Yld.some rfl)
   ·rw [abv_2 h1 h2]
    exact Yld.iff (by simp [h2]) (Yld.ift (decide_eq_true h1) (Yld.app (by simp; omega) (Yld.app (by simp; omega) (Yld.some rfl))))
  ·rw [abv_no h1]
   refine Yld.iff (by simp [h1]) (Yld.iff (decide_eq_false h1) ?_)
   by_cases h2 : n < 0
   ·rw [blw_1 h2]
    exact Yld.ift (decide_eq_true h2) (Yld.app (by simp; omega) (Yld.app (by simp; omega) (Yld.some rfl)))
   ·rw [blw_no h2]
    exact Yld.iff (decide_eq_false h2) (Yld.some rfl)
end Go.Proofs.YtcbbilehdaaffaaGreatDoor

namespace Go.Proofs.YtcbbilehdaaffaaGreatDoor
open Go Go.Sk
set_option linter.unusedSimpArgs false
set_option linter.unusedVariables false
theorem iterS {σ τ : Type} {B : σ → Option (σ ⊕ τ)} {s s' : σ} {n : Nat} (h : B s = some (.inl s')) : iter (n + 1) B s = iter n B s' := by rw [iter_succ, h]; rfl
theorem iterZ {σ τ : Type} {B : σ → Option (σ ⊕ τ)} {s : σ} {t : τ} {n : Nat} (h : B s = some (.inr t)) : iter (n + 1) B s = some t := by rw [iter_succ, h]; rfl
theorem lenU {u : MUnit} (h : vU u = true) : (abvU u).length ≤ 3000 ∧ (blwU u).length ≤ 3000 := by
 obtain ⟨h1, h2, h3⟩ := vU_iff.1 h
 unfold abvU blwU
 have a1 := abv_len (above := []) (nm := nm0) h1
 have a2 := abv_len (above := abv [] nm0 u.M) (nm := nm1) h2
 have a3 := abv_len (above := abv (abv [] nm0 u.M) nm1 u.Kg) (nm := nm2) h3
 have b1 := blw_len (below := []) (nm := nm0) h1
 have b2 := blw_len (below := blw [] nm0 u.M) (nm := nm1) h2
 have b3 := blw_len (below := blw (blw [] nm0 u.M) nm1 u.Kg) (nm := nm2) h3
 simp only [nm0, nm1, nm2, List.length_nil, List.length_cons] at *
 omega
theorem Print_u (u : MUnit) : unit_Print_S FF u = some (prU u) := by
 refine Yld.eq ?_
 unfold unit_Print_S prU
 refine Yld.bindE (Valid_u u) ?_
 cases h : vU u
 ·exact Yld.ift rfl (Yld.some rfl)
 obtain ⟨h1, h2, h3⟩ := vU_iff.1 h
 have a1 := abv_len (above := []) (nm := nm0) h1
 have a2 := abv_len (above := abv [] nm0 u.M) (nm := nm1) h2
 have b1 := blw_len (below := []) (nm := nm0) h1
 have b2 := blw_len (below := blw [] nm0 u.M) (nm := nm1) h2
 obtain ⟨l1, l2⟩ := lenU h
 have e0 : ([] : Str).length = 0 := rfl
 have n0 : nm0.length = 1 := rfl
 have n1 : nm1.length = 2 := rfl
 have n2 : nm2.length = 1 := rfl
 refine Yld.iff rfl (Yld.bind (P := fun p => p = (abvU u, blwU u)) ?_ ?_)
 ·unfold unit_exponents_S
  obtain ⟨k, hk⟩ := F4
  rw [Option.bind_some]
  refine Yld.of ?_
  have r1 := round_u (nm := nm0) (above := []) (below := []) (n := u.M) (by decide) (by decide) (by decide) (by decide) h1
  have r2 := round_u (nm := nm1) (above := abv [] nm0 u.M) (below := blw [] nm0 u.M) (n := u.Kg) (by decide) (by decide) (by omega) (by omega) h2
  have r3 := round_u (nm := nm2) (above := abv (abv [] nm0 u.M) nm1 u.Kg) (below := blw (blw [] nm0 u.M) nm1 u.Kg) (n := u.S) (by decide) (by decide) (by omega) (by omega) h3
  generalize hB : (un3 fun (above_5 : Str) (below_6 : Str) (x_7 : Int) => _ : Str × Str × Int → Option ((Str × Str × Int) ⊕ (Str × Str))) = B
  rw [show iter FF B ([], [], 0) = iter (k + 4) B ([], [], 0) by rw [hk]]
  rw [iterS (s' := (abv [] nm0 u.M, blw [] nm0 u.M, 1)), iterS (s' := (abv (abv [] nm0 u.M) nm1 u.Kg, blw (blw [] nm0 u.M) nm1 u.Kg, 2)), iterS (s' := (abvU u, blwU u, 3)), iterZ (t := (abvU u, blwU u))]
  ·subst hB; rfl
  ·subst hB
   show Option.bind (Option.bind (some u.S) fun x => Option.bind (some nm2) _) _ = _
   rw [Option.bind_some, Option.bind_some]
   exact congrArg (fun o => Option.bind o _) r3
  ·subst hB
   show Option.bind (Option.bind (some u.Kg) fun x => Option.bind (some nm1) _) _ = _
   rw [Option.bind_some, Option.bind_some]
   exact congrArg (fun o => Option.bind o _) r2
  ·subst hB
   show Option.bind (Option.bind (some u.M) fun x => Option.bind (some nm0) _) _ = _
   rw [Option.bind_some, Option.bind_some]
   exact congrArg (fun o => Option.bind o _) r1
 ·rintro _ rfl
  show Yld (Option.bind (if decide (abvU u = []) = true then _ else _) _) _
  rw [if_pos rfl]
  by_cases h4 : abvU u = []
  ·rw [if_pos h4, decide_eq_true h4]
   exact Yld.bindE (if_pos rfl) (Yld.app (by simp; omega) (Yld.some rfl))
  ·rw [if_neg h4, decide_eq_false h4]
   exact Yld.bindE (if_neg (by simp)) (Yld.app (show (abvU u).length + (blwU u).length ≤ _ by omega) (Yld.some rfl))
theorem digits_u : ∀ n : Nat, n ≤ 16 → skewbackref11_digits_S FF (n : Int) = some (itoaK n) := by
 intro n hn
 unfold skewbackref11_digits_S
 have : n = 0 ∨ n = 1 ∨ n = 2 ∨ n = 3 ∨ n = 4 ∨ n = 5 ∨ n = 6 ∨ n = 7 ∨ n = 8 ∨ n = 9 ∨ n = 10 ∨ n = 11 ∨ n = 12 ∨ n = 13 ∨ n = 14 ∨ n = 15 ∨ n = 16 := by omega
 rcases this with rfl | rfl | rfl | rfl | rfl | rfl | rfl | rfl | rfl | rfl | rfl | rfl | rfl | rfl | rfl | rfl | rfl <;> decide +kernel
theorem rpower_u {nm : Str} {n : Nat} (hnm : nm.length ≤ 10) (h1 : 1 ≤ n) (hn : n ≤ 16) : skewbackref11_power_S FF nm (n : Int) = some (itm nm n) := by
 refine Yld.eq ?_
 unfold skewbackref11_power_S
 by_cases h : n = 1
 ·subst h
  exact Yld.ift rfl (Yld.some rfl)
 ·have hl := itoa_len16 hn
  have e1 := digits_u n hn
  rw [← itoaK_eq] at e1
  rw [itm_1 (by omega), Int.natAbs_natCast]
  refine Yld.iff (decide_eq_false (by omega)) (Yld.app (by simp; omega) (Yld.bindE e1 (Yld.app (by simp; omega) (Yld.some ?_))))
  simp
theorem itm_neg {nm : Str} {n : Int} : itm nm (-n) = itm nm n := by
 unfold itm
 rw [Int.natAbs_neg]
 by_cases h : 1 < n ∨ n < -1
 ·rw [if_pos h, if_pos (by omega)]
 ·rw [if_neg h, if_neg (by omega)]
theorem rpow_pos {nm : Str} {n : Int} (hnm : nm.length ≤ 10) (h1 : 0 < n) (hn : n ≤ 16) : skewbackref11_power_S FF nm n = some (itm nm n) := by
 have := rpower_u (nm := nm) (n := n.toNat) hnm (by omega) (by omega)
 rwa [show ((n.toNat : Nat) : Int) = n by omega] at this
theorem rround1 {nm out : Str} {n : Int} (hnm : nm.length ≤ 10) (ho : out.length ≤ 10000) (hn : -16 ≤ n ∧ n ≤ 16) {l : List Int} {ns : List Str} {i : Int} (hl : idx? l i = some n) (hns : idx? ns i = some nm) :
  (Option.bind (idx? l i) (fun x_7 => if (decide (0 < x_7)) = true then (Option.bind (if (decide (out ≠ [])) = true then (Option.bind (app? out [42]) (fun x_9 => some x_9)) else (some out)) (fun out_8 => Option.bind (idx? ns i) (fun x_10 => Option.bind (idx? l i) (fun x_11 => Option.bind (skewbackref11_power_S FF x_10 x_11) (fun x_12 => Option.bind (app? out_8 x_12) (fun x_13 => some x_13)))))) else (some out))) = some (abv out nm n) := by
 refine Yld.eq ?_
 have hi := itm_len (nm := nm) hn
 refine Yld.bindE hl ?_
 by_cases h1 : 0 < n
 ·refine Yld.ift (decide_eq_true h1) ?_
  by_cases h2 : out = []
  ·subst h2
   rw [abv_1 h1]
   exact Yld.bindE (if_neg (by simp)) (Yld.bindE hns (Yld.bindE hl (Yld.bindE (rpow_pos hnm h1 hn.2) (Yld.app (by simp; omega) (Yld.some rfl)))))
  ·rw [abv_2 h1 h2]
   refine Yld.bind (P := fun o => o = out ++ [42]) (Yld.ift (decide_eq_true h2) (Yld.app (by simp; omega) (Yld.some rfl))) ?_
   rintro _ rfl
   refine Yld.bindE hns (Yld.bindE hl (Yld.bindE (rpow_pos hnm h1 hn.2) (Yld.app (by simp; omega) (Yld.some ?_))))
   simp
 ·rw [abv_no h1]
  exact Yld.iff (decide_eq_false h1) (Yld.some rfl)
theorem rround2 {nm out : Str} {n : Int} (hnm : nm.length ≤ 10) (ho : out.length ≤ 10000) (hn : -16 ≤ n ∧ n ≤ 16) {l : List Int} {ns : List Str} {i : Int} (hl : idx? l i = some n) (hns : idx? ns i = some nm) :
  (Option.bind (idx? l i) (fun x_20 => if (decide (x_20 < 0)) = true then (Option.bind (app? out [47]) (fun x_21 => Option.bind (idx? ns i) (fun x_22 => Option.bind (idx? l i) (fun x_23 => Option.bind (skewbackref11_power_S FF x_22 (IntKind.i64.wrap (-x_23))) (fun x_24 => Option.bind (app? x_21 x_24) (fun x_25 => some x_25)))))) else (some out))) = some (blw out nm n) := by
 refine Yld.eq ?_
 have hi := itm_len (nm := nm) hn
 refine Yld.bindE hl ?_
 by_cases h1 : n < 0
 ·rw [blw_1 h1]
  have e1 := rpow_pos (nm := nm) (n := -n) hnm (by omega) (by omega)
  rw [itm_neg] at e1
  refine Yld.ift (decide_eq_true h1) (Yld.app (by simp; omega) (Yld.bindE hns (Yld.bindE hl ?_)))
  rw [wi64' (z := -n) (by omega) (by omega)]
  refine Yld.bindE e1 (Yld.app (by simp; omega) (Yld.some ?_))
  simp
 ·rw [blw_no h1]
  exact Yld.iff (decide_eq_false h1) (Yld.some rfl)
theorem blw_app {a b nm : Str} {n : Int} : blw (a ++ b) nm n = a ++ blw b nm n := by unfold blw; split <;> simp
theorem rPrint_u (u : MUnit) : skewbackref11_Print_S FF u = some (prU u) := by
 refine Yld.eq ?_
 unfold skewbackref11_Print_S prU
 refine Yld.bindE (rValid_u u) ?_
 cases h : vU u
 ·exact Yld.ift rfl (Yld.some rfl)
 obtain ⟨h1, h2, h3⟩ := vU_iff.1 h
 have a1 := abv_len (above := []) (nm := nm0) h1
 have a2 := abv_len (above := abv [] nm0 u.M) (nm := nm1) h2
 have b1 := blw_len (below := []) (nm := nm0) h1
 have b2 := blw_len (below := blw [] nm0 u.M) (nm := nm1) h2
 obtain ⟨l1, l2⟩ := lenU h
 have e0 : ([] : Str).length = 0 := rfl
 have n0 : nm0.length = 1 := rfl
 have n1 : nm1.length = 2 := rfl
 have n2 : nm2.length = 1 := rfl
 obtain ⟨k, hk⟩ := F4
 refine Yld.iff rfl (Yld.bind (P := fun p => p = abvU u) ?_ ?_)
 ·refine Yld.of ?_
  have r1 := rround1 (nm := nm0) (out := []) (n := u.M) (l := [u.M, u.Kg, u.S]) (ns := [[109], [107, 103], [115]]) (i := 0) (by decide) (by decide) h1 rfl rfl
  have r2 := rround1 (nm := nm1) (out := abv [] nm0 u.M) (n := u.Kg) (l := [u.M, u.Kg, u.S]) (ns := [[109], [107, 103], [115]]) (i := 1) (by decide) (by omega) h2 rfl rfl
  have r3 := rround1 (nm := nm2) (out := abv (abv [] nm0 u.M) nm1 u.Kg) (n := u.S) (l := [u.M, u.Kg, u.S]) (ns := [[109], [107, 103], [115]]) (i := 2) (by decide) (by omega) h3 rfl rfl
  generalize hB : (un2 fun (out_3 : Str) (i_4 : Int) => _ : Str × Int → Option ((Str × Int) ⊕ Str)) = B
  rw [show iter FF B ([], 0) = iter (k + 4) B ([], 0) by rw [hk]]
  rw [iterS (s' := (abv [] nm0 u.M, 1)), iterS (s' := (abv (abv [] nm0 u.M) nm1 u.Kg, 2)), iterS (s' := (abvU u, 3)), iterZ (t := abvU u)]
  ·subst hB; rfl
  ·subst hB; exact congrArg (fun o => Option.bind o _) r3
  ·subst hB; exact congrArg (fun o => Option.bind o _) r2
  ·subst hB; exact congrArg (fun o => Option.bind o _) r1
 ·rintro _ rfl
  refine Yld.bind (P := fun p => p = if abvU u = [] then [49] else abvU u) ?_ ?_
  ·by_cases h4 : abvU u = []
   ·rw [if_pos h4]; exact Yld.ift (decide_eq_true h4) (Yld.some rfl)
   ·rw [if_neg h4]; exact Yld.iff (decide_eq_false h4) (Yld.some rfl)
  ·rintro A hA
   rw [if_pos rfl, ← hA]
   have lA : A.length ≤ 3000 := by rw [hA]; split; exact Nat.le_of_ble_eq_true rfl; exact l1
   clear hA
   refine Yld.bind (P := fun p => p = A ++ blwU u) ?_ ?_
   ·refine Yld.of ?_
    have q1 : (A ++ ([] : Str)).length ≤ 10000 := by rw [List.length_append]; omega
    have q2 : (A ++ blw [] nm0 u.M).length ≤ 10000 := by rw [List.length_append]; omega
    have q3 : (A ++ blw (blw [] nm0 u.M) nm1 u.Kg).length ≤ 10000 := by rw [List.length_append]; omega
    have r1 := rround2 (nm := nm0) (out := A) (n := u.M) (l := [u.M, u.Kg, u.S]) (ns := [[109], [107, 103], [115]]) (i := 0) (by decide) (by omega) h1 rfl rfl
    have r2 := rround2 (nm := nm1) (out := A ++ blw [] nm0 u.M) (n := u.Kg) (l := [u.M, u.Kg, u.S]) (ns := [[109], [107, 103], [115]]) (i := 1) (by decide) q2 h2 rfl rfl
    have r3 := rround2 (nm := nm2) (out := A ++ blw (blw [] nm0 u.M) nm1 u.Kg) (n := u.S) (l := [u.M, u.Kg, u.S]) (ns := [[109], [107, 103], [115]]) (i := 2) (by decide) q3 h3 rfl rfl
    rw [blw_app] at r2 r3
    rw [show blw A nm0 u.M = A ++ blw [] nm0 u.M by have := blw_app (a := A) (b := []) (nm := nm0) (n := u.M); rwa [List.append_nil] at this] at r1
    generalize hB : (un2 fun (out_3 : Str) (i_4 : Int) => _ : Str × Int → Option ((Str × Int) ⊕ Str)) = B
    rw [show iter FF B (A, 0) = iter (k + 4) B (A, 0) by rw [hk]]
    rw [iterS (s' := (A ++ blw [] nm0 u.M, 1)), iterS (s' := (A ++ blw (blw [] nm0 u.M) nm1 u.Kg, 2)), iterS (s' := (A ++ blwU u, 3)), iterZ (t := A ++ blwU u)]
    ·subst hB; rfl
    ·subst hB; exact congrArg (fun o => Option.bind o _) r3
    ·subst hB; exact congrArg (fun o => Option.bind o _) r2
    ·subst hB; exact congrArg (fun o => Option.bind o _) r1
   ·rintro _ rfl
    exact Yld.some rfl
end Go.Proofs.YtcbbilehdaaffaaGreatDoor

namespace Go.Proofs.YtcbbilehdaaffaaGreatDoor
open Go Go.Sk
set_option maxRecDepth 100000
theorem sanity_y : skewbacklaw11_sanity_S FF = some true := by
 unfold skewbacklaw11_sanity_S unit_Write_S q_Text_S w_Text_S unit_Print_S
 simp only [itoa_S_K]
 decide +kernel
end Go.Proofs.YtcbbilehdaaffaaGreatDoor

namespace Go.Proofs.YtcbbilehdaaffaaGreatDoor
open Go Go.Sk
set_option linter.unusedSimpArgs false
set_option linter.unusedVariables false
theorem computes_y {u v : MUnit} {n : Int} : skewbacklaw11_UnitComputesAsSpecified_S FF u v n = some true := by
 refine Yld.eq ?_
 unfold skewbacklaw11_UnitComputesAsSpecified_S
 refine Yld.bindE (Mul_u u v) (Yld.bindE (Div_u u v) (Yld.bindE (Pow_u u n) (Yld.bindE (rMul_u u v) (Yld.bindE (rDiv_u u v) (Yld.bindE (rPow_u u n) (Yld.bindE sanity_y ?_))))))
 simp only [mdo, decide_true, Bool.and_self]
 refine Yld.g1 rfl (Yld.bindE (Valid_u u) (Yld.g1 rfl (Yld.bindE (rValid_u u) ?_)))
 simp only [beq_self_eq_true, Bool.and_self]
 refine Yld.g1 rfl (Yld.bindE (Print_u u) (Yld.g1 rfl (Yld.bindE (rPrint_u u) (Yld.some ?_))))
 simp
end Go.Proofs.YtcbbilehdaaffaaGreatDoor

namespace Go.Proofs.YtcbbilehdaaffaaGreatDoor
open Go Go.Sk
end Go.Proofs.YtcbbilehdaaffaaGreatDoor

namespace Go.Sk
open Go
end Go.Sk
namespace Go.Proofs.YtcbbilehdaaffaaGreatDoor
open Go Go.Sk
end Go.Proofs.YtcbbilehdaaffaaGreatDoor

namespace Go.Proofs.YtcbbilehdaaffaaGreatDoor
open Go Go.Sk
end Go.Proofs.YtcbbilehdaaffaaGreatDoor

namespace Go.Proofs.YtcbbilehdaaffaaGreatDoor
open Go Go.Sk
theorem computes_law {mx : Int} (u : MUnit) (v : MUnit) (n : Int)  : Meets Tryz.prog (tabs mx) 6 [] [.agg (eMUnit u), .agg (eMUnit v), .one (.i n)] (Is [] (.b (.one (.bool true)))) :=
 skewbacklaw11_UnitComputesAsSpecified_spec (computes_y )
end Go.Proofs.YtcbbilehdaaffaaGreatDoor

