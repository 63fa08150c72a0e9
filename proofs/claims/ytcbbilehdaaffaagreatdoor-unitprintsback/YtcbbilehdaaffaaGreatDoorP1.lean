/- the plain law -/
import Derived.Test.YtcbbilehdaaffaaGreatDoorW3
namespace Go.Sk
set_option linter.unusedSimpArgs false
set_option linter.unusedVariables false
def inD (b : Int) (l : List Int) : Prop := ∀ i, 0 ≤ dg l i ∧ dg l i < b
def MM : Int := 4294967296 ^ 16
theorem MM_eq : MM = 13407807929942597099574024998205846127479365820592393377723561443721764030073546976801874298166903427690031858186486050853753882811946569946433649006084096 := by decide +kernel
theorem MM_pos : 0 < MM := by rw [MM_eq]; decide
def av (w : A16) : Int := ds 4294967296 (dg w.l) 16
def toA (z : Int) : A16 := .of ((List.range 16).map fun i => nd 4294967296 z i)
theorem toA_l (z : Int) : (toA z).l = (List.range 16).map fun i => nd 4294967296 z i := A16.l_of (by simp)
theorem toA_dg (z : Int) {i : Nat} (h : i < 16) : dg (toA z).l i = nd 4294967296 z i := by
 rw [toA_l]
 unfold dg
 rw [List.getD_eq_getElem?_getD, List.getElem?_map, List.getElem?_range h]
 rfl
theorem nd_range (b z : Int) (hb : 0 < b) (i : Nat) : 0 ≤ nd b z i ∧ nd b z i < b := ⟨Int.emod_nonneg _ (by omega), Int.emod_lt_of_pos _ hb⟩
theorem toA_in (z : Int) : inD 4294967296 (toA z).l := fun i => by
 by_cases h : i < 16
 ·rw [toA_dg z h]; exact nd_range _ _ (by decide) i
 ·rw [dg_ge (by rw [A16.l_len]; omega)]; decide
theorem av_toA (z : Int) : av (toA z) = z % MM := by
 unfold av
 rw [ds_congr (g := nd 4294967296 z) fun i hi => toA_dg z hi, ds_nd (by decide)]
 rfl
theorem av_range {w : A16} (h : inD 4294967296 w.l) : 0 ≤ av w ∧ av w < MM := ⟨ds_nonneg (by decide) fun i _ => (h i).1, ds_lt (by decide) fun i _ => h i⟩
theorem av_inj {v w : A16} (hv : inD 4294967296 v.l) (hw : inD 4294967296 w.l) (h : av v = av w) : v = w := by
 rw [← A16.l_inj]
 refine dg_ext rfl fun i hi => ?_
 exact ds_inj (by decide) (fun i _ => hv i) (fun i _ => hw i) h i hi
theorem toA_av {w : A16} (h : inD 4294967296 w.l) : toA (av w) = w := by
 refine av_inj (toA_in _) h ?_
 rw [av_toA]
 exact Int.emod_eq_of_lt (av_range h).1 (av_range h).2
theorem eq_toA {w : A16} {z : Int} (h : inD 4294967296 w.l) (hz : av w = z) : w = toA z := by rw [← hz, toA_av h]
theorem eq_toA' {w : A16} {z : Int} (h : inD 4294967296 w.l) (hz : av w = z % MM) : w = toA z := av_inj h (toA_in z) (by rw [hz, av_toA])
theorem zero_in : inD 4294967296 A16.zero.l := fun i => by
 have : A16.zero.l = List.replicate 16 0 := rfl
 rw [this, dg_replicate]; decide
theorem av_zero : av A16.zero = 0 := ds_zero fun i _ => by
 have : A16.zero.l = List.replicate 16 0 := rfl
 rw [this, dg_replicate]
theorem zero_eq : A16.zero = toA 0 := eq_toA zero_in av_zero
theorem zero_iff {w : A16} (h : inD 4294967296 w.l) : w = A16.zero ↔ av w = 0 := ⟨fun e => by rw [e, av_zero], fun e => av_inj h zero_in (by rw [e, av_zero])⟩
theorem set_in {w : A16} {i x : Int} (h : inD 4294967296 w.l) (h0 : 0 ≤ i) (h1 : i < 16) (hx : 0 ≤ x ∧ x < 4294967296) : inD 4294967296 (w.set i x).l := fun j => by
 rw [A16.set_l, dg_set (by rw [A16.l_len]; omega)]
 split
 ·exact hx
 ·exact h j
theorem set_dg {w : A16} {i x : Int} (h0 : 0 ≤ i) (h1 : i < 16) (j : Nat) : dg (w.set i x).l j = if j = i.toNat then x else dg w.l j := by
 rw [A16.set_l, dg_set (by rw [A16.l_len]; omega)]
theorem ds_upd {b x : Int} {f g : Nat → Int} {k : Nat} (h : ∀ i, g i = if i = k then x else f i) : ds b g (k + 1) = ds b f k + x * b ^ k := by
 show ds b g k + g k * b ^ k = _
 rw [ds_congr (g := f) fun i hi => by rw [h i, if_neg (by omega)], h k, if_pos rfl]
theorem A16.ds_set {b : Int} {w : A16} {k : Nat} {x : Int} (h : k < 16) : ds b (dg (w.set (k : Int) x).l) (k + 1) = ds b (dg w.l) k + x * b ^ k := ds_upd fun i => by rw [set_dg (by omega) (by omega), Int.toNat_natCast]
theorem carry_step {b A Bb O c x c' ak bk : Int} {k : Nat} (h : A + Bb = O + c * b ^ k) (e : c + ak + bk = x + c' * b) : (A + ak * b ^ k) + (Bb + bk * b ^ k) = (O + x * b ^ k) + c' * b ^ (k + 1) := by
 rw [Int.pow_succ]
 grind
theorem borrow_step {b A Bb O c x c' ak bk : Int} {k : Nat} (h : A + c * b ^ k = Bb + O) (e : ak - bk - c = x - c' * b) : (A + ak * b ^ k) + c' * b ^ (k + 1) = (Bb + bk * b ^ k) + (O + x * b ^ k) := by
 rw [Int.pow_succ]
 grind
theorem ds_hi {b : Int} (hb : 0 < b) {f : Nat → Int} {n m : Nat} (hf : ∀ i, 0 ≤ f i ∧ f i < b) : ds b f (n + m) / b ^ n = ds b (fun i => f (n + i)) m := by
 have h1 := ds_nonneg hb (f := f) (n := n) fun i _ => (hf i).1
 have h2 := ds_lt hb (f := f) (n := n) fun i _ => hf i
 rw [ds_split, Int.add_mul_ediv_left _ _ (by have hp : 0 < b ^ n := Int.pow_pos hb; omega), Int.ediv_eq_zero_of_lt h1 h2, Int.zero_add]
theorem ds_dig {b : Int} (hb : 0 < b) {f : Nat → Int} {n i : Nat} (hi : i < n) (hf : ∀ i, 0 ≤ f i ∧ f i < b) : nd b (ds b f n) i = f i := by
 obtain ⟨m, rfl⟩ : ∃ m, n = i + (m + 1) := ⟨n - i - 1, by omega⟩
 unfold nd
 rw [ds_hi hb hf, ds_succ']
 have h0 := hf (i + 0)
 rw [Int.add_mul_emod_self_left, Int.emod_eq_of_lt h0.1 h0.2]
 rfl
theorem pow_mono {b : Int} (hb : 1 ≤ b) {i j : Nat} (h : i ≤ j) : b ^ i ≤ b ^ j := by
 obtain ⟨d, rfl⟩ : ∃ d, j = i + d := ⟨j - i, by omega⟩
 have h1 : 0 < b ^ d := Int.pow_pos (by omega)
 have h2 : 0 < b ^ i := Int.pow_pos (by omega)
 rw [Int.pow_add]
 have h3 : b ^ i * 1 ≤ b ^ i * b ^ d := Int.mul_le_mul_of_nonneg_left (by omega) (by omega)
 omega
end Go.Sk
namespace Go.Proofs.YtcbbilehdaaffaaGreatDoor
open Go Go.Sk
set_option linter.unusedSimpArgs false
set_option linter.unusedVariables false
theorem plus_y {F : Nat} (hF : 100 < F) {a b : A16} (ha : inD 4294967296 a.l) (hb : inD 4294967296 b.l) : w_plus_S F a b = some (toA (av a + av b), decide (av a + av b < MM)) := by
 refine Yld.eq ?_
 unfold w_plus_S
 refine Yld.bind (P := fun r => inD 4294967296 r.1.l ∧ 0 ≤ r.2 ∧ r.2 ≤ 1 ∧ av a + av b = av r.1 + r.2 * MM) (Yld.rounds 16 (fun k s => s.2.2 = (k : Int) ∧ inD 4294967296 s.1.l ∧ 0 ≤ s.2.1 ∧ s.2.1 ≤ 1 ∧ ds 4294967296 (dg a.l) k + ds 4294967296 (dg b.l) k = ds 4294967296 (dg s.1.l) k + s.2.1 * 4294967296 ^ k) (by omega) ⟨rfl, zero_in, by decide, by decide, rfl⟩ ?_) ?_
 ·rintro k ⟨out, c, i⟩ hk ⟨rfl, hin, hc0, hc1, hs⟩
  dsimp only at hin hc0 hc1 hs
  dsimp only [un3]
  refine Yld.ite (fun h => ?_) (fun h => ?_)
  ·have hk' : k < 16 := by have := of_decide_eq_true h; omega
   refine Yld.idx (by omega) (by rw [A16.l_len]; omega) (Yld.idx (by omega) (by rw [A16.l_len]; omega) (Yld.ln (Yld.idx (by omega) (by rw [A16.l_len]; omega) (Yld.ln (Yld.some (.inl ⟨_, rfl, ?_, hk'⟩))))))
   have h1 := ha k
   have h2 := hb k
   simp only [idx_dg, Int.toNat_natCast, wu64, wu32, wi64]
   refine ⟨by omega, set_in hin (by omega) (by omega) (by constructor <;> omega), by omega, by omega, ?_⟩
   rw [ds_succ, ds_succ, A16.ds_set hk']
   exact carry_step hs (by omega)
  ·have hk' : k = 16 := by have := of_decide_eq_false h; omega
   subst hk'
   exact Yld.some (.inr ⟨_, rfl, hin, hc0, hc1, hs⟩)
 ·rintro ⟨out, c⟩ ⟨hin, hc0, hc1, hs⟩
  dsimp only at hin hc0 hc1 hs
  have hr := av_range hin
  refine Yld.some ?_
  have e1 : out = toA (av a + av b) := eq_toA' hin (by rw [hs, Int.add_mul_emod_self_right, Int.emod_eq_of_lt hr.1 hr.2])
  rw [← e1]
  congr 1
  rw [decide_eq_decide]
  rw [MM_eq] at *
  omega
theorem minus_y {F : Nat} (hF : 100 < F) {a b : A16} (ha : inD 4294967296 a.l) (hb : inD 4294967296 b.l) (hle : av b ≤ av a) : w_minus_S F a b = some (toA (av a - av b)) := by
 refine Yld.eq ?_
 unfold w_minus_S
 refine Yld.bind (P := fun r => inD 4294967296 r.l ∧ ∃ c : Int, 0 ≤ c ∧ c ≤ 1 ∧ av a + c * MM = av b + av r) (Yld.rounds 16 (fun k s => s.2.2 = (k : Int) ∧ inD 4294967296 s.1.l ∧ 0 ≤ s.2.1 ∧ s.2.1 ≤ 1 ∧ ds 4294967296 (dg a.l) k + s.2.1 * 4294967296 ^ k = ds 4294967296 (dg b.l) k + ds 4294967296 (dg s.1.l) k) (by omega) ⟨rfl, zero_in, by decide, by decide, rfl⟩ ?_) ?_
 ·rintro k ⟨out, c, i⟩ hk ⟨rfl, hin, hc0, hc1, hs⟩
  dsimp only at hin hc0 hc1 hs
  dsimp only [un3]
  refine Yld.ite (fun h => ?_) (fun h => ?_)
  ·have hk' : k < 16 := by have := of_decide_eq_true h; omega
   refine Yld.idx (by omega) (by rw [A16.l_len]; omega) (Yld.idx (by omega) (by rw [A16.l_len]; omega) (Yld.ln (Yld.idx (by omega) (by rw [A16.l_len]; omega) (Yld.ln (Yld.some (.inl ⟨_, rfl, ?_, hk'⟩))))))
   have h1 := ha k
   have h2 := hb k
   simp only [idx_dg, Int.toNat_natCast, wu64, wu32, wi64]
   refine ⟨by omega, set_in hin (by omega) (by omega) (by constructor <;> omega), by omega, by omega, ?_⟩
   rw [ds_succ, ds_succ, A16.ds_set hk']
   exact borrow_step hs (by omega)
  ·have hk' : k = 16 := by have := of_decide_eq_false h; omega
   subst hk'
   exact Yld.some (.inr ⟨_, rfl, hin, _, hc0, hc1, hs⟩)
 ·rintro out ⟨hin, c, hc0, hc1, hs⟩
  have hr := av_range hin
  have ra := av_range ha
  have rb := av_range hb
  refine Yld.some (eq_toA hin ?_)
  have : c = 0 := by
   rcases (by omega : c = 0 ∨ c = 1) with h | h
   ·exact h
   ·subst h; omega
  subst this
  omega
theorem ds_lt_of {b : Int} (hb : 0 < b) {f g : Nat → Int} {n k : Nat} (hk : k < n) (hf : ∀ i, 0 ≤ f i ∧ f i < b) (hg : ∀ i, 0 ≤ g i ∧ g i < b) (he : ∀ i, k < i → i < n → f i = g i) (hl : f k < g k) : ds b f n < ds b g n := by
 have e : n = (k + 1) + (n - (k + 1)) := by omega
 rw [e, ds_split, ds_split b g]
 have h1 : ds b (fun i => f (k + 1 + i)) (n - (k + 1)) = ds b (fun i => g (k + 1 + i)) (n - (k + 1)) := ds_congr fun i hi => he _ (by omega) (by omega)
 rw [h1]
 have h2 : ds b f (k + 1) < ds b g (k + 1) := by
  rw [ds_succ, ds_succ]
  have h3 := ds_lt hb (n := k) fun i _ => hf i
  have h4 := ds_nonneg hb (n := k) fun i _ => (hg i).1
  have h5 : (f k + 1) * b ^ k ≤ g k * b ^ k := Int.mul_le_mul_of_nonneg_right hl (Int.le_of_lt (Int.pow_pos hb))
  rw [Int.add_mul, Int.one_mul] at h5
  omega
 omega
theorem compare_y (F : Nat) (x y : Int) : cmp_Compare_S F x y = some (if x < y then -1 else if y < x then 1 else 0) := by
 unfold cmp_Compare_S cmp_isNaN_S
 simp
 split
 ·rfl
 ·split <;> rfl
theorem order_y {F : Nat} (hF : 100 < F) {a b : A16} (ha : inD 4294967296 a.l) (hb : inD 4294967296 b.l) : w_order_S F a b = some (if av a < av b then -1 else if av b < av a then 1 else 0) := by
 refine Yld.eq ?_
 unfold w_order_S
 refine Yld.bind (P := fun r => match r with | .inl _ => a = b | .inr y => y = if av a < av b then -1 else if av b < av a then 1 else 0) (Yld.rounds 16 (fun k s => s = 15 - (k : Int) ∧ ∀ i, 15 < i + k → i < 16 → dg a.l i = dg b.l i) (by omega) ⟨rfl, fun i h1 h2 => by omega⟩ ?_) ?_
 ·rintro k i hk ⟨rfl, he⟩
  refine Yld.ite (fun h => ?_) (fun h => ?_)
  ·have hk' : k < 16 := by have := of_decide_eq_true h; omega
   have et : (15 - (k : Int)).toNat = 15 - k := by omega
   refine Yld.idx (by omega) (by rw [A16.l_len]; omega) (Yld.idx (by omega) (by rw [A16.l_len]; omega) (Yld.ite (fun hne => ?_) (fun heq => ?_)))
   ·refine Yld.idx (by omega) (by rw [A16.l_len]; omega) (Yld.idx (by omega) (by rw [A16.l_len]; omega) (Yld.bindE (compare_y _ _ _) (Yld.some (.inr ⟨_, rfl, ?_⟩))))
    have hne' := of_decide_eq_true hne
    simp only [idx_dg, et] at hne' ⊢
    rcases Int.lt_trichotomy (dg a.l (15 - k)) (dg b.l (15 - k)) with h1 | h1 | h1
    ·have := ds_lt_of (b := 4294967296) (n := 16) (k := 15 - k) (by decide) (by omega) ha hb (fun i h2 h3 => he i (by omega) h3) h1
     have h' : av a < av b := this
     rw [if_pos h1, if_pos h']
    ·exact absurd h1 hne'
    ·have := ds_lt_of (b := 4294967296) (n := 16) (k := 15 - k) (by decide) (by omega) hb ha (fun i h2 h3 => (he i (by omega) h3).symm) h1
     have h' : av b < av a := this
     rw [if_neg (by omega), if_pos h1, if_neg (by omega), if_pos h']
   ·have heq' : idx a.l (15 - (k : Int)) = idx b.l (15 - (k : Int)) := by simpa using heq
    simp only [idx_dg, et] at heq'
    refine Yld.some (.inl ⟨_, rfl, ⟨by rw [wi64]; omega, fun i h1 h2 => ?_⟩, hk'⟩)
    by_cases e : i = 15 - k
    ·rw [e]; exact heq'
    ·exact he i (by omega) h2
  ·have hk' : k = 16 := by have := of_decide_eq_false h; omega
   subst hk'
   refine Yld.some (.inr ⟨_, rfl, ?_⟩)
   show a = b
   rw [← A16.l_inj]
   exact dg_ext rfl fun i hi => he i (by omega) hi
 ·rintro (u | y) h
  ·have h' : a = b := h
   subst h'
   exact Yld.some (by simp)
  ·exact Yld.some h
theorem size_y {F : Nat} (hF : 100 < F) {w : A16} : Yld (w_size_S F w) fun n => 0 ≤ n ∧ n ≤ 16 ∧ (∀ i, n.toNat ≤ i → i < 16 → dg w.l i = 0) ∧ (0 < n → dg w.l (n.toNat - 1) ≠ 0) := by
 unfold w_size_S
 refine Yld.bind (P := fun n => 0 ≤ n ∧ n ≤ 16 ∧ (∀ i, n.toNat ≤ i → i < 16 → dg w.l i = 0) ∧ (0 < n → dg w.l (n.toNat - 1) ≠ 0)) (Yld.rounds 16 (fun k s => s = 16 - (k : Int) ∧ ∀ i, 16 - k ≤ i → i < 16 → dg w.l i = 0) (by omega) ⟨rfl, fun i h1 h2 => by omega⟩ ?_) (fun x h => Yld.some h)
 rintro k n hk ⟨rfl, he⟩
 by_cases hk' : k < 16
 ·have hw : IntKind.i64.wrap (16 - (k : Int) - 1) = 15 - (k : Int) := by rw [wi64]; omega
  have et : (15 - (k : Int)).toNat = 15 - k := by omega
  have hd : decide (0 < 16 - (k : Int)) = true := decide_eq_true (by omega)
  refine Yld.g1 hd (Yld.idx (by rw [hw]; omega) (by rw [hw, A16.l_len]; omega) ?_)
  rw [hw, hd]
  simp only [idx_dg, et, Bool.true_and]
  refine Yld.ite (fun h => ?_) (fun h => ?_)
  ·have h' := of_decide_eq_true h
   refine Yld.some (.inl ⟨_, rfl, ⟨by omega, fun i h1 h2 => ?_⟩, hk'⟩)
   by_cases e : i = 15 - k
   ·rw [e]; exact h'
   ·exact he i (by omega) h2
  ·have h' := of_decide_eq_false h
   refine Yld.some (.inr ⟨_, rfl, by omega, by omega, fun i h1 h2 => he i (by omega) h2, fun _ => ?_⟩)
   have : (16 - (k : Int)).toNat - 1 = 15 - k := by omega
   rw [this]; exact h'
 ·have hk2 : k = 16 := by omega
  subst hk2
  refine Yld.g0 (by decide) ?_
  refine Yld.iff (by simp) (Yld.some (.inr ⟨_, rfl, by decide, by decide, fun i _ h2 => he i (by omega) h2, fun h => by simp at h⟩))
end Go.Proofs.YtcbbilehdaaffaaGreatDoor

namespace Go.Sk
set_option linter.unusedSimpArgs false
set_option linter.unusedVariables false
def bad : Big := ⟨true, false, A16.zero⟩
def big (z : Int) : Big := if -MM < z ∧ z < MM then ⟨false, decide (z < 0), toA (if z < 0 then -z else z)⟩ else bad
def toB : Option Int → Big
 | some z => big z
 | none => bad
def inB (x : Big) : Prop := inD 4294967296 x.W.l
def goodB (x : Big) : Bool := !x.Bad && (!decide (x.W = A16.zero) || !x.Neg)
def sv (x : Big) : Int := if x.Neg = true then -av x.W else av x.W
def iv (x : Big) : Option Int := if goodB x = true then some (sv x) else none
theorem bad_in : inB bad := zero_in
theorem big_in (z : Int) : inB (big z) := by
 unfold big; split
 ·exact toA_in _
 ·exact bad_in
theorem iv_bad : iv bad = none := rfl
theorem toA_zero_iff {m : Int} (h0 : 0 ≤ m) (h1 : m < MM) : toA m = A16.zero ↔ m = 0 := by
 rw [zero_iff (toA_in _), av_toA, Int.emod_eq_of_lt h0 h1]
theorem goodB_big {z : Int} (h : -MM < z ∧ z < MM) : goodB (big z) = true := by
 unfold big
 rw [if_pos h]
 by_cases hz : z < 0
 ·have : ¬ toA (-z) = A16.zero := by rw [toA_zero_iff (by omega) (by omega)]; omega
  simp [goodB, hz, this]
 ·simp [goodB, hz]
theorem iv_big {z : Int} (h : -MM < z ∧ z < MM) : iv (big z) = some z := by
 unfold iv
 rw [if_pos (goodB_big h)]
 unfold big sv
 rw [if_pos h]
 by_cases hz : z < 0
 ·simp only [hz, decide_true, if_true]
  rw [av_toA, Int.emod_eq_of_lt (by omega) (by omega)]; simp
 ·simp only [hz, decide_false, if_false]
  rw [av_toA, Int.emod_eq_of_lt (by omega) (by omega)]; simp
theorem big_out {z : Int} (h : ¬ (-MM < z ∧ z < MM)) : big z = bad := if_neg h
theorem sv_range {x : Big} (h : inB x) : -MM < sv x ∧ sv x < MM := by
 have := av_range h
 unfold sv
 split <;> omega
theorem big_sv {x : Big} (h : inB x) (hg : goodB x = true) : x = big (sv x) := by
 have hr := sv_range h
 have ha := av_range h
 unfold big
 rw [if_pos hr]
 simp only [goodB, Bool.and_eq_true, Bool.not_eq_true', Bool.or_eq_true, decide_eq_false_iff_not] at hg
 obtain ⟨hb, hz⟩ := hg
 cases x with
 | mk B N W =>
  dsimp only [sv] at *
  subst hb
  cases N with
  | false =>
   have h1 : ¬ av W < 0 := by omega
   simp only [Bool.false_eq_true, if_false, h1, decide_false]
   rw [toA_av h]
  | true =>
   have hw : ¬ W = A16.zero := by simpa using hz
   have h2 : av W ≠ 0 := fun e => hw ((zero_iff h).2 e)
   have h1 : -av W < 0 := by omega
   simp only [if_true, h1, decide_true]
   rw [Int.neg_neg, toA_av h]
theorem iv_some {x : Big} {z : Int} (h : inB x) (hz : iv x = some z) : goodB x = true ∧ x = big z ∧ -MM < z ∧ z < MM := by
 unfold iv at hz
 split at hz
 ·next hg =>
  cases hz
  exact ⟨hg, big_sv h hg, sv_range h⟩
 ·simp at hz
theorem iv_none {x : Big} (hz : iv x = none) : goodB x = false := by
 unfold iv at hz
 split at hz
 ·simp at hz
 ·next hg => simpa using hg
theorem big_Bad {z : Int} : (big z).Bad = !decide (-MM < z ∧ z < MM) := by
 unfold big
 split
 ·next h => simp [h]
 ·next h => simp [h, bad]
theorem toB_in (o : Option Int) : inB (toB o) := by cases o; exact bad_in; exact big_in _
theorem big_inj {a b : Int} (ha : -MM < a ∧ a < MM) (hb : -MM < b ∧ b < MM) : big a = big b ↔ a = b := ⟨fun h => by
 have := congrArg iv h
 rw [iv_big ha, iv_big hb] at this
 exact Option.some.inj this, fun h => by rw [h]⟩
end Go.Sk
namespace Go.Proofs.YtcbbilehdaaffaaGreatDoor
open Go Go.Sk
set_option linter.unusedSimpArgs false
set_option linter.unusedVariables false
theorem Valid_y (F : Nat) (x : Big) : w_Valid_S F x = some (if x.Bad = true then decide (x.W = A16.zero) && !x.Neg else !decide (x.W = A16.zero) || !x.Neg) := by
 unfold w_Valid_S
 split <;> rfl
theorem good_y {F : Nat} (l : List Big) (hF : l.length < F) (hl : l.length ≤ 1000) : w_good_S F l = some (l.all goodB) := by
 refine Yld.eq ?_
 unfold w_good_S
 refine Yld.bind (P := fun r => match r with | .inl _ => l.all goodB = true | .inr y => y = false ∧ l.all goodB = false) (Yld.rounds l.length (fun k s => s = (k : Int) ∧ (l.take k).all goodB = true) hF ⟨rfl, by simp⟩ ?_) ?_
 ·rintro k i hk ⟨rfl, he⟩
  refine Yld.ite (fun h => ?_) (fun h => ?_)
  ·have hk' : k < l.length := by have := of_decide_eq_true h; omega
   refine Yld.idx (by omega) (by omega) ?_
   have hx : idx l (k : Int) = l[k] := by
    have := idx_eq (xs := l) (i := (k : Int)) (by omega) (by omega)
    rw [Int.toNat_natCast, List.getElem?_eq_getElem hk'] at this
    exact (Option.some.inj this).symm
   rw [hx]
   have hstep : (l.take (k + 1)).all goodB = ((l.take k).all goodB && goodB l[k]) := by
    rw [List.take_add_one, List.getElem?_eq_getElem hk', List.all_append]; simp
   have hall : goodB l[k] = false → l.all goodB = false := fun hg => by
    rw [List.all_eq_false]; exact ⟨l[k], List.getElem_mem hk', by simp [hg]⟩
   cases hb : l[k].Bad with
   | true =>
    refine Yld.g0 (by rfl) (Yld.ift (by simp) (Yld.some (.inr ⟨_, rfl, rfl, hall (by simp [goodB, hb])⟩)))
   | false =>
    refine Yld.g1 (by rfl) (Yld.bindE (Valid_y _ _) ?_)
    have hg : goodB l[k] = (!decide (l[k].W = A16.zero) || !l[k].Neg) := by simp [goodB, hb]
    simp only [hb, Bool.false_eq_true, if_false, ← hg]
    refine Yld.ite (fun h => ?_) (fun h => ?_)
    ·exact Yld.some (.inr ⟨_, rfl, rfl, hall (by simpa using h)⟩)
    ·refine Yld.some (.inl ⟨_, rfl, ⟨by rw [wi64]; omega, ?_⟩, hk'⟩)
     rw [hstep, he]; simpa using h
  ·have hk' : k = l.length := by have := of_decide_eq_false h; omega
   subst hk'
   rw [List.take_length] at he
   exact Yld.some (.inr ⟨_, rfl, he⟩)
 ·rintro (u | y) h
  ·exact Yld.some h.symm
  ·exact Yld.some (by rw [h.1, h.2])
theorem good1 {F : Nat} (hF : 100 < F) (x : Big) : w_good_S F [x] = some (goodB x) := by rw [good_y _ (by simp; omega) (by simp)]; simp
theorem good2 {F : Nat} (hF : 100 < F) (x y : Big) : w_good_S F [x, y] = some (goodB x && goodB y) := by rw [good_y _ (by simp; omega) (by simp)]; simp
theorem Bad_y (F : Nat) : w_Bad_S F = some bad := rfl
theorem signed_y (F : Nat) (neg : Bool) {w : A16} (h : inD 4294967296 w.l) : w_signed_S F neg w = some (big (if neg = true then -av w else av w)) := by
 have hr := av_range h
 unfold w_signed_S big
 have hz := zero_iff h
 cases neg with
 | false =>
  have h1 : ¬ av w < 0 := by omega
  simp only [Bool.false_eq_true, if_false, h1, decide_false, Bool.false_and]
  rw [if_pos (by omega), toA_av h]
 | true =>
  simp only [if_true, Bool.true_and]
  rw [if_pos (by omega)]
  by_cases e : av w = 0
  ·have hw := hz.2 e
   rw [e]
   simp [hw, zero_eq]
  ·have hw : ¬ w = A16.zero := fun h => e (hz.1 h)
   have h1 : -av w < 0 := by omega
   simp only [h1, decide_true, if_true, Int.neg_neg, toA_av h]
   simp [hw]
theorem sv_big_W {z : Int} (h : -MM < z ∧ z < MM) : av (big z).W = (if z < 0 then -z else z) ∧ (big z).Neg = decide (z < 0) := by
 unfold big
 rw [if_pos h]
 refine ⟨?_, rfl⟩
 dsimp only
 rw [av_toA, Int.emod_eq_of_lt] <;> split <;> omega
def two (f : Int → Int → Option Int) (x y : Big) : Big := match iv x, iv y with
 | some a, some b => toB (f a b)
 | _, _ => bad
def one (f : Int → Option Int) (x : Big) : Big := match iv x with
 | some a => toB (f a)
 | none => bad
theorem two_big {f : Int → Int → Option Int} {a b : Int} (ha : -MM < a ∧ a < MM) (hb : -MM < b ∧ b < MM) : two f (big a) (big b) = toB (f a b) := by simp only [two, iv_big ha, iv_big hb]
theorem one_big {f : Int → Option Int} {a : Int} (ha : -MM < a ∧ a < MM) : one f (big a) = toB (f a) := by simp only [one, iv_big ha]
theorem Add_y {F : Nat} (hF : 100 < F) {x y : Big} (hx : inB x) (hy : inB y) : w_Add_S F x y = some (two (fun a b => some (a + b)) x y) := by
 refine Yld.eq ?_
 unfold w_Add_S two
 refine Yld.bindE (good2 hF x y) ?_
 cases ha : iv x with
 | none => simp only [iv_none ha, Bool.false_and, Bool.not_false, if_true]; exact Yld.bindE (Bad_y F) (Yld.some rfl)
 | some a =>
  cases hb : iv y with
  | none => simp only [iv_none hb, Bool.and_false, Bool.not_false, if_true]; exact Yld.bindE (Bad_y F) (Yld.some rfl)
  | some b =>
   obtain ⟨ga, rfl, ra⟩ := iv_some hx ha
   obtain ⟨gb, rfl, rb⟩ := iv_some hy hb
   obtain ⟨wa, na⟩ := sv_big_W ra
   obtain ⟨wb, nb⟩ := sv_big_W rb
   simp only [ga, gb, Bool.and_self, Bool.not_true, Bool.false_eq_true, if_false, toB]
   refine Yld.ite (fun hn => ?_) (fun hn => ?_)
   ·have hn' : (a < 0) = (b < 0) := by
     rw [na, nb] at hn
     exact propext (decide_eq_decide.1 (eq_of_beq hn))
    refine Yld.bindE (plus_y hF (big_in a) (big_in b)) ?_
    dsimp only [un2]
    rw [wa, wb]
    have hs : (if a < 0 then -a else a) + (if b < 0 then -b else b) = if a + b < 0 then -(a + b) else a + b := by
     by_cases h1 : a < 0
     ·have h2 : b < 0 := by rw [← hn']; exact h1
      rw [if_pos h1, if_pos h2, if_pos (by omega)]; omega
     ·have h2 : ¬ b < 0 := by rw [← hn']; exact h1
      rw [if_neg h1, if_neg h2, if_neg (by omega)]
    rw [hs]
    refine Yld.ite (fun h => ?_) (fun h => ?_)
    ·refine Yld.bindE (Bad_y F) (Yld.some ?_)
     have h' : ¬ (if a + b < 0 then -(a + b) else a + b) < MM := by simpa using h
     exact (big_out (by split at h' <;> omega)).symm
    ·have h' : (if a + b < 0 then -(a + b) else a + b) < MM := by simpa using h
     refine Yld.bindE (signed_y F _ (toA_in _)) (Yld.some ?_)
     rw [av_toA, Int.emod_eq_of_lt (by split <;> omega) h', na]
     congr 1
     by_cases h1 : a < 0
     ·have h2 : b < 0 := by rw [← hn']; exact h1
      simp only [h1, decide_true, if_true]; rw [if_pos (by omega)]; omega
     ·have h2 : ¬ b < 0 := by rw [← hn']; exact h1
      simp only [h1, decide_false, Bool.false_eq_true, if_false]; rw [if_neg (by omega)]
   ·have hn' : (a < 0) ≠ (b < 0) := by
     rw [na, nb] at hn
     intro e
     have : decide (a < 0) = decide (b < 0) := decide_eq_decide.2 (Iff.of_eq e)
     rw [this] at hn; simp at hn
    have hcase : (a < 0 ∧ ¬ b < 0) ∨ (¬ a < 0 ∧ b < 0) := by
     by_cases h1 : a < 0
     ·by_cases h2 : b < 0
      ·exact absurd (propext ⟨fun _ => h2, fun _ => h1⟩) hn'
      ·exact .inl ⟨h1, h2⟩
     ·by_cases h2 : b < 0
      ·exact .inr ⟨h1, h2⟩
      ·exact absurd (propext ⟨fun h => absurd h h1, fun h => absurd h h2⟩) hn'
    refine Yld.bindE (order_y hF (big_in a) (big_in b)) ?_
    rw [wa, wb]
    refine Yld.ite (fun h => ?_) (fun h => ?_)
    ·have h' := of_decide_eq_true h
     have hle : (if b < 0 then -b else b) ≤ (if a < 0 then -a else a) := by
      by_cases h3 : (if a < 0 then -a else a) < (if b < 0 then -b else b)
      ·rw [if_pos h3] at h'; omega
      ·omega
     refine Yld.bindE (minus_y hF (big_in a) (big_in b) (by rw [wa, wb]; exact hle)) (Yld.bindE (signed_y F _ (toA_in _)) (Yld.some ?_))
     rw [wa, wb, av_toA, Int.emod_eq_of_lt (by omega) (by split <;> split <;> omega), na]
     congr 1
     rcases hcase with ⟨h1, h2⟩ | ⟨h1, h2⟩
     ·simp only [h1, h2, if_true, if_false, decide_true]; omega
     ·simp only [h1, h2, if_true, if_false, decide_false, Bool.false_eq_true]; omega
    ·have h' := of_decide_eq_false h
     have hle : (if a < 0 then -a else a) ≤ (if b < 0 then -b else b) := by
      by_cases h3 : (if a < 0 then -a else a) < (if b < 0 then -b else b)
      ·omega
      ·rw [if_neg h3] at h'; split at h' <;> omega
     refine Yld.bindE (minus_y hF (big_in b) (big_in a) (by rw [wa, wb]; exact hle)) (Yld.bindE (signed_y F _ (toA_in _)) (Yld.some ?_))
     rw [wa, wb, av_toA, Int.emod_eq_of_lt (by omega) (by split <;> split <;> omega), nb]
     congr 1
     rcases hcase with ⟨h1, h2⟩ | ⟨h1, h2⟩
     ·simp only [h1, h2, if_true, if_false, decide_false, Bool.false_eq_true]; omega
     ·simp only [h1, h2, if_true, if_false, decide_true]; omega
end Go.Proofs.YtcbbilehdaaffaaGreatDoor

namespace Go.Sk
set_option linter.unusedSimpArgs false
set_option linter.unusedVariables false
theorem pow2_le {i j : Nat} (h : i ≤ j) : (2 : Int) ^ i ≤ 2 ^ j := by
 have := Nat.pow_le_pow_right (n := 2) (by decide) h
 exact_mod_cast this
def blen (m : Int) : Int := if m ≤ 0 then 0 else (Nat.log2 m.toNat : Int) + 1
theorem blen_spec {m : Int} (h : 0 < m) : 1 ≤ blen m ∧ 2 ^ ((blen m).toNat - 1) ≤ m ∧ m < 2 ^ (blen m).toNat := by
 obtain ⟨k, rfl⟩ : ∃ k : Nat, m = k := ⟨m.toNat, by omega⟩
 have hk : k ≠ 0 := by omega
 have e : blen (k : Int) = (Nat.log2 k : Int) + 1 := by unfold blen; rw [if_neg (by omega), Int.toNat_natCast]
 rw [e]
 have e1 : ((Nat.log2 k : Int) + 1).toNat = Nat.log2 k + 1 := by omega
 rw [e1, Nat.add_sub_cancel]
 refine ⟨by omega, ?_, ?_⟩
 ·have := Nat.log2_self_le hk
  exact_mod_cast this
 ·have := @Nat.lt_log2_self k
  exact_mod_cast this
theorem blen_unique {m n : Int} (hn : 1 ≤ n) (h1 : 2 ^ (n.toNat - 1) ≤ m) (h2 : m < 2 ^ n.toNat) : blen m = n := by
 have hm : 0 < m := Int.lt_of_lt_of_le (Int.pow_pos (by decide)) h1
 obtain ⟨k, rfl⟩ : ∃ k : Nat, m = k := ⟨m.toNat, by omega⟩
 have hk : k ≠ 0 := by omega
 unfold blen
 rw [if_neg (by omega), Int.toNat_natCast]
 have a1 : 2 ^ (n.toNat - 1) ≤ k := by exact_mod_cast h1
 have a2 : k < 2 ^ n.toNat := by exact_mod_cast h2
 have b1 := (Nat.le_log2 hk).2 a1
 have b2 := (Nat.log2_lt hk).2 a2
 omega
theorem blen_zero {m : Int} (h : m ≤ 0) : blen m = 0 := if_pos h
theorem blen_nonneg (m : Int) : 0 ≤ blen m := by unfold blen; split <;> omega
theorem blen_le {m : Int} {k : Nat} (h : m < 2 ^ k) : blen m ≤ k := by
 by_cases h0 : m ≤ 0
 ·rw [blen_zero h0]; omega
 ·have h1 := blen_spec (by omega : 0 < m)
  rcases (by omega : (k : Int) < blen m ∨ blen m ≤ k) with h2 | h2
  ·have h3 : (2 : Int) ^ k ≤ 2 ^ ((blen m).toNat - 1) := pow2_le (by omega)
   omega
  ·exact h2
theorem lt_blen {m : Int} : m < 2 ^ (blen m).toNat := by
 by_cases h0 : m ≤ 0
 ·have : (0 : Int) < 2 ^ (blen m).toNat := Int.pow_pos (by decide)
  omega
 ·exact (blen_spec (by omega)).2.2
theorem blen_hi {x v : Int} {k : Nat} (hv : x / 2 ^ k = v) (h0 : 0 < v) : blen x = k + blen v := by
 have hp : (0 : Int) < 2 ^ k := Int.pow_pos (by decide)
 obtain ⟨h1, h2, h3⟩ := blen_spec h0
 have hx1 : v * 2 ^ k ≤ x := by rw [← hv]; exact Int.ediv_mul_le _ (by omega)
 have hx2 : x < (v + 1) * 2 ^ k := by rw [← hv]; exact Int.lt_ediv_add_one_mul_self _ hp
 refine blen_unique (by omega) ?_ ?_
 ·have e : (k + blen v).toNat - 1 = ((blen v).toNat - 1) + k := by omega
  rw [e, Int.pow_add]
  exact Int.le_trans (Int.mul_le_mul_of_nonneg_right h2 (by omega)) hx1
 ·have e : (k + blen v).toNat = (blen v).toNat + k := by omega
  rw [e, Int.pow_add]
  exact Int.lt_of_lt_of_le hx2 (Int.mul_le_mul_of_nonneg_right (by omega) (by omega))
theorem ior_nat (x y : Nat) (hx : x < 2 ^ 64) (hy : y < 2 ^ 64) : ior .u64 (x : Int) (y : Int) = ((x ||| y : Nat) : Int) := by
 have h : x ||| y < 2 ^ 64 := Nat.or_lt_two_pow hx hy
 unfold ior
 have e1 : (BitVec.ofInt 64 (x : Int)).toNat = x := by simp [BitVec.toNat_ofInt]; omega
 have e2 : (BitVec.ofInt 64 (y : Int)).toNat = y := by simp [BitVec.toNat_ofInt]; omega
 show IntKind.u64.wrap ((BitVec.ofInt 64 (x : Int) ||| BitVec.ofInt 64 (y : Int)).toNat : Int) = _
 rw [BitVec.toNat_or, e1, e2, wu64]
 omega
theorem ior_add {a b : Int} (k : Nat) (ha : 0 ≤ a) (ha' : a < 18446744073709551616) (hk : a % 2 ^ k = 0) (hb : 0 ≤ b) (hb' : b < 2 ^ k) (hb2 : b < 18446744073709551616) : ior .u64 a b = a + b := by
 obtain ⟨x, rfl⟩ : ∃ x : Nat, a = x := ⟨a.toNat, by omega⟩
 obtain ⟨y, rfl⟩ : ∃ y : Nat, b = y := ⟨b.toNat, by omega⟩
 rw [ior_nat x y (by omega) (by omega)]
 have hy : y < 2 ^ k := by exact_mod_cast hb'
 have hx : x % 2 ^ k = 0 := by exact_mod_cast hk
 have e : x = 2 ^ k * (x / 2 ^ k) := by have := Nat.div_add_mod x (2 ^ k); omega
 rw [e, ← Nat.two_pow_add_eq_or_of_lt hy]
 exact Int.natCast_add _ _
theorem ior_comm (a b : Int) : ior .u64 a b = ior .u64 b a := by
 unfold ior
 rw [BitVec.or_comm]
theorem av_two {a b : Int} : av ⟨a, b, 0, 0, 0, 0, 0, 0, 0, 0, 0, 0, 0, 0, 0, 0⟩ = a + b * 4294967296 := by
 simp [av, ds, dg, A16.l]
theorem in_two {a b : Int} (ha : 0 ≤ a ∧ a < 4294967296) (hb : 0 ≤ b ∧ b < 4294967296) : inD 4294967296 (A16.l ⟨a, b, 0, 0, 0, 0, 0, 0, 0, 0, 0, 0, 0, 0, 0, 0⟩) := fun i => by
 match i with
 | 0 => exact ha
 | 1 => exact hb
 | n + 2 =>
  have : dg (A16.l ⟨a, b, 0, 0, 0, 0, 0, 0, 0, 0, 0, 0, 0, 0, 0, 0⟩) (n + 2) = dg (List.replicate 14 0) n := rfl
  rw [this, dg_replicate]; decide
def sgn (z : Int) : Int := if z = 0 then 0 else if z < 0 then -1 else 1
def cmpZ (a b : Int) : Int := if a < b then -1 else if b < a then 1 else 0
def absZ (z : Int) : Int := if z < 0 then -z else z
theorem MM_big : 18446744073709551616 < MM := by rw [MM_eq]; decide
end Go.Sk
namespace Go.Proofs.YtcbbilehdaaffaaGreatDoor
open Go Go.Sk
set_option linter.unusedSimpArgs false
set_option linter.unusedVariables false
theorem Neg_y {F : Nat} (hF : 100 < F) {x : Big} (hx : inB x) : w_Neg_S F x = some (one (fun a => some (-a)) x) := by
 refine Yld.eq ?_
 unfold w_Neg_S one
 refine Yld.bindE (good1 hF x) ?_
 cases ha : iv x with
 | none => simp only [iv_none ha, Bool.not_false, if_true]; exact Yld.bindE (Bad_y F) (Yld.some rfl)
 | some a =>
  obtain ⟨ga, rfl, ra⟩ := iv_some hx ha
  obtain ⟨wa, na⟩ := sv_big_W ra
  simp only [ga, Bool.not_true, Bool.false_eq_true, if_false, toB]
  refine Yld.bindE (signed_y F _ (big_in a)) (Yld.some ?_)
  rw [wa, na]
  congr 1
  by_cases h : a < 0
  ·simp [h]
  ·simp [h]
theorem Abs_y {F : Nat} (hF : 100 < F) {x : Big} (hx : inB x) : w_Abs_S F x = some (one (fun a => some (absZ a)) x) := by
 refine Yld.eq ?_
 unfold w_Abs_S one
 refine Yld.bindE (good1 hF x) ?_
 cases ha : iv x with
 | none => simp only [iv_none ha, Bool.not_false, if_true]; exact Yld.bindE (Bad_y F) (Yld.some rfl)
 | some a =>
  obtain ⟨ga, rfl, ra⟩ := iv_some hx ha
  obtain ⟨wa, na⟩ := sv_big_W ra
  simp only [ga, Bool.not_true, Bool.false_eq_true, if_false, toB]
  refine Yld.bindE (signed_y F _ (big_in a)) (Yld.some ?_)
  simp only [wa, Bool.false_eq_true, if_false]
  rfl
theorem one_in (f : Int → Option Int) (x : Big) : inB (one f x) := by unfold one; split; exact toB_in _; exact bad_in
theorem two_in (f : Int → Int → Option Int) (x y : Big) : inB (two f x y) := by unfold two; split; exact toB_in _; exact bad_in
theorem Sub_y {F : Nat} (hF : 100 < F) {x y : Big} (hx : inB x) (hy : inB y) : w_Sub_S F x y = some (two (fun a b => some (a - b)) x y) := by
 refine Yld.eq ?_
 unfold w_Sub_S
 refine Yld.bindE (Neg_y hF hy) (Yld.bindE (Add_y hF hx (one_in _ _)) (Yld.some ?_))
 unfold two
 cases hb : iv y with
 | none =>
  have : one (fun a => some (-a)) y = bad := by simp only [one, hb]
  rw [this, iv_bad]
  cases iv x <;> rfl
 | some b =>
  obtain ⟨gb, rfl, rb⟩ := iv_some hy hb
  rw [one_big rb]
  simp only [toB]
  rw [iv_big (by omega)]
  cases iv x with
  | none => rfl
  | some a => simp only [toB, Int.sub_eq_add_neg]
theorem Sign_y {F : Nat} (hF : 100 < F) {x : Big} (hx : inB x) : w_Sign_S F x = some (match iv x with | some a => sgn a | none => 0) := by
 refine Yld.eq ?_
 unfold w_Sign_S
 refine Yld.bindE (good1 hF x) ?_
 cases ha : iv x with
 | none => simp only [iv_none ha, Bool.not_false, Bool.true_or, if_true]; exact Yld.some rfl
 | some a =>
  obtain ⟨ga, rfl, ra⟩ := iv_some hx ha
  obtain ⟨wa, na⟩ := sv_big_W ra
  simp only [ga, Bool.not_true, Bool.false_or, zero_iff (big_in a), wa, na]
  refine Yld.ite (fun h => ?_) (fun h => ?_)
  ·have h' := of_decide_eq_true h
   have : a = 0 := by split at h' <;> omega
   subst this
   exact Yld.some rfl
  ·have h' := of_decide_eq_false h
   have h0 : a ≠ 0 := fun e => h' (by rw [e]; rfl)
   unfold sgn
   refine Yld.ite (fun h => ?_) (fun h => ?_)
   ·have := of_decide_eq_true h; exact Yld.some (by rw [if_neg h0, if_pos this])
   ·have := of_decide_eq_false h; exact Yld.some (by rw [if_neg h0, if_neg this])
end Go.Proofs.YtcbbilehdaaffaaGreatDoor

namespace Go.Sk
set_option linter.unusedSimpArgs false
set_option linter.unusedVariables false
def len8 : Str := [0, 1, 2, 2, 3, 3, 3, 3, 4, 4, 4, 4, 4, 4, 4, 4, 5, 5, 5, 5, 5, 5, 5, 5, 5, 5, 5, 5, 5, 5, 5, 5, 6, 6, 6, 6, 6, 6, 6, 6, 6, 6, 6, 6, 6, 6, 6, 6, 6, 6, 6, 6, 6, 6, 6, 6, 6, 6, 6, 6, 6, 6, 6, 6, 7, 7, 7, 7, 7, 7, 7, 7, 7, 7, 7, 7, 7, 7, 7, 7, 7, 7, 7, 7, 7, 7, 7, 7, 7, 7, 7, 7, 7, 7, 7, 7, 7, 7, 7, 7, 7, 7, 7, 7, 7, 7, 7, 7, 7, 7, 7, 7, 7, 7, 7, 7, 7, 7, 7, 7, 7, 7, 7, 7, 7, 7, 7, 7, 8, 8, 8, 8, 8, 8, 8, 8, 8, 8, 8, 8, 8, 8, 8, 8, 8, 8, 8, 8, 8, 8, 8, 8, 8, 8, 8, 8, 8, 8, 8, 8, 8, 8, 8, 8, 8, 8, 8, 8, 8, 8, 8, 8, 8, 8, 8, 8, 8, 8, 8, 8, 8, 8, 8, 8, 8, 8, 8, 8, 8, 8, 8, 8, 8, 8, 8, 8, 8, 8, 8, 8, 8, 8, 8, 8, 8, 8, 8, 8, 8, 8, 8, 8, 8, 8, 8, 8, 8, 8, 8, 8, 8, 8, 8, 8, 8, 8, 8, 8, 8, 8, 8, 8, 8, 8, 8, 8, 8, 8, 8, 8, 8, 8, 8, 8, 8, 8, 8, 8, 8, 8, 8, 8, 8, 8, 8, 8]
theorem len8_fin : ∀ v : _root_.Fin 256, ((len8.getD v.val 0).toNat : Int) = blen v.val := by decide +kernel
theorem len8_at {v : Int} (h0 : 0 ≤ v) (h1 : v < 256) : ((idx len8 v).toNat : Int) = blen v := by
 obtain ⟨k, rfl⟩ : ∃ k : Nat, v = k := ⟨v.toNat, by omega⟩
 exact len8_fin ⟨k, by omega⟩
theorem len8_len : len8.length = 256 := by decide +kernel
theorem p8 : (2 : Int) ^ 8 = 256 := by decide
theorem p32 : (2 : Int) ^ 32 = 4294967296 := by decide
theorem p64 : (2 : Int) ^ 64 = 18446744073709551616 := by decide
theorem pow32 (m : Nat) : (4294967296 : Int) ^ m = 2 ^ (32 * m) := by rw [Int.pow_mul]; rfl
theorem A32.set_dg {w : A32} {i x : Int} (h0 : 0 ≤ i) (h1 : i < 32) (j : Nat) : dg (w.set i x).l j = if j = i.toNat then x else dg w.l j := by
 rw [A32.set_l, dg_set (by rw [A32.l_len]; omega)]
theorem A32.ds_set {b : Int} {w : A32} {k : Nat} {x : Int} (h : k < 32) : ds b (dg (w.set (k : Int) x).l) (k + 1) = ds b (dg w.l) k + x * b ^ k := ds_upd fun i => by rw [A32.set_dg (by omega) (by omega), Int.toNat_natCast]
theorem A32.set_in {w : A32} {i x : Int} (h : inD 4294967296 w.l) (h0 : 0 ≤ i) (h1 : i < 32) (hx : 0 ≤ x ∧ x < 4294967296) : inD 4294967296 (w.set i x).l := fun j => by
 rw [A32.set_dg h0 h1]
 split
 ·exact hx
 ·exact h j
theorem A32.zero_in : inD 4294967296 A32.zero.l := fun i => by
 have : A32.zero.l = List.replicate 32 0 := rfl
 rw [this, dg_replicate]; decide
theorem A32.zero_dg (i : Nat) : dg A32.zero.l i = 0 := by
 have : A32.zero.l = List.replicate 32 0 := rfl
 rw [this, dg_replicate]
theorem mul_bound {a b m : Int} (ha : 0 ≤ a ∧ a < m) (hb : 0 ≤ b ∧ b < m) : 0 ≤ a * b ∧ a * b ≤ (m - 1) * (m - 1) := ⟨Int.mul_nonneg ha.1 hb.1, Int.mul_le_mul (by omega) (by omega) hb.1 (by omega)⟩
theorem mul_step {b O0 O c x c' ai bk ok V : Int} {i k : Nat} (h : O + c * b ^ (i + k) = O0 + ai * b ^ i * V) (e : c + ai * bk + ok = x + c' * b) : (O + x * b ^ (i + k)) + c' * b ^ (i + k + 1) = (O0 + ok * b ^ (i + k)) + ai * b ^ i * (V + bk * b ^ k) := by
 rw [Int.pow_succ]
 have e1 : b ^ (i + k) = b ^ i * b ^ k := Int.pow_add _ _ _
 rw [e1] at *
 grind
end Go.Sk
namespace Go.Proofs.YtcbbilehdaaffaaGreatDoor
open Go Go.Sk
set_option linter.unusedSimpArgs false
set_option linter.unusedVariables false
theorem Len32_y (F : Nat) {x : Int} (h0 : 0 ≤ x) (h1 : x < 4294967296) : bits_Len32_S F x = some (blen x) := by
 refine Yld.eq ?_
 unfold bits_Len32_S
 refine Yld.bind (P := fun r => 0 ≤ r.1 ∧ r.1 < 65536 ∧ 0 ≤ r.2 ∧ r.2 ≤ 16 ∧ blen x = r.2 + blen r.1) ?_ ?_
 ·refine Yld.ite (fun h => ?_) (fun h => ?_)
  ·have := of_decide_eq_true h
   refine Yld.some ⟨by omega, by omega, by omega, by omega, ?_⟩
   exact blen_hi (k := 16) rfl (by omega)
  ·have := of_decide_eq_false h
   exact Yld.some ⟨by omega, by omega, by omega, by omega, by dsimp only; omega⟩
 ·rintro ⟨y, n⟩ ⟨y0, y1, n0, n1, e⟩
  dsimp only at y0 y1 n0 n1 e
  refine Yld.bind (P := fun r => 0 ≤ r.1 ∧ r.1 < 256 ∧ 0 ≤ r.2 ∧ r.2 ≤ 24 ∧ blen x = r.2 + blen r.1) ?_ ?_
  ·refine Yld.ite (fun h => ?_) (fun h => ?_)
   ·have := of_decide_eq_true h
    have e2 := blen_hi (x := y) (v := y / 256) (k := 8) rfl (by omega)
    refine Yld.some ⟨by omega, by omega, ?_, ?_, ?_⟩ <;> dsimp only <;> rw [wi64] <;> omega
   ·have := of_decide_eq_false h
    exact Yld.some ⟨by omega, by omega, by omega, by omega, by dsimp only; omega⟩
  ·rintro ⟨z, m⟩ ⟨z0, z1, m0, m1, e2⟩
   dsimp only at z0 z1 m0 m1 e2
   have hw : IntKind.u8.wrap z = z := by rw [wu8]; omega
   dsimp only [un2]
   rw [hw]
   refine Yld.idx (l := len8) z0 (by rw [len8_len]; omega) (Yld.ln (Yld.some ?_))
   rw [len8_at z0 z1]
   have hb := blen_le (m := z) (k := 8) (by rw [p8]; omega)
   have hb0 := blen_nonneg z
   rw [wi64' (z := blen z) (by omega) (by omega), wi64] 
   omega
theorem bits_fin {m : Nat} {v : Int} (hm : m ≤ 15) (h0 : 0 ≤ v) (h1 : v ≤ ((32 : Nat) : Int)) : IntKind.i64.wrap (IntKind.i64.wrap (32 * (m : Int)) + v) = ((32 * m : Nat) : Int) + v := by
 simp only [wi64]
 omega
theorem Bits_y {F : Nat} (hF : 100 < F) {x : Big} (hx : inB x) : w_Bits_S F x = some (match iv x with | some a => blen (absZ a) | none => 0) := by
 refine Yld.eq ?_
 unfold w_Bits_S
 refine Yld.bind (size_y hF) fun n hn => ?_
 obtain ⟨n0, n1, nz, nt⟩ := hn
 refine Yld.bindE (good1 hF x) ?_
 cases ha : iv x with
 | none => simp only [iv_none ha, Bool.not_false, Bool.true_or, if_true]; exact Yld.some rfl
 | some a =>
  obtain ⟨ga, rfl, ra⟩ := iv_some hx ha
  obtain ⟨wa, na⟩ := sv_big_W ra
  have hval : absZ a = ds 4294967296 (dg (big a).W.l) n.toNat := by
   have h1 : absZ a = av (big a).W := by rw [wa]; rfl
   rw [h1]
   exact ds_ext (by omega) nz
  simp only [ga, Bool.not_true, Bool.false_or]
  refine Yld.ite (fun h => ?_) (fun h => ?_)
  ·have h' := of_decide_eq_true h
   subst h'
   refine Yld.some ?_
   rw [hval]; rfl
  ·have h' := of_decide_eq_false h
   have hm : n.toNat = (n.toNat - 1) + 1 := by omega
   have hw : IntKind.i64.wrap (n - 1) = ((n.toNat - 1 : Nat) : Int) := by rw [wi64]; omega
   rw [hw]
   have hd := big_in a (n.toNat - 1)
   have hd0 := nt (by omega)
   refine Yld.ln (Yld.idx (by omega) (by rw [A16.l_len]; omega) ?_)
   rw [idx_dg, Int.toNat_natCast]
   refine Yld.bindE (Len32_y F hd.1 hd.2) (Yld.some ?_)
   have hb := blen_le (m := dg (big a).W.l (n.toNat - 1)) (k := 32) (by rw [p32]; omega)
   have hb0 := blen_nonneg (dg (big a).W.l (n.toNat - 1))
   have key : blen (absZ a) = ((32 * (n.toNat - 1) : Nat) : Int) + blen (dg (big a).W.l (n.toNat - 1)) := by
    refine blen_hi ?_ (by omega)
    have hp : (0 : Int) < 2 ^ (32 * (n.toNat - 1)) := Int.pow_pos (by decide)
    have hlo := ds_lt (b := 4294967296) (by decide) (f := dg (big a).W.l) (n := n.toNat - 1) fun i _ => big_in a i
    have hlo0 := ds_nonneg (b := 4294967296) (by decide) (f := dg (big a).W.l) (n := n.toNat - 1) fun i _ => (big_in a i).1
    rw [hval, hm, ds_succ, pow32, Nat.add_sub_cancel]
    rw [pow32] at hlo
    rw [Int.add_mul_ediv_right _ _ (by omega), Int.ediv_eq_zero_of_lt hlo0 hlo, Int.zero_add]
   show IntKind.i64.wrap (IntKind.i64.wrap (32 * ((n.toNat - 1 : Nat) : Int)) + blen (dg (big a).W.l (n.toNat - 1))) = blen (absZ a)
   rw [key]
   exact bits_fin (by omega) hb0 hb
theorem Of_y (F : Nat) {n : Int} (h0 : -9223372036854775808 ≤ n) (h1 : n ≤ 9223372036854775807) : w_Of_S F n = some (big n) := by
 refine Yld.eq ?_
 unfold w_Of_S
 refine Yld.bind (P := fun u => u = absZ n) ?_ ?_
 ·unfold absZ
  refine Yld.ite (fun h => ?_) (fun h => ?_)
  ·have := of_decide_eq_true h
   refine Yld.ln (Yld.some ?_)
   rw [if_pos this]
   simp only [wu64]; omega
  ·have := of_decide_eq_false h
   refine Yld.some ?_
   rw [if_neg this]
   simp only [wu64]; omega
 ·rintro u rfl
  have hu : 0 ≤ absZ n ∧ absZ n ≤ 9223372036854775808 := by unfold absZ; split <;> omega
  refine Yld.ln ?_
  refine Yld.bindE (signed_y F _ (in_two (by simp only [wu32]; omega) (by simp only [wu32]; omega))) (Yld.some ?_)
  rw [av_two]
  simp only [wu32]
  congr 1
  unfold absZ at *
  by_cases h : n < 0
  ·simp only [h, decide_true, if_true] at *; omega
  ·simp only [h, decide_false, Bool.false_eq_true, if_false] at *; omega
theorem small_val {w : A16} (h : inD 4294967296 w.l) (hv : av w < 18446744073709551616) : w.a0 + w.a1 * 4294967296 = av w := by
 have e := ds_split 4294967296 (dg w.l) 2 14
 have h2 : ds 4294967296 (dg w.l) 2 = w.a0 + w.a1 * 4294967296 := by simp [ds, dg, A16.l]
 have h3 := ds_nonneg (b := 4294967296) (by decide) (f := fun i => dg w.l (2 + i)) (n := 14) fun i _ => (h (2 + i)).1
 have a0 := h 0
 have a1 := h 1
 have e0 : dg w.l 0 = w.a0 := rfl
 have e1 : dg w.l 1 = w.a1 := rfl
 rw [e0] at a0
 rw [e1] at a1
 have hav : av w = ds 4294967296 (dg w.l) (2 + 14) := rfl
 rw [hav] at hv ⊢
 rw [e, h2] at hv ⊢
 have hp : (4294967296 : Int) ^ 2 = 18446744073709551616 := by decide
 rw [hp] at hv ⊢
 omega
theorem Small_y {F : Nat} (hF : 100 < F) {x : Big} (hx : inB x) : w_Small_S F x = some (match iv x with | some a => if -9223372036854775808 ≤ a ∧ a ≤ 9223372036854775807 then (a, true) else (0, false) | none => (0, false)) := by
 refine Yld.eq ?_
 unfold w_Small_S
 refine Yld.bindE (good1 hF x) ?_
 cases ha : iv x with
 | none =>
  simp only [iv_none ha]
  exact Yld.g0 (by rfl) (Yld.ift (by rfl) (Yld.some rfl))
 | some a =>
  obtain ⟨ga, rfl, ra⟩ := iv_some hx ha
  obtain ⟨wa, na⟩ := sv_big_W ra
  simp only [ga]
  refine Yld.g1 (by rfl) (Yld.bindE (Bits_y hF (big_in a)) ?_)
  rw [iv_big ra]
  simp only [Bool.not_true, Bool.false_or]
  refine Yld.ite (fun h => ?_) (fun h => ?_)
  ·have h' := of_decide_eq_true h
   refine Yld.some ?_
   rw [if_neg]
   intro hh
   have := blen_le (m := absZ a) (k := 64) (by rw [p64]; unfold absZ; split <;> omega)
   omega
  ·have h' := of_decide_eq_false h
   have hlt : absZ a < 18446744073709551616 := by
    have h2 := lt_blen (m := absZ a)
    have h3 : (2 : Int) ^ (blen (absZ a)).toNat ≤ 2 ^ 64 := pow2_le (by omega)
    rw [p64] at h3
    omega
   have hs := small_val (big_in a) (by rw [wa]; exact hlt)
   rw [wa] at hs
   have b0 := big_in a 0
   have b1 := big_in a 1
   have e0 : dg (big a).W.l 0 = (big a).W.a0 := rfl
   have e1 : dg (big a).W.l 1 = (big a).W.a1 := rfl
   rw [e0] at b0
   rw [e1] at b1
   have habs : absZ a = if a < 0 then -a else a := rfl
   rw [← habs] at hs
   have habs0 : 0 ≤ absZ a := by unfold absZ; split <;> omega
   refine Yld.lnE ((big a).W.a1 * 4294967296) (by simp only [wu64]; omega) (Yld.lnE (absZ a) ?_ ?_)
   ·have e2 : IntKind.u64.wrap (big a).W.a0 = (big a).W.a0 := by rw [wu64]; omega
    rw [e2, ior_add 32 (by omega) (by omega) (by rw [p32]; omega) b0.1 (by rw [p32]; omega) (by omega)]
    omega
   ·rw [na]
    refine Yld.ite (fun h => ?_) (fun h => ?_)
    ·simp only [Bool.and_eq_true, decide_eq_true_eq] at h
     rw [if_pos h.1] at habs
     refine Yld.ln (Yld.some ?_)
     rw [if_pos (by omega)]
     simp only [wu64, wi64]
     congr 1
     omega
    ·refine Yld.ite (fun h2 => ?_) (fun h2 => ?_)
     ·simp only [Bool.and_eq_true, Bool.not_eq_true', decide_eq_true_eq, decide_eq_false_iff_not] at h2
      rw [if_neg h2.1] at habs
      refine Yld.some ?_
      rw [if_pos (by omega), wi64]
      congr 1
      omega
     ·refine Yld.some ?_
      rw [if_neg]
      intro hh
      by_cases h3 : a < 0
      ·rw [if_pos h3] at habs
       simp only [h3, decide_true, Bool.true_and, decide_eq_false_iff_not] at h
       omega
      ·rw [if_neg h3] at habs
       simp only [h3, decide_false, Bool.not_false, Bool.true_and, decide_eq_false_iff_not] at h2
       omega
end Go.Proofs.YtcbbilehdaaffaaGreatDoor

namespace Go.Proofs.YtcbbilehdaaffaaGreatDoor
open Go Go.Sk
set_option linter.unusedSimpArgs false
set_option linter.unusedVariables false
theorem rValid_y {F : Nat} (hF : 100000 < F) {x : Big} (hx : inB x) : r3_Valid_S F x = some (if x.Bad = true then decide (x.W = A16.zero) && !x.Neg else !decide (x.W = A16.zero) || !x.Neg) := by
 refine Yld.eq ?_
 unfold r3_Valid_S
 refine Yld.bind (P := fun z => z = decide (x.W = A16.zero)) (Yld.rounds 16 (fun k s => s.2 = (k : Int) ∧ (s.1 = true ↔ ∀ i, i < k → dg x.W.l i = 0)) (by omega) ⟨rfl, by simp⟩ ?_) ?_
 ·rintro k ⟨z, kx⟩ hk ⟨rfl, hz⟩
  dsimp only at hz
  dsimp only [un2]
  refine Yld.ite (fun h => ?_) (fun h => ?_)
  ·have hk' : k < 16 := by have := of_decide_eq_true h; omega
   cases z with
   | true =>
    refine Yld.g1 rfl (Yld.idx (by omega) (by rw [A16.l_len]; omega) (Yld.some (.inl ⟨_, rfl, ⟨by dsimp only; rw [wi64]; omega, ?_⟩, hk'⟩)))
    simp only [idx_dg, Int.toNat_natCast, Bool.true_and]
    constructor
    ·intro h1 i hi
     by_cases e : i = k
     ·rw [e]; exact of_decide_eq_true h1
     ·exact hz.1 rfl i (by omega)
    ·intro h1; exact decide_eq_true (h1 k (by omega))
   | false =>
    refine Yld.g0 rfl (Yld.some (.inl ⟨_, rfl, ⟨by dsimp only; rw [wi64]; omega, ?_⟩, hk'⟩))
    simp only [Bool.false_and, Bool.false_eq_true, false_iff]
    intro h1
    exact absurd (hz.2 fun i hi => h1 i (by omega)) (by simp)
  ·have hk' : k = 16 := by have := of_decide_eq_false h; omega
   subst hk'
   refine Yld.some (.inr ⟨_, rfl, ?_⟩)
   rw [Bool.eq_iff_iff, hz, decide_eq_true_eq]
   constructor
   ·intro h1
    rw [zero_iff hx]
    exact ds_zero h1
   ·intro h1 i _
    rw [h1]
    have : A16.zero.l = List.replicate 16 0 := rfl
    rw [this, dg_replicate]
 ·rintro z rfl
  refine Yld.ite (fun h => ?_) (fun h => ?_)
  ·rw [h]; exact Yld.some rfl
  ·rw [h]; exact Yld.some rfl
theorem rGood_y {F : Nat} (hF : 100000 < F) {x : Big} (hx : inB x) : r3_Good_S F x = some (goodB x) := by
 refine Yld.eq ?_
 unfold r3_Good_S
 refine Yld.bindE (rValid_y hF hx) (Yld.some ?_)
 unfold goodB
 cases x.Bad <;> simp
end Go.Proofs.YtcbbilehdaaffaaGreatDoor

namespace Go.Sk
set_option linter.unusedSimpArgs false
set_option linter.unusedVariables false
theorem mulfin {c ai bk ok : Int} (h1 : 0 ≤ c ∧ c < 4294967296) (h2 : 0 ≤ ai * bk ∧ ai * bk ≤ 18446744065119617025) (h3 : 0 ≤ ok ∧ ok < 4294967296) (ha : 0 ≤ ai ∧ ai < 4294967296) (hb : 0 ≤ bk ∧ bk < 4294967296) :
  IntKind.u64.wrap (c + IntKind.u64.wrap (IntKind.u64.wrap (IntKind.u64.wrap ai * IntKind.u64.wrap bk) + IntKind.u64.wrap ok)) = c + ai * bk + ok := by
 have e1 : IntKind.u64.wrap ai = ai := by rw [wu64]; omega
 have e2 : IntKind.u64.wrap bk = bk := by rw [wu64]; omega
 rw [e1, e2]
 generalize ai * bk = p at *
 simp only [wu64]
 omega
def lo16 (o : A32) : A16 := ⟨o.a0, o.a1, o.a2, o.a3, o.a4, o.a5, o.a6, o.a7, o.a8, o.a9, o.a10, o.a11, o.a12, o.a13, o.a14, o.a15⟩
def hi16 (o : A32) : A16 := ⟨o.a16, o.a17, o.a18, o.a19, o.a20, o.a21, o.a22, o.a23, o.a24, o.a25, o.a26, o.a27, o.a28, o.a29, o.a30, o.a31⟩
theorem lo16_l (o : A32) : (lo16 o).l = o.l.take 16 := rfl
theorem hi16_l (o : A32) : (hi16 o).l = o.l.drop 16 := rfl
theorem lo16_in {o : A32} (h : inD 4294967296 o.l) : inD 4294967296 (lo16 o).l := fun i => by
 rw [lo16_l, dg_take]; split
 ·exact h i
 ·decide
theorem hi16_in {o : A32} (h : inD 4294967296 o.l) : inD 4294967296 (hi16 o).l := fun i => by
 rw [hi16_l, dg_drop]; exact h _
theorem halves (o : A32) : ds 4294967296 (dg o.l) 32 = av (lo16 o) + MM * av (hi16 o) := by
 rw [show (32 : Nat) = 16 + 16 from rfl, ds_split]
 have e1 : ds 4294967296 (dg o.l) 16 = av (lo16 o) := ds_congr fun i hi => by rw [lo16_l, dg_take, if_pos hi]
 have e2 : ds 4294967296 (fun i => dg o.l (16 + i)) 16 = av (hi16 o) := ds_congr fun i _ => by rw [hi16_l, dg_drop]
 rw [e1, e2]
 rfl
theorem absZ_mul (a b : Int) : absZ (a * b) = absZ a * absZ b := by
 unfold absZ
 by_cases ha : a < 0
 ·by_cases hb : b < 0
  ·rw [if_pos ha, if_pos hb, if_neg (by have := Int.mul_pos_of_neg_of_neg ha hb; omega), Int.neg_mul_neg]
  ·rw [if_pos ha, if_neg hb]
   have := Int.mul_nonpos_of_nonpos_of_nonneg (Int.le_of_lt ha) (by omega : 0 ≤ b)
   by_cases h0 : a * b < 0
   ·rw [if_pos h0, Int.neg_mul]
   ·rw [if_neg h0, Int.neg_mul]; omega
 ·by_cases hb : b < 0
  ·rw [if_neg ha, if_pos hb]
   have := Int.mul_nonpos_of_nonneg_of_nonpos (by omega : 0 ≤ a) (Int.le_of_lt hb)
   by_cases h0 : a * b < 0
   ·rw [if_pos h0, Int.mul_neg]
   ·rw [if_neg h0, Int.mul_neg]; omega
  ·rw [if_neg ha, if_neg hb, if_neg (by have := Int.mul_nonneg (by omega : 0 ≤ a) (by omega : 0 ≤ b); omega)]
theorem sgn_mul {a b : Int} (h : (decide (a < 0) != decide (b < 0)) = true) : a * b = -(absZ a * absZ b) := by
 rw [← absZ_mul]
 unfold absZ
 by_cases ha : a < 0
 ·have hb : ¬ b < 0 := fun hb => by simp [ha, hb] at h
  have := Int.mul_nonpos_of_nonpos_of_nonneg (Int.le_of_lt ha) (by omega : 0 ≤ b)
  split <;> omega
 ·by_cases hb : b < 0
  ·have := Int.mul_nonpos_of_nonneg_of_nonpos (by omega : 0 ≤ a) (Int.le_of_lt hb)
   split <;> omega
  ·simp [ha, hb] at h
theorem sgn_mul' {a b : Int} (h : (decide (a < 0) != decide (b < 0)) = false) : a * b = absZ a * absZ b := by
 rw [← absZ_mul]
 unfold absZ
 by_cases ha : a < 0
 ·by_cases hb : b < 0
  ·have := Int.mul_pos_of_neg_of_neg ha hb
   rw [if_neg (by omega)]
  ·simp [ha, hb] at h
 ·have hb : ¬ b < 0 := fun hb => by simp [ha, hb] at h
  have := Int.mul_nonneg (by omega : 0 ≤ a) (by omega : 0 ≤ b)
  rw [if_neg (by omega)]
theorem absZ_lt {a : Int} (h : -MM < a ∧ a < MM) : 0 ≤ absZ a ∧ absZ a < MM := by unfold absZ; split <;> omega
theorem absZ_in {a : Int} : (-MM < a ∧ a < MM) ↔ absZ a < MM := by unfold absZ; split <;> omega
end Go.Sk
namespace Go.Proofs.YtcbbilehdaaffaaGreatDoor
open Go Go.Sk
set_option linter.unusedSimpArgs false
set_option linter.unusedVariables false
theorem Mul_y {F : Nat} (hF : 100 < F) {x y : Big} (hx : inB x) (hy : inB y) : w_Mul_S F x y = some (two (fun a b => some (a * b)) x y) := by
  refine Yld.eq ?_
  unfold w_Mul_S two
  refine Yld.bindE (good2 hF x y) ?_
  cases ha : iv x with
  | none => simp only [iv_none ha, Bool.false_and, Bool.not_false, if_true]; exact Yld.bindE (Bad_y F) (Yld.some rfl)
  | some a =>
    cases hb : iv y with
    | none => simp only [iv_none hb, Bool.and_false, Bool.not_false, if_true]; exact Yld.bindE (Bad_y F) (Yld.some rfl)
    | some b =>
      obtain ⟨ga, rfl, ra⟩ := iv_some hx ha
      obtain ⟨gb, rfl, rb⟩ := iv_some hy hb
      obtain ⟨wa, na⟩ := sv_big_W ra
      obtain ⟨wb, nb⟩ := sv_big_W rb
      have ia : inD 4294967296 (big a).W.l := big_in a
      have ib : inD 4294967296 (big b).W.l := big_in b
      have habs : av (big a).W = absZ a := wa
      have hbbs : av (big b).W = absZ b := wb
      clear wa wb ha hb hx hy
      simp only [ga, gb, Bool.and_self, Bool.not_true, Bool.false_eq_true, if_false, toB, na, nb]
      generalize (big a).W = A at *
      generalize (big b).W = B at *
      refine Yld.bind (size_y hF) fun n hn => Yld.bind (size_y hF) fun m hm => ?_
      obtain ⟨n0, n1, nz, _⟩ := hn
      obtain ⟨m0, m1, mz, _⟩ := hm
      obtain ⟨N, rfl⟩ : ∃ N : Nat, n = N := ⟨n.toNat, by omega⟩
      obtain ⟨M, rfl⟩ : ∃ M : Nat, m = M := ⟨m.toNat, by omega⟩
      simp only [Int.toNat_natCast] at nz mz
      have hA : absZ a = ds 4294967296 (dg A.l) N := by rw [← habs]; exact ds_ext (by omega) nz
      have hB : absZ b = ds 4294967296 (dg B.l) M := by rw [← hbbs]; exact ds_ext (by omega) mz
      refine Yld.bind (P := fun out => inD 4294967296 out.l ∧ ds 4294967296 (dg out.l) 32 = absZ a * absZ b) (Yld.rounds N (fun i s => s.2 = (i : Int) ∧ inD 4294967296 s.1.l ∧ (∀ j, i + M ≤ j → dg s.1.l j = 0) ∧ ds 4294967296 (dg s.1.l) (i + M) = ds 4294967296 (dg A.l) i * absZ b) (by omega) ⟨rfl, A32.zero_in, fun j _ => A32.zero_dg j, ?_⟩ ?_) ?_
      · show ds 4294967296 (dg A32.zero.l) (0 + M) = 0 * absZ b
        rw [Int.zero_mul]
        exact ds_zero fun j _ => A32.zero_dg j
      · rintro i ⟨o0, ix⟩ hi ⟨rfl, oin, oz, os⟩
        dsimp only at oin oz os
        dsimp only [un2]
        refine Yld.ite (fun h => ?_) (fun h => ?_)
        · have hi' : i < N := by have := of_decide_eq_true h; omega
          have hai := ia i
          refine Yld.bind (P := fun o1 => inD 4294967296 o1.l ∧ (∀ j, i + 1 + M ≤ j → dg o1.l j = 0) ∧ ds 4294967296 (dg o1.l) (i + 1 + M) = ds 4294967296 (dg A.l) (i + 1) * absZ b) ?_ ?_
          · refine Yld.bind (P := fun r => inD 4294967296 r.1.l ∧ 0 ≤ r.2 ∧ r.2 < 4294967296 ∧ (∀ j, i + M ≤ j → dg r.1.l j = dg o0.l j) ∧ ds 4294967296 (dg r.1.l) (i + M) + r.2 * 4294967296 ^ (i + M) = ds 4294967296 (dg o0.l) (i + M) + dg A.l i * 4294967296 ^ i * ds 4294967296 (dg B.l) M)
              (Yld.rounds M (fun k s => s.2.2 = (k : Int) ∧ inD 4294967296 s.1.l ∧ 0 ≤ s.2.1 ∧ s.2.1 < 4294967296 ∧ (∀ j, i + k ≤ j → dg s.1.l j = dg o0.l j) ∧ ds 4294967296 (dg s.1.l) (i + k) + s.2.1 * 4294967296 ^ (i + k) = ds 4294967296 (dg o0.l) (i + k) + dg A.l i * 4294967296 ^ i * ds 4294967296 (dg B.l) k) (by omega) ⟨rfl, oin, Int.le_refl _, (by decide : (0 : Int) < 4294967296), fun _ _ => rfl, ?_⟩ ?_) ?_
            · show ds 4294967296 (dg o0.l) (i + 0) + 0 * 4294967296 ^ (i + 0) = ds 4294967296 (dg o0.l) (i + 0) + dg A.l i * 4294967296 ^ i * 0
              rw [Int.zero_mul, Int.mul_zero]
            · rintro k ⟨o, c, kx⟩ hk ⟨rfl, pin, c0, c1, pk, ps⟩
              dsimp only at pin c0 c1 pk ps
              dsimp only [un3]
              refine Yld.ite (fun h2 => ?_) (fun h2 => ?_)
              · have hk' : k < M := by have := of_decide_eq_true h2; omega
                have hw : IntKind.i64.wrap ((i : Int) + (k : Int)) = ((i + k : Nat) : Int) := by rw [wi64]; omega
                have hbk := ib k
                have hok := pin (i + k)
                rw [hw]
                have hmb := mul_bound hai hbk
                have hfin := mulfin ⟨c0, c1⟩ (by have e : ((4294967296 : Int) - 1) * (4294967296 - 1) = 18446744065119617025 := by decide
                                                 rw [e] at hmb; exact hmb) hok hai hbk
                have hlt : c + dg A.l i * dg B.l k + dg o.l (i + k) ≤ 18446744073709551615 := by
                  have e : ((4294967296 : Int) - 1) * (4294967296 - 1) = 18446744065119617025 := by decide
                  rw [e] at hmb
                  omega
                refine Yld.idx (by omega) (by rw [A16.l_len]; omega) (Yld.idx (by omega) (by rw [A16.l_len]; omega) (Yld.idx (by omega) (by rw [A32.l_len]; omega) (Yld.ln (Yld.idx (by omega) (by rw [A32.l_len]; omega) (Yld.ln (Yld.some (.inl ⟨_, rfl, ?_, hk'⟩)))))))
                simp only [idx_dg, Int.toNat_natCast]
                rw [hfin]
                generalize hp : dg A.l i * dg B.l k = p at *
                have hmb0 := hmb.1
                clear hfin hmb
                refine ⟨by rw [wi64]; omega, A32.set_in pin (by omega) (by omega) (by rw [wu32]; omega), by omega, by omega, fun j hj => ?_, ?_⟩
                · rw [A32.set_dg (by omega) (by omega), Int.toNat_natCast, if_neg (by omega)]
                  exact pk j (by omega)
                · have hok0 := pk (i + k) (Nat.le_refl _)
                  show ds 4294967296 (dg (A32.set o ((i + k : Nat) : Int) _).l) (i + k + 1) + _ * 4294967296 ^ (i + k + 1) = ds 4294967296 (dg o0.l) (i + k + 1) + dg A.l i * 4294967296 ^ i * ds 4294967296 (dg B.l) (k + 1)
                  rw [A32.ds_set (by omega), ds_succ 4294967296 (dg o0.l), ds_succ 4294967296 (dg B.l), ← hok0]
                  refine mul_step ps ?_
                  rw [hp, wu32]
                  omega
              · have hk' : k = M := by have := of_decide_eq_false h2; omega
                subst hk'
                exact Yld.some (.inr ⟨_, rfl, pin, c0, c1, pk, ps⟩)
            · rintro ⟨o, c⟩ ⟨pin, c0, c1, pk, ps⟩
              dsimp only at pin c0 c1 pk ps
              dsimp only [un2]
              have hw : IntKind.i64.wrap ((i : Int) + (M : Int)) = ((i + M : Nat) : Int) := by rw [wi64]; omega
              rw [hw]
              refine Yld.idx (by omega) (by rw [A32.l_len]; omega) (Yld.some ?_)
              have hwc : IntKind.u32.wrap c = c := by rw [wu32]; omega
              rw [hwc]
              refine ⟨A32.set_in pin (by omega) (by omega) ⟨c0, c1⟩, fun j hj => ?_, ?_⟩
              · rw [A32.set_dg (by omega) (by omega), Int.toNat_natCast, if_neg (by omega), pk j (by omega), oz j (by omega)]
              · have e : i + 1 + M = i + M + 1 := by omega
                rw [e, A32.ds_set (by omega), ps, os, ds_succ, ← hB, Int.add_mul]
          · rintro o1 ⟨h1, h2, h3⟩
            exact Yld.some (.inl ⟨_, rfl, ⟨by rw [wi64]; omega, h1, h2, h3⟩, hi'⟩)
        · have hi' : i = N := by have := of_decide_eq_false h; omega
          subst hi'
          refine Yld.some (.inr ⟨_, rfl, oin, ?_⟩)
          rw [hA, ← os]
          exact ds_ext (by omega) fun j h1 _ => oz j h1
      · rintro out ⟨oin, os⟩
        rw [halves] at os
        have rl := av_range (lo16_in oin)
        have rh := av_range (hi16_in oin)
        refine Yld.ln ?_
        show Yld (if decide (hi16 out ≠ A16.zero) = true then _ else _) _
        refine Yld.ite (fun h => ?_) (fun h => ?_)
        · have h' := of_decide_eq_true h
          have h1 : av (hi16 out) ≠ 0 := fun e => h' ((zero_iff (hi16_in oin)).2 e)
          refine Yld.bindE (Bad_y F) (Yld.some ?_)
          refine (big_out ?_).symm
          rw [absZ_in, absZ_mul, ← os]
          have h2 : MM * 1 ≤ MM * av (hi16 out) := Int.mul_le_mul_of_nonneg_left (by omega) (Int.le_of_lt MM_pos)
          omega
        · have h' : hi16 out = A16.zero := by simpa using h
          have h1 : av (hi16 out) = 0 := by rw [h', av_zero]
          rw [h1, Int.mul_zero, Int.add_zero] at os
          show Yld (Option.bind (w_signed_S F (decide (a < 0) != decide (b < 0)) (lo16 out)) _) _
          refine Yld.bindE (signed_y F _ (lo16_in oin)) (Yld.some ?_)
          rw [os]
          congr 1
          cases hs : (decide (a < 0) != decide (b < 0)) with
          | true => rw [if_pos rfl, sgn_mul hs]
          | false => rw [if_neg (by simp), sgn_mul' hs]
end Go.Proofs.YtcbbilehdaaffaaGreatDoor

namespace Go.Sk
set_option linter.unusedSimpArgs false
set_option linter.unusedVariables false
def lv (l : List Int) : Int := ds 65536 (dg l) l.length
def Tight (l : List Int) : Prop := 0 < l.length → dg l (l.length - 1) ≠ 0
theorem lv_at {l : List Int} {n : Nat} (h : l.length ≤ n) : ds 65536 (dg l) n = lv l := ds_ext h fun i h1 _ => dg_ge h1
theorem lv_nil : lv [] = 0 := rfl
theorem lv_nonneg {l : List Int} (h : inD 65536 l) : 0 ≤ lv l := ds_nonneg (by decide) fun i _ => (h i).1
theorem lv_lt {l : List Int} (h : inD 65536 l) : lv l < 65536 ^ l.length := ds_lt (by decide) fun i _ => h i
theorem lv_ge {l : List Int} (h : inD 65536 l) (ht : Tight l) (h0 : 0 < l.length) : 65536 ^ (l.length - 1) ≤ lv l := by
 have e : l.length = (l.length - 1) + 1 := by omega
 have h1 := ht h0
 have h2 := h (l.length - 1)
 have h3 := ds_nonneg (b := 65536) (by decide) (f := dg l) (n := l.length - 1) fun i _ => (h i).1
 unfold lv
 rw [e, ds_succ, Nat.add_sub_cancel]
 have h4 : 1 * (65536 : Int) ^ (l.length - 1) ≤ dg l (l.length - 1) * 65536 ^ (l.length - 1) := Int.mul_le_mul_of_nonneg_right (by omega) (Int.le_of_lt (Int.pow_pos (by decide)))
 omega
theorem pow_le65 {i j : Nat} (h : i ≤ j) : (65536 : Int) ^ i ≤ 65536 ^ j := pow_mono (by decide) h
theorem llen_le {l : List Int} {n : Nat} (h : inD 65536 l) (ht : Tight l) (hv : lv l < 65536 ^ n) : l.length ≤ n := by
 rcases Nat.lt_or_ge n l.length with h1 | h1
 ·have h2 := lv_ge h ht (by omega)
  have h3 := pow_le65 (show n ≤ l.length - 1 by omega)
  omega
 ·exact h1
theorem lv_pos {l : List Int} (h : inD 65536 l) (ht : Tight l) : l = [] ↔ lv l = 0 := by
 constructor
 ·rintro rfl; rfl
 ·intro e
  have := llen_le (n := 0) h ht (by rw [e]; decide)
  exact List.eq_nil_of_length_eq_zero (by omega)
theorem len_pos {l : List Int} (h : inD 65536 l) (ht : Tight l) : 0 < l.length ↔ lv l ≠ 0 := by
 rw [ne_eq, ← lv_pos h ht]
 constructor
 ·intro h1 e; subst e; simp at h1
 ·intro h1; exact List.length_pos_iff.2 h1
theorem nil_in : inD 65536 [] := fun i => by rw [dg_nil]; decide
theorem app_in {l m : List Int} (hl : inD 65536 l) (hm : inD 65536 m) : inD 65536 (l ++ m) := fun i => by
 rw [dg_append]; split
 ·exact hl i
 ·exact hm _
theorem one_inD {b x : Int} (hb : 0 < b) (h : 0 ≤ x ∧ x < b) : inD b [x] := fun i => by
 cases i with
 | zero => exact h
 | succ i => exact ⟨Int.le_refl _, hb⟩
theorem ds_app {b : Int} (l m : List Int) (n : Nat) : ds b (dg (l ++ m)) (l.length + n) = ds b (dg l) l.length + b ^ l.length * ds b (dg m) n := by
 rw [ds_split]
 congr 1
 ·exact ds_congr fun i hi => by rw [dg_append, if_pos hi]
 ·congr 1
  exact ds_congr fun i _ => by rw [dg_append, if_neg (by omega), Nat.add_sub_cancel_left]
theorem lv_app (l m : List Int) : lv (l ++ m) = lv l + 65536 ^ l.length * lv m := by
 unfold lv
 rw [List.length_append, ds_app]
theorem lv_one (x : Int) : lv [x] = x := by simp [lv, ds, dg]
theorem take_in {b : Int} {l : List Int} {n : Nat} (hb : 0 < b) (h : inD b l) : inD b (l.take n) := fun i => by
 rw [dg_take]; split
 ·exact h i
 ·exact ⟨Int.le_refl _, hb⟩
theorem av_set {w : A16} {k : Nat} {x : Int} (hk : k < 16) : av (w.set (k : Int) x) = av w + (x - dg w.l k) * 4294967296 ^ k := by
 unfold av
 have e : (16 : Nat) = (k + 1) + (15 - k) := by omega
 rw [e, ds_split, ds_split 4294967296 (dg w.l), A16.ds_set hk, ds_succ]
 have : ds 4294967296 (fun i => dg (w.set (k : Int) x).l (k + 1 + i)) (15 - k) = ds 4294967296 (fun i => dg w.l (k + 1 + i)) (15 - k) := ds_congr fun i _ => by
  rw [set_dg (by omega) (by omega), Int.toNat_natCast, if_neg (by omega)]
 rw [this, Int.sub_mul]
 omega
theorem pow65 (j : Nat) : (65536 : Int) ^ (2 * j) = 4294967296 ^ j := by rw [Int.pow_mul]; rfl
theorem pow65' (j : Nat) : (65536 : Int) ^ (2 * j + 1) = 4294967296 ^ j * 65536 := by rw [Int.pow_succ, pow65]
theorem MM65 : MM = 65536 ^ 32 := by unfold MM; rw [← pow65]
end Go.Sk
namespace Go.Proofs.YtcbbilehdaaffaaGreatDoor
open Go Go.Sk
set_option linter.unusedSimpArgs false
set_option linter.unusedVariables false
abbrev Trim (l c : List Int) : Prop := inD 65536 c ∧ Tight c ∧ lv c = lv l ∧ c.length ≤ l.length
theorem trim_y {F : Nat} {l : List Int} (hF : l.length < F) (hl : l.length ≤ 100000) (hin : inD 65536 l) : Yld (r3_trim_S F l) (Trim l) := by
 unfold r3_trim_S
 refine Yld.bind (P := fun (n : Int) => 0 ≤ n ∧ n ≤ l.length ∧ (∀ i, n.toNat ≤ i → dg l i = 0) ∧ (0 < n → dg l (n.toNat - 1) ≠ 0)) (Yld.rounds l.length (fun k s => s = (l.length : Int) - (k : Int) ∧ ∀ i, l.length ≤ i + k → dg l i = 0) hF ⟨by omega, fun i h1 => dg_ge (by omega)⟩ ?_) ?_
 ·rintro k n hk ⟨rfl, he⟩
  by_cases hk' : k < l.length
  ·have hw : IntKind.i64.wrap ((l.length : Int) - (k : Int) - 1) = ((l.length - 1 - k : Nat) : Int) := by rw [wi64]; omega
   have hd : decide (0 < (l.length : Int) - (k : Int)) = true := decide_eq_true (by omega)
   refine Yld.g1 hd (Yld.idx (by rw [hw]; omega) (by rw [hw]; omega) ?_)
   rw [hw, hd]
   simp only [idx_dg, Int.toNat_natCast, Bool.true_and]
   refine Yld.ite (fun h => ?_) (fun h => ?_)
   ·have h' := of_decide_eq_true h
    refine Yld.some (.inl ⟨_, rfl, ⟨by omega, fun i h1 => ?_⟩, hk'⟩)
    by_cases e : i = l.length - 1 - k
    ·rw [e]; exact h'
    ·exact he i (by omega)
   ·have h' := of_decide_eq_false h
    refine Yld.some (.inr ⟨_, rfl, by omega, by omega, fun i h1 => he i (by omega), fun _ => ?_⟩)
    have : ((l.length : Int) - (k : Int)).toNat - 1 = l.length - 1 - k := by omega
    rw [this]; exact h'
  ·have hk2 : k = l.length := by omega
   subst hk2
   refine Yld.g0 (by simp) ?_
   refine Yld.iff (by simp) (Yld.some (.inr ⟨_, rfl, by omega, by omega, fun i _ => he i (by omega), fun h => by omega⟩))
 ·rintro n ⟨n0, n1, nz, nt⟩
  refine Yld.take n0 n1 (Yld.some ?_)
  have hlen : (l.take n.toNat).length = n.toNat := by simp; omega
  refine ⟨take_in (by decide) hin, fun h => ?_, ?_, by omega⟩
  ·rw [hlen] at h ⊢
   rw [dg_take, if_pos (by omega)]
   exact nt (by omega)
  ·unfold lv
   rw [hlen]
   have e1 : ds 65536 (dg (l.take n.toNat)) n.toNat = ds 65536 (dg l) n.toNat := ds_congr fun i hi => by rw [dg_take, if_pos hi]
   rw [e1]
   exact (ds_ext (by omega) fun i h1 _ => nz i h1).symm
theorem digit_y (F : Nat) {l : List Int} {k : Int} (h0 : 0 ≤ k) : r3_digit_S F l k = some (dg l k.toNat) := by
 refine Yld.eq ?_
 unfold r3_digit_S
 refine Yld.ite (fun h => ?_) (fun h => ?_)
 ·have := of_decide_eq_true h
  exact Yld.idx h0 this (Yld.some rfl)
 ·have := of_decide_eq_false h
  exact Yld.some (dg_ge (by omega)).symm
theorem rplus_y {F : Nat} (hF : 100000 < F) {a b : List Int} (ha : inD 65536 a) (hb : inD 65536 b) (la : a.length ≤ 9999) (lb : b.length ≤ 9999) :
  Yld (r3_plus_S F a b) fun c => inD 65536 c ∧ Tight c ∧ lv c = lv a + lv b ∧ c.length ≤ max a.length b.length + 1 := by
 unfold r3_plus_S
 obtain ⟨m, hm⟩ : ∃ m : Nat, m = max a.length b.length := ⟨_, rfl⟩
 have hmi : (max (a.length : Int) (b.length : Int)) = (m : Int) := by omega
 have hw : IntKind.i64.wrap ((m : Int) + 1) = ((m + 1 : Nat) : Int) := by rw [wi64]; omega
 refine Yld.bind (P := fun o => inD 65536 o ∧ o.length = m + 1 ∧ lv o = lv a + lv b) (Yld.rounds (m + 1) (fun k s => s.2.2 = (k : Int) ∧ inD 65536 s.1 ∧ s.1.length = k ∧ 0 ≤ s.2.1 ∧ s.2.1 ≤ 1 ∧ ds 65536 (dg a) k + ds 65536 (dg b) k = lv s.1 + s.2.1 * 65536 ^ k) (by omega) ⟨rfl, nil_in, rfl, Int.le_refl _, (by decide : (0 : Int) ≤ 1), rfl⟩ ?_) ?_
 ·rintro k ⟨o, c, kx⟩ hk ⟨rfl, oin, ol, c0, c1, os⟩
  dsimp only at oin ol c0 c1 os
  dsimp only [un3]
  refine Yld.lnE (m : Int) hmi ?_
  rw [hw]
  refine Yld.ite (fun h => ?_) (fun h => ?_)
  ·have hk' : k < m + 1 := by have := of_decide_eq_true h; omega
   have h1 := ha k
   have h2 := hb k
   refine Yld.bindE (digit_y F (by omega)) (Yld.bindE (digit_y F (by omega)) ?_)
   simp only [Int.toNat_natCast]
   refine Yld.lnE (dg a k + dg b k + c) (by simp only [wi64]; omega) ?_
   have ht : Int.tmod (dg a k + dg b k + c) 65536 = (dg a k + dg b k + c) % 65536 := tmod_pos (by omega)
   refine Yld.app (by simp; omega) (Yld.quo (by decide) (Yld.some (.inl ⟨_, rfl, ?_, hk'⟩)))
   rw [ht, tdiv_pos (by omega)]
   dsimp only
   refine ⟨by rw [wi64]; omega, app_in oin (one_inD (by decide) (by omega)), by simp [ol], by rw [wi64]; omega, by rw [wi64]; omega, ?_⟩
   rw [ds_succ, ds_succ, lv_app, lv_one, ol]
   have hq : IntKind.i64.wrap ((dg a k + dg b k + c) / 65536) = (dg a k + dg b k + c) / 65536 := by rw [wi64]; omega
   rw [hq, Int.mul_comm ((65536 : Int) ^ k)]
   exact carry_step os (by omega)
  ·have hk' : k = m + 1 := by have := of_decide_eq_false h; omega
   subst hk'
   refine Yld.some (.inr ⟨_, rfl, oin, ol, ?_⟩)
   rw [lv_at (by omega), lv_at (by omega)] at os
   have r1 := lv_lt ha
   have r2 := lv_lt hb
   have p1 := pow_le65 (show a.length ≤ m by omega)
   have p2 := pow_le65 (show b.length ≤ m by omega)
   have p3 : (65536 : Int) ^ (m + 1) = 65536 ^ m * 65536 := Int.pow_succ _ _
   have r3 := lv_nonneg oin
   have p0 : (0 : Int) < 65536 ^ m := Int.pow_pos (by decide)
   have : c = 0 := by
    rcases (by omega : c = 0 ∨ c = 1) with h | h
    ·exact h
    ·subst h; omega
   subst this
   omega
 ·rintro o ⟨oin, ol, os⟩
  refine Yld.bind (trim_y (by omega) (by omega) oin) fun c hc => Yld.some ⟨hc.1, hc.2.1, by rw [hc.2.2.1, os], by have := hc.2.2.2; omega⟩
theorem rminus_y {F : Nat} (hF : 100000 < F) {a b : List Int} (ha : inD 65536 a) (hb : inD 65536 b) (la : a.length ≤ 9999) (lb : b.length ≤ 9999) (hle : lv b ≤ lv a) :
  Yld (r3_minus_S F a b) fun c => inD 65536 c ∧ Tight c ∧ lv c = lv a - lv b ∧ c.length ≤ a.length := by
 unfold r3_minus_S
 have hbn : ds 65536 (dg b) a.length = lv b := by
  have e := ds_split 65536 (dg b) a.length b.length
  rw [lv_at (by omega)] at e
  have h1 := ds_nonneg (b := 65536) (by decide) (f := fun i => dg b (a.length + i)) (n := b.length) fun i _ => (hb _).1
  have h2 := ds_nonneg (b := 65536) (by decide) (f := dg b) (n := a.length) fun i _ => (hb _).1
  have h3 := lv_lt ha
  rcases (by omega : ds 65536 (fun i => dg b (a.length + i)) b.length = 0 ∨ 1 ≤ ds 65536 (fun i => dg b (a.length + i)) b.length) with h4 | h4
  ·rw [h4] at e; omega
  ·have h5 : (65536 : Int) ^ a.length * 1 ≤ 65536 ^ a.length * ds 65536 (fun i => dg b (a.length + i)) b.length := Int.mul_le_mul_of_nonneg_left h4 (Int.le_of_lt (Int.pow_pos (by decide)))
   omega
 refine Yld.bind (P := fun o => inD 65536 o ∧ o.length = a.length ∧ lv o = lv a - lv b) (Yld.rounds a.length (fun k s => s.2.2 = (k : Int) ∧ inD 65536 s.1 ∧ s.1.length = k ∧ 0 ≤ s.2.1 ∧ s.2.1 ≤ 1 ∧ ds 65536 (dg a) k + s.2.1 * 65536 ^ k = ds 65536 (dg b) k + lv s.1) (by omega) ⟨rfl, nil_in, rfl, Int.le_refl _, (by decide : (0 : Int) ≤ 1), rfl⟩ ?_) ?_
 ·rintro k ⟨o, c, kx⟩ hk ⟨rfl, oin, ol, c0, c1, os⟩
  dsimp only at oin ol c0 c1 os
  dsimp only [un3]
  refine Yld.ite (fun h => ?_) (fun h => ?_)
  ·have hk' : k < a.length := by have := of_decide_eq_true h; omega
   have h1 := ha k
   have h2 := hb k
   refine Yld.bind (P := fun r => inD 65536 r.1 ∧ r.1.length = k + 1 ∧ 0 ≤ r.2 ∧ r.2 ≤ 1 ∧ ds 65536 (dg a) (k + 1) + r.2 * 65536 ^ (k + 1) = ds 65536 (dg b) (k + 1) + lv r.1) ?_ ?_
   ·refine Yld.idx (by omega) (by omega) (Yld.bindE (digit_y F (by omega)) ?_)
    simp only [idx_dg, Int.toNat_natCast]
    have e0 : IntKind.i64.wrap (IntKind.i64.wrap (dg a k - dg b k) - c) = dg a k - dg b k - c := by simp only [wi64]; omega
    refine Yld.bind (P := fun r => 0 ≤ r.1 ∧ r.1 ≤ 1 ∧ 0 ≤ r.2 ∧ r.2 < 65536 ∧ dg a k - dg b k - c = r.2 - r.1 * 65536) ?_ ?_
    ·refine Yld.lnE _ e0 (Yld.ite (fun h3 => ?_) (fun h3 => ?_))
     ·have h3' := of_decide_eq_true h3
      refine Yld.lnE _ e0 (Yld.some ?_)
      refine ⟨(by decide : (0 : Int) ≤ 1), (by decide : (1 : Int) ≤ 1), ?_, ?_, ?_⟩ <;> dsimp only <;> rw [wi64] <;> omega
     ·have h3' := of_decide_eq_false h3
      refine Yld.some ?_
      refine ⟨(by decide : (0 : Int) ≤ 0), (by decide : (0 : Int) ≤ 1), ?_, ?_, ?_⟩ <;> dsimp only <;> rw [e0] <;> omega
    ·rintro ⟨bo, x⟩ ⟨b0, b1, x0, x1, e⟩
     dsimp only at b0 b1 x0 x1 e
     dsimp only [un2]
     refine Yld.app (by simp; omega) (Yld.some ⟨app_in oin (one_inD (by decide) ⟨x0, x1⟩), by simp [ol], b0, b1, ?_⟩)
     dsimp only
     rw [ds_succ, ds_succ, lv_app, lv_one, ol, Int.mul_comm ((65536 : Int) ^ k)]
     exact borrow_step os e
   ·rintro ⟨o1, bo⟩ ⟨q1, q2, q3, q4, q5⟩
    exact Yld.some (.inl ⟨_, rfl, ⟨by dsimp only; rw [wi64]; omega, q1, q2, q3, q4, q5⟩, hk'⟩)
  ·have hk' : k = a.length := by have := of_decide_eq_false h; omega
   subst hk'
   refine Yld.some (.inr ⟨_, rfl, oin, ol, ?_⟩)
   rw [hbn] at os
   have r3 := lv_lt oin
   rw [ol] at r3
   have hl : ds 65536 (dg a) a.length = lv a := rfl
   rw [hl] at os
   have : c = 0 := by
    rcases (by omega : c = 0 ∨ c = 1) with h | h
    ·exact h
    ·subst h; omega
   subst this
   omega
 ·rintro o ⟨oin, ol, os⟩
  refine Yld.bind (trim_y (by omega) (by omega) oin) fun c hc => Yld.some ⟨hc.1, hc.2.1, by rw [hc.2.2.1, os], by have := hc.2.2.2; omega⟩
theorem less_y {F : Nat} (hF : 100000 < F) {a b : List Int} (ha : inD 65536 a) (hb : inD 65536 b) (la : a.length ≤ 9999) (lb : b.length ≤ 9999) : r3_less_S F a b = some (decide (lv a < lv b)) := by
 refine Yld.eq ?_
 unfold r3_less_S
 obtain ⟨m, hm⟩ : ∃ m : Nat, m = max a.length b.length := ⟨_, rfl⟩
 have hmi : (max (a.length : Int) (b.length : Int)) = (m : Int) := by omega
 have hw : IntKind.i64.wrap ((m : Int) - 1) = (m : Int) - 1 := by rw [wi64]; omega
 have va : ds 65536 (dg a) m = lv a := lv_at (by omega)
 have vb : ds 65536 (dg b) m = lv b := lv_at (by omega)
 refine Yld.bind (P := fun r => match r with | .inl _ => lv a = lv b | .inr y => y = decide (lv a < lv b)) ?_ ?_
 ·refine Yld.lnE _ hmi ?_
  rw [hw]
  refine Yld.rounds m (fun k s => s = (m : Int) - 1 - (k : Int) ∧ ∀ i, m ≤ i + k → i < m → dg a i = dg b i) (by omega) ⟨by omega, fun i h1 h2 => by omega⟩ ?_
  rintro k i hk ⟨rfl, he⟩
  refine Yld.ite (fun h => ?_) (fun h => ?_)
  ·have hk' : k < m := by have := of_decide_eq_true h; omega
   have et : ((m : Int) - 1 - (k : Int)).toNat = m - 1 - k := by omega
   refine Yld.bindE (digit_y F (by omega)) (Yld.bindE (digit_y F (by omega)) (Yld.ite (fun hne => ?_) (fun heq => ?_)))
   ·refine Yld.bindE (digit_y F (by omega)) (Yld.bindE (digit_y F (by omega)) (Yld.some (.inr ⟨_, rfl, ?_⟩)))
    have hne' := of_decide_eq_true hne
    rw [et] at hne' ⊢
    show decide _ = decide _
    rw [decide_eq_decide, ← va, ← vb]
    constructor
    ·intro h1
     exact ds_lt_of (by decide) (k := m - 1 - k) (by omega) ha hb (fun i h2 h3 => he i (by omega) h3) h1
    ·intro h1
     rcases (by omega : dg a (m - 1 - k) < dg b (m - 1 - k) ∨ dg b (m - 1 - k) < dg a (m - 1 - k)) with h2 | h2
     ·exact h2
     ·have := ds_lt_of (b := 65536) (by decide) (k := m - 1 - k) (n := m) (by omega) hb ha (fun i h2 h3 => (he i (by omega) h3).symm) h2
      omega
   ·have heq' : dg a (m - 1 - k) = dg b (m - 1 - k) := by rw [et] at heq; simpa using heq
    refine Yld.some (.inl ⟨_, rfl, ⟨by rw [wi64]; omega, fun i h1 h2 => ?_⟩, hk'⟩)
    by_cases e : i = m - 1 - k
    ·rw [e]; exact heq'
    ·exact he i (by omega) h2
  ·have hk' : k = m := by have := of_decide_eq_false h; omega
   subst hk'
   refine Yld.some (.inr ⟨_, rfl, ?_⟩)
   show lv a = lv b
   rw [← va, ← vb]
   exact ds_congr fun i hi => he i (by omega) hi
 ·rintro (u | y) h
  ·have h' : lv a = lv b := h
   exact Yld.some (by rw [h']; simp)
  ·exact Yld.some h
end Go.Proofs.YtcbbilehdaaffaaGreatDoor

namespace Go.Sk
set_option linter.unusedSimpArgs false
set_option linter.unusedVariables false
theorem four_in {a b c d : Int} (ha : 0 ≤ a ∧ a < 65536) (hb : 0 ≤ b ∧ b < 65536) (hc : 0 ≤ c ∧ c < 65536) (hd : 0 ≤ d ∧ d < 65536) : inD 65536 [a, b, c, d] := fun i => by
 match i with
 | 0 => exact ha
 | 1 => exact hb
 | 2 => exact hc
 | 3 => exact hd
 | n + 4 => exact ⟨Int.le_refl _, (by decide : (0 : Int) < 65536)⟩
theorem lv_four (a b c d : Int) : lv [a, b, c, d] = a + b * 65536 + c * 4294967296 + d * 281474976710656 := by simp [lv, ds, dg]
theorem two_inD {x y : Int} (hx : 0 ≤ x ∧ x < 65536) (hy : 0 ≤ y ∧ y < 65536) : inD 65536 [x, y] := fun i => by
 match i with
 | 0 => exact hx
 | 1 => exact hy
 | n + 2 => exact ⟨Int.le_refl _, (by decide : (0 : Int) < 65536)⟩
theorem lv_two (x y : Int) : lv [x, y] = x + y * 65536 := by simp [lv, ds, dg]
end Go.Sk
namespace Go.Proofs.YtcbbilehdaaffaaGreatDoor
open Go Go.Sk
set_option linter.unusedSimpArgs false
set_option linter.unusedVariables false
theorem rBad_y (F : Nat) : r3_Bad_S F = some bad := rfl
theorem digits_y {F : Nat} (hF : 100000 < F) {x : Big} (hx : inB x) : Yld (r3_digits_S F x) fun c => inD 65536 c ∧ Tight c ∧ lv c = av x.W ∧ c.length ≤ 32 := by
 unfold r3_digits_S
 refine Yld.bind (P := fun o => inD 65536 o ∧ o.length = 32 ∧ lv o = av x.W) (Yld.rounds 16 (fun k s => s.2 = (k : Int) ∧ inD 65536 s.1 ∧ s.1.length = 2 * k ∧ lv s.1 = ds 4294967296 (dg x.W.l) k) (by omega) ⟨rfl, nil_in, rfl, rfl⟩ ?_) ?_
 ·rintro k ⟨o, kx⟩ hk ⟨rfl, oin, ol, os⟩
  dsimp only at oin ol os
  dsimp only [un2]
  refine Yld.ite (fun h => ?_) (fun h => ?_)
  ·have hk' : k < 16 := by have := of_decide_eq_true h; omega
   have hd := hx k
   refine Yld.idx (by omega) (by rw [A16.l_len]; omega) (Yld.idx (by omega) (by rw [A16.l_len]; omega) (Yld.quo (by decide) ?_))
   simp only [idx_dg, Int.toNat_natCast]
   have e1 : IntKind.i64.wrap (Int.tmod (dg x.W.l k) 65536) = dg x.W.l k % 65536 := by rw [tmod_pos hd.1, wi64]; omega
   have e2 : IntKind.i64.wrap (IntKind.u32.wrap (Int.tdiv (dg x.W.l k) 65536)) = dg x.W.l k / 65536 := by rw [tdiv_pos hd.1, wu32, wi64]; omega
   rw [e1, e2]
   refine Yld.app (by simp; omega) (Yld.some (.inl ⟨_, rfl, ⟨by dsimp only; rw [wi64]; omega, app_in oin (two_inD (by omega) (by omega)), by simp [ol]; omega, ?_⟩, hk'⟩))
   dsimp only
   rw [lv_app, lv_two, os, ds_succ, ol, pow65, Int.mul_comm ((4294967296 : Int) ^ k)]
   congr 2
   omega
  ·have hk' : k = 16 := by have := of_decide_eq_false h; omega
   subst hk'
   exact Yld.some (.inr ⟨_, rfl, oin, ol, os⟩)
 ·rintro o ⟨oin, ol, os⟩
  refine Yld.bind (trim_y (by omega) (by omega) oin) fun c hc => Yld.some ⟨hc.1, hc.2.1, by rw [hc.2.2.1, os], by have := hc.2.2.2; omega⟩
theorem number_y {F : Nat} (hF : 100000 < F) (neg : Bool) {l : List Int} (hl : l.length ≤ 9999) (hin : inD 65536 l) : r3_number_S F neg l = some (if lv l < MM then big (if neg = true then -lv l else lv l) else bad) := by
 refine Yld.eq ?_
 unfold r3_number_S
 refine Yld.bind (trim_y (by omega) (by omega) hin) ?_
 rintro c ⟨cin, ct, cv, cl⟩
 rw [← cv]
 have c0 := lv_nonneg cin
 clear hin cv cl hl
 refine Yld.ite (fun h => ?_) (fun h => ?_)
 ·have h' := of_decide_eq_true h
  refine Yld.bindE (rBad_y F) (Yld.some ?_)
  rw [if_neg]
  intro h1
  rw [MM65] at h1
  have := llen_le cin ct h1
  omega
 ·have h' := of_decide_eq_false h
  have hlt : lv c < MM := by
   have h1 := lv_lt cin
   have h2 := pow_le65 (show c.length ≤ 32 by omega)
   rw [MM65]; omega
  rw [if_pos hlt]
  refine Yld.ln ?_
  refine Yld.bind (P := fun o => o.Bad = false ∧ o.Neg = (neg && decide (0 < (c.length : Int))) ∧ inD 4294967296 o.W.l ∧ av o.W = lv c) (Yld.rounds c.length (fun (k : Nat) (s : Big × Int) => s.2 = (k : Int) ∧ s.1.Bad = false ∧ s.1.Neg = (neg && decide (0 < (c.length : Int))) ∧ inD 4294967296 s.1.W.l ∧ (∀ j, k ≤ 2 * j → dg s.1.W.l j = 0) ∧ (∀ j, k ≤ 2 * j + 1 → dg s.1.W.l j < 65536) ∧ av s.1.W = ds 65536 (dg c) k) (by omega) ?_ ?_) ?_
  ·refine ⟨rfl, rfl, rfl, zero_in, fun j _ => ?_, fun j _ => ?_, av_zero⟩
   ·have : A16.zero.l = List.replicate 16 0 := rfl
    show dg A16.zero.l j = 0
    rw [this, dg_replicate]
   ·have : A16.zero.l = List.replicate 16 0 := rfl
    show dg A16.zero.l j < 65536
    rw [this, dg_replicate]; decide
  ·rintro k ⟨⟨Bd, Ng, w⟩, kx⟩ hk ⟨rfl, b0, n0, win, wz, wl, ws⟩
   dsimp only at b0 n0 win wz wl ws
   dsimp only [un2]
   refine Yld.ite (fun h2 => ?_) (fun h2 => ?_)
   ·have hk' : k < c.length := by have := of_decide_eq_true h2; omega
    have hk3 : k < 32 := by omega
    have hd := cin k
    have hdiv : IntKind.i64.wrap (Int.tdiv (k : Int) 2) = ((k / 2 : Nat) : Int) := by rw [tdiv_pos (by omega), wi64]; omega
    have hj16 : k / 2 < 16 := by omega
    refine Yld.bind (P := fun o => o.Bad = false ∧ o.Neg = (neg && decide (0 < (c.length : Int))) ∧ inD 4294967296 o.W.l ∧ (∀ j, k + 1 ≤ 2 * j → dg o.W.l j = 0) ∧ (∀ j, k + 1 ≤ 2 * j + 1 → dg o.W.l j < 65536) ∧ av o.W = ds 65536 (dg c) (k + 1)) ?_ ?_
    ·refine Yld.ite (fun h3 => ?_) (fun h3 => ?_)
     ·have h3' := of_decide_eq_true h3
      rw [tmod_pos (by omega)] at h3'
      obtain ⟨j, rfl⟩ : ∃ j, k = 2 * j := ⟨k / 2, by omega⟩
      have hjj : 2 * j / 2 = j := by omega
      refine Yld.quo (by decide) (Yld.quo (by decide) ?_)
      rw [hdiv, hjj]
      refine Yld.idx (by omega) (by rw [A16.l_len]; omega) (Yld.idx (by omega) (by omega) (Yld.idx (by omega) (by rw [A16.l_len]; omega) (Yld.some ?_)))
      simp only [idx_dg, Int.toNat_natCast]
      have hz := wz j (by omega)
      have e1 : IntKind.u32.wrap (dg w.l j + IntKind.u32.wrap (dg c (2 * j))) = dg c (2 * j) := by rw [hz]; simp only [wu32]; omega
      rw [e1]
      refine ⟨b0, n0, set_in win (by omega) (by omega) (by omega), fun i hi => ?_, fun i hi => ?_, ?_⟩
      ·rw [set_dg (by omega) (by omega), Int.toNat_natCast, if_neg (by omega)]; exact wz i (by omega)
      ·rw [set_dg (by omega) (by omega), Int.toNat_natCast]
       split
       ·exact hd.2
       ·exact wl i (by omega)
      ·rw [av_set (by omega), hz, ws, ds_succ, pow65, Int.sub_zero]
     ·have h3' := of_decide_eq_false h3
      rw [tmod_pos (by omega)] at h3'
      obtain ⟨j, rfl⟩ : ∃ j, k = 2 * j + 1 := ⟨k / 2, by omega⟩
      have hjj : (2 * j + 1) / 2 = j := by omega
      refine Yld.quo (by decide) (Yld.quo (by decide) ?_)
      rw [hdiv, hjj]
      refine Yld.idx (by omega) (by rw [A16.l_len]; omega) (Yld.idx (by omega) (by omega) (Yld.idx (by omega) (by rw [A16.l_len]; omega) (Yld.some ?_)))
      simp only [idx_dg, Int.toNat_natCast]
      have hz := wl j (by omega)
      have hz0 := (win j).1
      have e1 : IntKind.u32.wrap (dg w.l j + IntKind.u32.wrap (IntKind.u32.wrap (dg c (2 * j + 1)) * 65536)) = dg w.l j + dg c (2 * j + 1) * 65536 := by simp only [wu32]; omega
      rw [e1]
      refine ⟨b0, n0, set_in win (by omega) (by omega) (by omega), fun i hi => ?_, fun i hi => ?_, ?_⟩
      ·rw [set_dg (by omega) (by omega), Int.toNat_natCast, if_neg (by omega)]; exact wz i (by omega)
      ·rw [set_dg (by omega) (by omega), Int.toNat_natCast, if_neg (by omega)]; exact wl i (by omega)
      ·rw [av_set (by omega), ws, ds_succ 65536 (dg c) (2 * j + 1), pow65']
       have : dg w.l j + dg c (2 * j + 1) * 65536 - dg w.l j = dg c (2 * j + 1) * 65536 := by omega
       rw [this, Int.mul_comm ((4294967296 : Int) ^ j), ← Int.mul_assoc]
    ·rintro o ⟨q1, q2, q3, q4, q5, q6⟩
     exact Yld.some (.inl ⟨_, rfl, ⟨by dsimp only; rw [wi64]; omega, q1, q2, q3, q4, q5, q6⟩, hk'⟩)
   ·have hk' : k = c.length := by have := of_decide_eq_false h2; omega
    subst hk'
    exact Yld.some (.inr ⟨_, rfl, b0, n0, win, ws⟩)
  ·rintro ⟨Bd, Ng, w⟩ ⟨b0, n0, win, ws⟩
   dsimp only at b0 n0 win ws
   refine Yld.some ?_
   subst b0 n0
   have hw : w = toA (lv c) := eq_toA win ws
   subst hw
   have hlen := len_pos cin ct
   unfold big
   cases neg with
   | false =>
    have h1 : ¬ lv c < 0 := by omega
    simp only [Bool.false_and, Bool.false_eq_true, if_false, h1, decide_false]
    rw [if_pos (by omega)]
   | true =>
    simp only [if_true, Bool.true_and]
    rw [if_pos (by omega)]
    by_cases e : lv c = 0
    ·have : ¬ 0 < c.length := fun h => hlen.1 h e
     have h2 : ¬ ((0 : Int) < c.length) := by omega
     rw [e, decide_eq_false h2]
     simp
    ·have : 0 < c.length := hlen.2 e
     have h2 : ((0 : Int) < c.length) := by omega
     have h1 : -lv c < 0 := by omega
     simp only [h1, h2, decide_true, if_true, Int.neg_neg]
theorem num_big {neg : Bool} {m : Int} (h0 : 0 ≤ m) : (if m < MM then big (if neg = true then -m else m) else bad) = big (if neg = true then -m else m) := by
 split
 ·rfl
 ·next h => exact (big_out (by split <;> omega)).symm
theorem word_y {F : Nat} (hF : 100000 < F) {x : Big} (hx : inB x) : r3_word_S F x = some (match iv x with | some a => if absZ a < 4611686018427387904 then (a, true) else (0, false) | none => (0, false)) := by
 refine Yld.eq ?_
 unfold r3_word_S
 refine Yld.bindE (rGood_y hF hx) ?_
 cases ha : iv x with
 | none => simp only [iv_none ha, Bool.not_false, Bool.true_or, if_true]; exact Yld.some rfl
 | some a =>
  obtain ⟨ga, rfl, ra⟩ := iv_some hx ha
  obtain ⟨wa, na⟩ := sv_big_W ra
  have ia : inD 4294967296 (big a).W.l := big_in a
  have habs : av (big a).W = absZ a := wa
  simp only [ga, Bool.not_true, Bool.false_or, na]
  generalize (big a).W = A at *
  have a0 := ia 0
  have a1 := ia 1
  have e0 : dg A.l 0 = A.a0 := rfl
  have e1 : dg A.l 1 = A.a1 := rfl
  rw [e0] at a0
  rw [e1] at a1
  have hsum : absZ a = A.a0 + A.a1 * 4294967296 + 18446744073709551616 * ds 4294967296 (fun i => dg A.l (2 + i)) 14 := by
   rw [← habs]
   show ds 4294967296 (dg A.l) (2 + 14) = _
   rw [ds_split]
   have h2 : ds 4294967296 (dg A.l) 2 = A.a0 + A.a1 * 4294967296 := by simp [ds, dg, A16.l]
   rw [h2]
   rfl
  have hrest := ds_nonneg (b := 4294967296) (by decide) (f := fun i => dg A.l (2 + i)) (n := 14) fun i _ => (ia (2 + i)).1
  refine Yld.ite (fun h => ?_) (fun h => ?_)
  ·have h' := of_decide_eq_true h
   refine Yld.some ?_
   rw [if_neg (by omega)]
  ·have h' := of_decide_eq_false h
   refine Yld.bind (P := fun r => match r with | .inl _ => ∀ i, i < 14 → dg A.l (2 + i) = 0 | .inr y => y = (0, false) ∧ ∃ i, i < 14 ∧ dg A.l (2 + i) ≠ 0) (Yld.rounds 14 (fun (k : Nat) (s : Int) => s = ((2 + k : Nat) : Int) ∧ ∀ i, i < k → dg A.l (2 + i) = 0) (by omega) ⟨rfl, fun i h => absurd h (Nat.not_lt_zero i)⟩ ?_) ?_
   ·rintro k i hk ⟨rfl, hz⟩
    refine Yld.ite (fun h => ?_) (fun h => ?_)
    ·have hk' : k < 14 := by have := of_decide_eq_true h; omega
     refine Yld.idx (by omega) (by rw [A16.l_len]; omega) ?_
     simp only [idx_dg, Int.toNat_natCast]
     refine Yld.ite (fun h => ?_) (fun h => ?_)
     ·exact Yld.some (.inr ⟨_, rfl, rfl, k, hk', of_decide_eq_true h⟩)
     ·have h2 : dg A.l (2 + k) = 0 := by have := of_decide_eq_false h; omega
      refine Yld.some (.inl ⟨_, rfl, ⟨by rw [wi64]; omega, fun i hi => ?_⟩, hk'⟩)
      by_cases e : i = k
      ·rw [e]; exact h2
      ·exact hz i (by omega)
    ·have hk' : k = 14 := by have := of_decide_eq_false h; omega
     subst hk'
     exact Yld.some (.inr ⟨_, rfl, hz⟩)
   ·rintro (u | y) h
    ·have hz : ds 4294967296 (fun i => dg A.l (2 + i)) 14 = 0 := ds_zero h
     rw [hz, Int.mul_zero, Int.add_zero] at hsum
     have hlt : absZ a < 4611686018427387904 := by omega
     rw [if_pos hlt]
     refine Yld.lnE (A.a1 * 4294967296) (by simp only [wi64]; omega) (Yld.lnE (absZ a) (by simp only [wi64]; omega) ?_)
     unfold absZ at *
     refine Yld.ite (fun h => ?_) (fun h => ?_)
     ·have h1 := of_decide_eq_true h
      rw [if_pos h1] at *
      exact Yld.some (by rw [wi64' (by omega) (by omega), Int.neg_neg])
     ·have h1 := of_decide_eq_false h
      rw [if_neg h1] at *
      exact Yld.some rfl
    ·obtain ⟨rfl, i, hi, hne⟩ := h
     refine Yld.some ?_
     have : 1 ≤ ds 4294967296 (fun i => dg A.l (2 + i)) 14 := by
      rcases (by omega : ds 4294967296 (fun i => dg A.l (2 + i)) 14 = 0 ∨ 1 ≤ ds 4294967296 (fun i => dg A.l (2 + i)) 14) with h | h
      ·have h0 : ds 4294967296 (fun i => dg A.l (2 + i)) 14 = ds 4294967296 (fun _ => 0) 14 := by rw [h, ds_zero]; intro _ _; rfl
       exact absurd (ds_inj (by decide) (fun j _ => ia (2 + j)) (fun j _ => by decide) h0 i hi) hne
      ·exact h
     rw [if_neg (by omega)]
theorem rOf_y {F : Nat} (hF : 100000 < F) {n : Int} (h0 : -9223372036854775808 ≤ n) (h1 : n ≤ 9223372036854775807) : r3_Of_S F n = some (big n) := by
 refine Yld.eq ?_
 unfold r3_Of_S
 refine Yld.ite (fun h => ?_) (fun h => ?_)
 ·have h' := of_decide_eq_true h
  refine Yld.quo (by decide) (Yld.quo (by decide) (Yld.quo (by decide) ?_))
  have q1 : IntKind.i64.wrap (Int.tdiv n 65536) = n / 65536 := by rw [tdiv_pos h', wi64]; omega
  have q2 : IntKind.i64.wrap (Int.tdiv n 4294967296) = n / 4294967296 := by rw [tdiv_pos h', wi64]; omega
  have q3 : IntKind.i64.wrap (Int.tdiv n 281474976710656) = n / 281474976710656 := by rw [tdiv_pos h', wi64]; omega
  rw [q1, q2, q3, tmod_pos h', tmod_pos (by omega), tmod_pos (by omega)]
  have hv : lv [n % 65536, n / 65536 % 65536, n / 4294967296 % 65536, n / 281474976710656] = n := by rw [lv_four]; omega
  refine Yld.bindE (number_y hF false (by simp) (four_in (by omega) (by omega) (by omega) (by omega))) (Yld.some ?_)
  rw [hv, num_big h']
  simp
 ·have h' := of_decide_eq_false h
  refine Yld.lnE (-(n + 1)) (by simp only [wi64]; omega) ?_
  have hm : 0 ≤ -(n + 1) := by omega
  generalize hmm : -(n + 1) = m at *
  refine Yld.quo (by decide) (Yld.quo (by decide) (Yld.quo (by decide) ?_))
  have q1 : IntKind.i64.wrap (Int.tdiv m 65536) = m / 65536 := by rw [tdiv_pos hm, wi64]; omega
  have q2 : IntKind.i64.wrap (Int.tdiv m 4294967296) = m / 4294967296 := by rw [tdiv_pos hm, wi64]; omega
  have q3 : IntKind.i64.wrap (Int.tdiv m 281474976710656) = m / 281474976710656 := by rw [tdiv_pos hm, wi64]; omega
  rw [q1, q2, q3, tmod_pos hm, tmod_pos (by omega), tmod_pos (by omega)]
  have hv : lv [m % 65536, m / 65536 % 65536, m / 4294967296 % 65536, m / 281474976710656] = m := by rw [lv_four]; omega
  refine Yld.bind (rplus_y hF (four_in (by omega) (by omega) (by omega) (by omega)) (one_inD (by decide) (x := 1) (by decide)) (by simp) (by simp)) fun c hc => ?_
  obtain ⟨c1, _, c2, c3⟩ := hc
  rw [hv, lv_one] at c2
  refine Yld.bindE (number_y hF true (by simp at c3; omega) c1) (Yld.some ?_)
  rw [c2, num_big (by omega)]
  simp only [if_true]
  congr 1
  omega
end Go.Proofs.YtcbbilehdaaffaaGreatDoor

namespace Go.Sk
set_option linter.unusedSimpArgs false
set_option linter.unusedVariables false
def wd : Option Int → Int × Bool
 | some a => if absZ a < 4611686018427387904 then (a, true) else (0, false)
 | none => (0, false)
theorem wd_true {o : Option Int} {p : Int} (h : wd o = (p, true)) : o = some p ∧ absZ p < 4611686018427387904 := by
 unfold wd at h
 split at h
 ·split at h
  ·next h1 => simp only [Prod.mk.injEq, and_true] at h; subst h; exact ⟨rfl, h1⟩
  ·simp at h
 ·simp at h
theorem lv_dig {l : List Int} (h : inD 65536 l) (i : Nat) : dg l i = lv l / 65536 ^ i % 65536 := by
 have h1 := lv_at (l := l) (n := l.length + (i + 1)) (by omega)
 have h2 := ds_dig (b := 65536) (by decide) (f := dg l) (n := l.length + (i + 1)) (i := i) (by omega) h
 rw [h1] at h2
 exact h2.symm
end Go.Sk
namespace Go.Proofs.YtcbbilehdaaffaaGreatDoor
open Go Go.Sk
set_option linter.unusedSimpArgs false
set_option linter.unusedVariables false
theorem word_y' {F : Nat} (hF : 100000 < F) {x : Big} (hx : inB x) : r3_word_S F x = some (wd (iv x)) := by
 rw [word_y hF hx]
 cases iv x <;> rfl
theorem dig_y {F : Nat} (hF : 100000 < F) {a : Int} (ra : -MM < a ∧ a < MM) : Yld (r3_digits_S F (big a)) fun c => inD 65536 c ∧ Tight c ∧ lv c = absZ a ∧ c.length ≤ 32 := by
 have h := digits_y hF (big_in a)
 rw [(sv_big_W ra).1] at h
 exact h
theorem num_y {F : Nat} (hF : 100000 < F) (neg : Bool) {l : List Int} (hl : l.length ≤ 9999) (hin : inD 65536 l) : r3_number_S F neg l = some (big (if neg = true then -lv l else lv l)) := by
 rw [number_y hF neg hl hin, num_big (lv_nonneg hin)]
end Go.Proofs.YtcbbilehdaaffaaGreatDoor

namespace Go.Proofs.YtcbbilehdaaffaaGreatDoor
open Go Go.Sk
set_option linter.unusedSimpArgs false
set_option linter.unusedVariables false
theorem rAbs_y {F : Nat} (hF : 100000 < F) {x : Big} (hx : inB x) : r3_Abs_S F x = some (one (fun a => some (absZ a)) x) := by
 refine Yld.eq ?_
 unfold r3_Abs_S one
 refine Yld.bindE (rGood_y hF hx) ?_
 cases ha : iv x with
 | none => simp only [iv_none ha, Bool.not_false, if_true]; exact Yld.bindE (rBad_y F) (Yld.some rfl)
 | some a =>
  obtain ⟨ga, rfl, ra⟩ := iv_some hx ha
  simp only [ga, Bool.not_true, Bool.false_eq_true, if_false, toB]
  refine Yld.bind (dig_y hF ra) ?_
  rintro c ⟨c1, _, c2, c3⟩
  refine Yld.bindE (num_y hF _ (by omega) c1) (Yld.some ?_)
  rw [c2]
  simp
theorem rSign_y {F : Nat} (hF : 100000 < F) {x : Big} (hx : inB x) : r3_Sign_S F x = some (match iv x with | some a => sgn a | none => 0) := by
 refine Yld.eq ?_
 unfold r3_Sign_S
 refine Yld.bindE (rGood_y hF hx) ?_
 cases ha : iv x with
 | none => simp only [iv_none ha]; exact Yld.g0 rfl (Yld.ift rfl (Yld.some rfl))
 | some a =>
  obtain ⟨ga, rfl, ra⟩ := iv_some hx ha
  obtain ⟨wa, na⟩ := sv_big_W ra
  refine Yld.g1 (by rw [ga]; rfl) (Yld.bind (dig_y hF ra) ?_)
  rintro c ⟨c1, c2, c3, c4⟩
  have hl := len_pos c1 c2
  have habs : absZ a = 0 ↔ a = 0 := by unfold absZ; split <;> omega
  simp only [ga, Bool.not_true, Bool.false_or, na]
  unfold sgn
  refine Yld.ite (fun h => ?_) (fun h => ?_)
  ·have h' := of_decide_eq_true h
   exact Yld.some (by rw [if_pos]; rw [← habs, ← c3]; by_cases e : lv c = 0; exact e; have := hl.2 e; omega)
  ·have h' := of_decide_eq_false h
   have h0 : a ≠ 0 := fun e => by
    have := hl.1 (by omega)
    rw [c3] at this
    exact this (habs.2 e)
   refine Yld.ite (fun h => ?_) (fun h => ?_)
   ·have := of_decide_eq_true h; exact Yld.some (by rw [if_neg h0, if_pos this])
   ·have := of_decide_eq_false h; exact Yld.some (by rw [if_neg h0, if_neg this])
end Go.Proofs.YtcbbilehdaaffaaGreatDoor

namespace Go.Sk
set_option linter.unusedSimpArgs false
set_option linter.unusedVariables false
theorem bit_of {X : Int} {r : Nat} (hr : r ≤ 15) : X % 65536 / 2 ^ r % 2 = X / 2 ^ r % 2 := by
 have hp : (0 : Int) < 2 ^ r := Int.pow_pos (by decide)
 have e : (65536 : Int) = 2 ^ r * (2 ^ (15 - r) * 2) := by
  have : (65536 : Int) = 2 ^ (r + (15 - r) + 1) := by rw [show r + (15 - r) + 1 = 16 by omega]; decide
  rw [this, Int.pow_add, Int.pow_add, Int.mul_assoc]; rfl
 have e2 : X = X % 65536 + 2 ^ r * ((2 ^ (15 - r) * 2) * (X / 65536)) := by
  rw [← Int.mul_assoc, ← e]; exact (Int.emod_add_mul_ediv X 65536).symm
 have e3 : X / 2 ^ r = X % 65536 / 2 ^ r + 2 ^ (15 - r) * 2 * (X / 65536) := by
  rw [← Int.add_mul_ediv_left (X % 65536) _ (by omega : (2 : Int) ^ r ≠ 0), ← e2]
 have e4 : 2 ^ (15 - r) * 2 * (X / 65536) = 2 * (2 ^ (15 - r) * (X / 65536)) := by grind
 rw [e3, e4]
 omega
theorem pow_pow65 (k : Nat) : (65536 : Int) ^ (k / 16) * 2 ^ (k % 16) = 2 ^ k := by
 have : (65536 : Int) = 2 ^ 16 := by decide
 rw [this, ← Int.pow_mul, ← Int.pow_add]
 congr 1
 omega
theorem half_bit {x : Int} {n : Nat} (h0 : 0 ≤ x) (h : x < 2 ^ (n + 1)) : (x / 2 ^ n % 2 = 0 → x < 2 ^ n) ∧ (x / 2 ^ n % 2 ≠ 0 → 2 ^ n ≤ x) := by
 have hp : (0 : Int) < 2 ^ n := Int.pow_pos (by decide)
 rw [Int.pow_succ] at h
 constructor
 ·intro h1
  rcases (by omega : x < 2 ^ n ∨ 2 ^ n ≤ x) with h2 | h2
  ·exact h2
  ·have a1 : 1 ≤ x / 2 ^ n := by rw [Int.le_ediv_iff_mul_le hp]; omega
   have a2 : x / 2 ^ n < 2 := by rw [Int.ediv_lt_iff_lt_mul hp]; omega
   omega
 ·intro h1
  rcases (by omega : x < 2 ^ n ∨ 2 ^ n ≤ x) with h2 | h2
  ·rw [Int.ediv_eq_zero_of_lt h0 h2] at h1
   simp at h1
  ·exact h2
end Go.Sk
namespace Go.Proofs.YtcbbilehdaaffaaGreatDoor
open Go Go.Sk
set_option linter.unusedSimpArgs false
set_option linter.unusedVariables false
theorem bit_y (F : Nat) {l : List Int} (hl : inD 65536 l) {k : Nat} (hk : k < 1000000) : r3_bit_S F l (k : Int) = some (lv l / 2 ^ k % 2) := by
 refine Yld.eq ?_
 unfold r3_bit_S
 refine Yld.quo (by decide) ?_
 have e1 : IntKind.i64.wrap (Int.tdiv (k : Int) 16) = ((k / 16 : Nat) : Int) := by rw [tdiv_pos (by omega), wi64]; omega
 have e2 : Int.tmod (k : Int) 16 = ((k % 16 : Nat) : Int) := by rw [tmod_pos (by omega)]; omega
 rw [e1, e2]
 refine Yld.bindE (digit_y F (by omega)) ?_
 rw [Int.toNat_natCast, lv_dig hl]
 have e3 : shr? .i64 (lv l / 65536 ^ (k / 16) % 65536) ((k % 16 : Nat) : Int) = some (lv l / 65536 ^ (k / 16) % 65536 / 2 ^ (k % 16)) := by
  unfold shr?
  rw [if_neg (by omega)]
  have e4 : min ((k % 16 : Nat) : Int).toNat IntKind.i64.bits = k % 16 := by
   rw [Int.toNat_natCast]
   show min (k % 16) 64 = _
   omega
  rw [e4]
 refine Yld.bindE e3 (Yld.some ?_)
 have hp : (0 : Int) < 2 ^ (k % 16) := Int.pow_pos (by decide)
 rw [tmod_pos (Int.ediv_nonneg (by omega) (by omega)), bit_of (by omega), Int.ediv_ediv_of_nonneg (Int.le_of_lt (Int.pow_pos (by decide))), pow_pow65]
theorem rBits_y {F : Nat} (hF : 100000 < F) {x : Big} (hx : inB x) : r3_Bits_S F x = some (match iv x with | some a => blen (absZ a) | none => 0) := by
 refine Yld.eq ?_
 unfold r3_Bits_S
 refine Yld.bindE (rGood_y hF hx) ?_
 cases ha : iv x with
 | none => simp only [iv_none ha, Bool.not_false, if_true]; exact Yld.some rfl
 | some a =>
  obtain ⟨ga, rfl, ra⟩ := iv_some hx ha
  simp only [ga, Bool.not_true, Bool.false_eq_true, if_false]
  refine Yld.bind (dig_y hF ra) ?_
  rintro c ⟨c1, c2, c3, c4⟩
  rw [← c3]
  have hn := lv_nonneg c1
  refine Yld.lnE ((16 * c.length : Nat) : Int) (by rw [wi64]; omega) ?_
  refine Yld.bind (P := (· = blen (lv c))) (Yld.loop (fun (n : Int) => 0 ≤ n ∧ n ≤ 512 ∧ lv c < 2 ^ n.toNat) (fun n => n.toNat) ⟨by omega, by omega, ?_⟩ (by omega) ?_) ?_
  ·rw [Int.toNat_natCast, Int.pow_mul]
   exact lv_lt c1
  ·rintro n ⟨n0, n1, n2⟩
   by_cases h : 0 < n
   ·obtain ⟨m, rfl⟩ : ∃ m : Nat, n = (m : Int) + 1 := ⟨(n - 1).toNat, by omega⟩
    have hd : decide (0 < (m : Int) + 1) = true := decide_eq_true h
    have hw : IntKind.i64.wrap ((m : Int) + 1 - 1) = (m : Int) := by rw [wi64]; omega
    have ht : ((m : Int) + 1).toNat = m + 1 := by omega
    rw [ht] at n2
    have hb := half_bit hn n2
    rw [hw, hd]
    refine Yld.g1 rfl (Yld.bindE (bit_y F c1 (by omega)) ?_)
    simp only [Bool.true_and]
    refine Yld.ite (fun h => ?_) (fun h => ?_)
    ·have h' := of_decide_eq_true h
     exact Yld.some (.inl ⟨_, rfl, ⟨by omega, by omega, by rw [Int.toNat_natCast]; exact hb.1 h'⟩, by omega⟩)
    ·have h' := of_decide_eq_false h
     refine Yld.some (.inr ⟨_, rfl, ?_⟩)
     refine (blen_unique (by omega) ?_ ?_).symm
     ·rw [ht, Nat.add_sub_cancel]; exact hb.2 h'
     ·rw [ht]; exact n2
   ·have hd : decide (0 < n) = false := decide_eq_false h
    rw [hd]
    refine Yld.g0 rfl (Yld.iff (by simp) (Yld.some (.inr ⟨_, rfl, ?_⟩)))
    have : n = 0 := by omega
    subst this
    have h1 : lv c < 1 := n2
    rw [blen_zero (by omega)]
  ·rintro n rfl
   exact Yld.some rfl
end Go.Proofs.YtcbbilehdaaffaaGreatDoor

namespace Go.Sk
set_option linter.unusedSimpArgs false
set_option linter.unusedVariables false
theorem ds_setl {b : Int} {l : List Int} {k n : Nat} {x : Int} (hk : k < n) (hl : k < l.length) : ds b (dg (l.set k x)) n = ds b (dg l) n + (x - dg l k) * b ^ k := by
 obtain ⟨m, rfl⟩ : ∃ m, n = k + 1 + m := ⟨n - k - 1, by omega⟩
 have e1 : ds b (dg (l.set k x)) (k + 1) = ds b (dg l) k + x * b ^ k := ds_upd fun i => dg_set hl
 have e2 : ds b (fun i => dg (l.set k x) (k + 1 + i)) m = ds b (fun i => dg l (k + 1 + i)) m := ds_congr fun i _ => by rw [dg_set hl, if_neg (by omega)]
 rw [ds_split b _ (k + 1), ds_split b _ (k + 1), e1, e2, ds_succ]
 grind
theorem set_inl {b : Int} {l : List Int} {k : Nat} {x : Int} (hl : k < l.length) (h : inD b l) (hx : 0 ≤ x ∧ x < b) : inD b (l.set k x) := fun i => by
 rw [dg_set hl]; split
 ·exact hx
 ·exact h i
theorem rep_in (n : Nat) : inD 65536 (List.replicate n 0) := fun i => by rw [dg_replicate]; decide
theorem lv_rep (n : Nat) : lv (List.replicate n 0) = 0 := ds_zero fun i _ => dg_replicate
theorem mul_fit {x y : Int} (hx : 0 ≤ x ∧ x < 65536) (hy : 0 ≤ y ∧ y < 65536) : 0 ≤ x * y ∧ x * y ≤ 4294836225 := by
 have := mul_bound hx hy
 exact this
end Go.Sk
namespace Go.Proofs.YtcbbilehdaaffaaGreatDoor
open Go Go.Sk
set_option linter.unusedSimpArgs false
set_option linter.unusedVariables false
theorem times_y {F : Nat} (hF : 100000 < F) {a b : List Int} (ha : inD 65536 a) (hb : inD 65536 b) (la : a.length ≤ 9999) (lb : b.length ≤ 9999) :
  Yld (r3_times_S F a b) fun c => inD 65536 c ∧ Tight c ∧ lv c = lv a * lv b ∧ c.length ≤ a.length + b.length + 1 := by
 unfold r3_times_S
 obtain ⟨n, hn⟩ : ∃ n : Nat, n = a.length + b.length + 1 := ⟨_, rfl⟩
 refine Yld.lnE ((a.length + b.length : Nat) : Int) (by rw [wi64]; omega) ?_
 have hw : IntKind.i64.wrap (((a.length + b.length : Nat) : Int) + 1) = (n : Int) := by rw [wi64]; omega
 rw [hw]
 have hmk : mk? (0 : Int) (n : Int) (n : Int) = some (List.replicate n 0) := by
  unfold mk?
  rw [if_pos (by omega), Int.toNat_natCast]
 refine Yld.bindE hmk ?_
 refine Yld.bind (P := fun o => inD 65536 o ∧ o.length = n ∧ lv o = lv a * lv b) (Yld.rounds a.length (fun k s => s.2 = (k : Int) ∧ inD 65536 s.1 ∧ s.1.length = n ∧ lv s.1 = ds 65536 (dg a) k * lv b) (by omega) ⟨rfl, rep_in n, by simp, by rw [lv_rep]; simp [ds]⟩ ?_) ?_
 ·rintro i ⟨o, ix⟩ hi ⟨rfl, oin, ol, os⟩
  dsimp only at oin ol os
  dsimp only [un2]
  refine Yld.ite (fun h => ?_) (fun h => ?_)
  ·have hi' : i < a.length := by have := of_decide_eq_true h; omega
   have hai := ha i
   refine Yld.bind (P := fun o => inD 65536 o ∧ o.length = n ∧ lv o = ds 65536 (dg a) (i + 1) * lv b) ?_ ?_
   ·refine Yld.bind (P := fun p => (∀ j, 0 ≤ dg p j ∧ dg p j < 4294967296) ∧ p.length = n ∧ ds 65536 (dg p) n = ds 65536 (dg a) (i + 1) * lv b) (Yld.rounds b.length (fun k s => s.2 = (k : Int) ∧ (∀ j, 0 ≤ dg s.1 j ∧ dg s.1 j < 4294967296) ∧ (∀ j, i + k ≤ j → dg s.1 j < 65536) ∧ s.1.length = n ∧ ds 65536 (dg s.1) n = ds 65536 (dg a) i * lv b + dg a i * 65536 ^ i * ds 65536 (dg b) k) (by omega) ⟨rfl, fun j => ⟨(oin j).1, by have := (oin j).2; dsimp only; omega⟩, fun j _ => (oin j).2, ol, ?_⟩ ?_) ?_
    ·dsimp only
     rw [← ol]
     show lv o = _
     rw [os]; simp [ds]
    ·rintro k ⟨p, kx⟩ hk ⟨rfl, pin, phi, pl, ps⟩
     dsimp only at pin phi pl ps
     dsimp only [un2]
     refine Yld.ite (fun h => ?_) (fun h => ?_)
     ·have hk' : k < b.length := by have := of_decide_eq_true h; omega
      have hbk := hb k
      have hwi : IntKind.i64.wrap ((i : Int) + (k : Int)) = ((i + k : Nat) : Int) := by rw [wi64]; omega
      rw [hwi]
      refine Yld.idx (by omega) (by omega) (Yld.idx (by omega) (by omega) (Yld.idx (by omega) (by omega) (Yld.idx (by omega) (by omega) ?_)))
      simp only [idx_dg, Int.toNat_natCast]
      have hm := mul_fit hai hbk
      have hp := pin (i + k)
      have hp2 := phi (i + k) (by omega)
      have e1 : IntKind.i64.wrap (dg p (i + k) + IntKind.i64.wrap (dg a i * dg b k)) = dg p (i + k) + dg a i * dg b k := by
       rw [wi64' (z := dg a i * dg b k) (by omega) (by omega), wi64' (by omega) (by omega)]
      rw [e1]
      refine Yld.some (.inl ⟨_, rfl, ⟨by dsimp only; rw [wi64]; omega, fun j => ?_, fun j hj => ?_, by simp [pl], ?_⟩, hk'⟩)
      ·dsimp only
       rw [dg_set (by omega)]
       split
       ·omega
       ·exact pin j
      ·dsimp only
       rw [dg_set (by omega), if_neg (by omega)]
       exact phi j (by omega)
      ·dsimp only
       rw [ds_setl (by omega) (by omega), ps, ds_succ]
       have : (65536 : Int) ^ (i + k) = 65536 ^ i * 65536 ^ k := Int.pow_add _ _ _
       grind
     ·have hk' : k = b.length := by have := of_decide_eq_false h; omega
      subst hk'
      refine Yld.some (.inr ⟨_, rfl, pin, pl, ?_⟩)
      rw [ps, ds_succ]
      have : ds 65536 (dg b) b.length = lv b := rfl
      rw [this]
      grind
    ·rintro p ⟨pin, pl, ps⟩
     have htot : ds 65536 (dg a) (i + 1) * lv b < 65536 ^ n := by
      have h1 := ds_lt (b := 65536) (by decide) (f := dg a) (n := i + 1) fun j _ => ha j
      have h2 := lv_lt hb
      have h3 := lv_nonneg hb
      have h4 := ds_nonneg (b := 65536) (by decide) (f := dg a) (n := i + 1) fun j _ => (ha j).1
      have h5 : ds 65536 (dg a) (i + 1) * lv b ≤ 65536 ^ (i + 1) * 65536 ^ b.length := Int.mul_le_mul (by omega) (by omega) h3 (by omega)
      rw [← Int.pow_add] at h5
      have h6 : (65536 : Int) ^ (i + 1 + b.length) < 65536 ^ n := by
       have h7 : (65536 : Int) ^ (i + 1 + b.length + 1) ≤ 65536 ^ n := pow_le65 (by omega)
       have h8 : (0 : Int) < 65536 ^ (i + 1 + b.length) := Int.pow_pos (by decide)
       rw [Int.pow_succ] at h7
       omega
      omega
     refine Yld.bind (P := fun o => inD 65536 o ∧ o.length = n ∧ lv o = ds 65536 (dg a) (i + 1) * lv b) (Yld.rounds n (fun k s => s.2.2 = (k : Int) ∧ 0 ≤ s.2.1 ∧ s.2.1 < 4294967296 ∧ (∀ j, 0 ≤ dg s.1 j) ∧ (∀ j, j < k → dg s.1 j < 65536) ∧ (∀ j, k ≤ j → dg s.1 j = dg p j) ∧ s.1.length = n ∧ ds 65536 (dg s.1) k + s.2.1 * 65536 ^ k = ds 65536 (dg p) k) (by omega) ⟨rfl, Int.le_refl _, (by decide : (0 : Int) < 4294967296), fun j => (pin j).1, fun j h => absurd h (Nat.not_lt_zero j), fun j _ => rfl, pl, by simp [ds]⟩ ?_) ?_
     ·rintro k ⟨o, c, kx⟩ hk ⟨rfl, c0, c1, o0, olo, ohi, ol, os⟩
      dsimp only at c0 c1 o0 olo ohi ol os
      dsimp only [un3]
      refine Yld.ite (fun h => ?_) (fun h => ?_)
      ·have hk' : k < n := by have := of_decide_eq_true h; omega
       have hpk := pin k
       have hok := ohi k (Nat.le_refl k)
       refine Yld.idx (by omega) (by omega) ?_
       simp only [idx_dg, Int.toNat_natCast, hok]
       rw [wi64' (by omega) (by omega), tmod_pos (by omega)]
       refine Yld.ln (Yld.idx (by omega) (by omega) (Yld.quo (by decide) (Yld.some (.inl ⟨_, rfl, ?_, hk'⟩))))
       rw [tdiv_pos (by omega)]
       have hq : IntKind.i64.wrap ((dg p k + c) / 65536) = (dg p k + c) / 65536 := by rw [wi64]; omega
       rw [hq]
       dsimp only
       refine ⟨by rw [wi64]; omega, by omega, by omega, fun j => ?_, fun j hj => ?_, fun j hj => ?_, by simp [ol], ?_⟩
       ·rw [dg_set (by omega)]
        split
        ·omega
        ·exact o0 j
       ·rw [dg_set (by omega)]
        split
        ·omega
        ·exact olo j (by omega)
       ·rw [dg_set (by omega), if_neg (by omega)]; exact ohi j (by omega)
       ·have e1 : ds 65536 (dg (o.set k ((dg p k + c) % 65536))) (k + 1) = ds 65536 (dg o) k + (dg p k + c) % 65536 * 65536 ^ k := ds_upd fun i => dg_set (by omega)
        rw [e1, ds_succ, ← os, Int.pow_succ]
        have e2 : dg p k + c = (dg p k + c) % 65536 + (dg p k + c) / 65536 * 65536 := by omega
        generalize (dg p k + c) % 65536 = u at *
        generalize (dg p k + c) / 65536 = v at *
        have e3 : dg p k = u + v * 65536 - c := by omega
        rw [e3]
        grind
      ·have hk' : k = n := by have := of_decide_eq_false h; omega
       subst hk'
       have oin' : inD 65536 o := fun j => by
        by_cases hj : j < k
        ·exact ⟨o0 j, olo j hj⟩
        ·rw [dg_ge (by omega)]; decide
       refine Yld.some (.inr ⟨_, rfl, oin', ol, ?_⟩)
       have hlo := ds_nonneg (b := 65536) (by decide) (f := dg o) (n := k) fun j _ => o0 j
       have hpw : (0 : Int) < 65536 ^ k := Int.pow_pos (by decide)
       rw [ps] at os
       have hc : c = 0 := by
        rcases (by omega : c = 0 ∨ 1 ≤ c) with h | h
        ·exact h
        ·have : 1 * (65536 : Int) ^ k ≤ c * 65536 ^ k := Int.mul_le_mul_of_nonneg_right h (by omega)
         omega
       subst hc
       have : lv o = ds 65536 (dg o) k := (lv_at (by omega)).symm
       omega
     ·rintro o ho
      exact Yld.some ho
   ·rintro o ⟨o1, o2, o3⟩
    exact Yld.some (.inl ⟨_, rfl, ⟨by dsimp only; rw [wi64]; omega, o1, o2, o3⟩, hi'⟩)
  ·have hi' : i = a.length := by have := of_decide_eq_false h; omega
   subst hi'
   exact Yld.some (.inr ⟨_, rfl, oin, ol, os⟩)
 ·rintro o ⟨oin, ol, os⟩
  refine Yld.bind (trim_y (by omega) (by omega) oin) fun c hc => Yld.some ⟨hc.1, hc.2.1, by rw [hc.2.2.1, os], by have := hc.2.2.2; omega⟩
end Go.Proofs.YtcbbilehdaaffaaGreatDoor

namespace Go.Sk
set_option linter.unusedSimpArgs false
set_option linter.unusedVariables false
theorem lv_cons (x : Int) (l : List Int) : lv (x :: l) = x + 65536 * lv l := by
 unfold lv
 rw [List.length_cons, ds_succ']
 rfl
theorem cons_in {x : Int} {l : List Int} (hx : 0 ≤ x ∧ x < 65536) (h : inD 65536 l) : inD 65536 (x :: l) := fun i => by
 cases i with
 | zero => exact hx
 | succ i => exact h i
theorem top3 {l : List Int} {n : Nat} (h : inD 65536 l) (hv : lv l < 65536 ^ (n + 3)) : dg l (n + 2) * 4294967296 + dg l (n + 1) * 65536 + dg l n = lv l / 65536 ^ n := by
 have h0 := lv_nonneg h
 have hp : (0 : Int) < 65536 ^ n := Int.pow_pos (by decide)
 obtain ⟨X, hX⟩ : ∃ X, X = lv l / 65536 ^ n := ⟨_, rfl⟩
 have e1 : lv l / 65536 ^ (n + 1) = X / 65536 := by rw [Int.pow_succ, ← Int.ediv_ediv_of_nonneg (Int.le_of_lt hp), hX]
 have e2 : lv l / 65536 ^ (n + 2) = X / 65536 / 65536 := by rw [show n + 2 = (n + 1) + 1 from rfl, Int.pow_succ, ← Int.ediv_ediv_of_nonneg (Int.le_of_lt (Int.pow_pos (by decide))), e1]
 have hX0 : 0 ≤ X := by rw [hX]; exact Int.ediv_nonneg h0 (Int.le_of_lt hp)
 have hX1 : X < 281474976710656 := by
  rw [hX, Int.ediv_lt_iff_lt_mul hp]
  have : (65536 : Int) ^ (n + 3) = 281474976710656 * 65536 ^ n := by rw [Int.pow_add, Int.mul_comm]; rfl
  omega
 rw [lv_dig h, lv_dig h, lv_dig h, e1, e2, ← hX]
 omega
theorem top2 {l : List Int} {n : Nat} (h : inD 65536 l) (hv : lv l < 65536 ^ (n + 2)) : dg l (n + 1) * 65536 + dg l n = lv l / 65536 ^ n := by
 have h0 := lv_nonneg h
 have hp : (0 : Int) < 65536 ^ n := Int.pow_pos (by decide)
 obtain ⟨X, hX⟩ : ∃ X, X = lv l / 65536 ^ n := ⟨_, rfl⟩
 have e1 : lv l / 65536 ^ (n + 1) = X / 65536 := by rw [Int.pow_succ, ← Int.ediv_ediv_of_nonneg (Int.le_of_lt hp), hX]
 have hX0 : 0 ≤ X := by rw [hX]; exact Int.ediv_nonneg h0 (Int.le_of_lt hp)
 have hX1 : X < 4294967296 := by
  rw [hX, Int.ediv_lt_iff_lt_mul hp]
  have : (65536 : Int) ^ (n + 2) = 4294967296 * 65536 ^ n := by rw [Int.pow_add, Int.mul_comm]; rfl
  omega
 rw [lv_dig h, lv_dig h, e1, ← hX]
 omega
theorem est_ge {t B R P : Int} (hP : 0 < P) (h0 : 0 ≤ t) (h : t * B ≤ R) : t * (B / P) ≤ R / P := by
 rw [Int.le_ediv_iff_mul_le hP, Int.mul_assoc]
 have := Int.ediv_mul_le B (by omega : P ≠ 0)
 have := Int.mul_le_mul_of_nonneg_left this h0
 omega
end Go.Sk
namespace Go.Proofs.YtcbbilehdaaffaaGreatDoor
open Go Go.Sk
set_option linter.unusedSimpArgs false
set_option linter.unusedVariables false
theorem at_y (F : Nat) (l : List Int) (k : Int) : r3_at_S F l k = some (if k < 0 then 0 else dg l k.toNat) := by
 refine Yld.eq ?_
 unfold r3_at_S
 refine Yld.ite (fun h => ?_) (fun h => ?_)
 ·have := of_decide_eq_true h; rw [if_pos this]; exact Yld.some rfl
 ·have := of_decide_eq_false h; rw [if_neg this]; exact Yld.bindE (digit_y F (by omega)) (Yld.some rfl)
theorem est {B R t : Int} {b r : List Int} (hb : inD 65536 b) (hr : inD 65536 r) (htb : Tight b) (h0 : 0 < b.length) (hB : lv b = B) (hR : lv r = R) (hlt : R < 65536 * B) (ht0 : 0 ≤ t) (ht : t * B ≤ R) :
    t ≤ (dg r b.length * 4294967296 + dg r (b.length - 1) * 65536 + (if (b.length : Int) - 2 < 0 then 0 else dg r (b.length - 2))) / (dg b (b.length - 1) * 65536 + (if (b.length : Int) - 2 < 0 then 0 else dg b (b.length - 2))) ∧ 0 < dg b (b.length - 1) * 65536 + (if (b.length : Int) - 2 < 0 then 0 else dg b (b.length - 2)) := by
  have htop := htb h0
  have hb1 := hb (b.length - 1)
  have hb2 := hb (b.length - 2)
  have hBl := lv_lt hb
  rw [hB] at hBl
  have hpos : 0 < dg b (b.length - 1) * 65536 + (if (b.length : Int) - 2 < 0 then 0 else dg b (b.length - 2)) := by split <;> omega
  refine ⟨?_, hpos⟩
  rw [Int.le_ediv_iff_mul_le hpos]
  generalize hL : b.length = L at *
  by_cases h1 : L = 1
  · subst h1
    have e1 : lv b = dg b 0 := by unfold lv; rw [hL]; simp [ds]
    have hR2 : lv r < 65536 ^ 2 := by rw [hR]; have : (65536 : Int) ^ 2 = 65536 * 65536 := by decide
                                      have : (65536 : Int) ^ 1 = 65536 := by decide
                                      omega
    have e2 : dg r 1 * 65536 + dg r 0 = lv r / 65536 ^ 0 := top2 hr hR2
    have e3 : lv r / 65536 ^ 0 = R := by rw [hR]; simp
    have g1 : (((1 : Nat) : Int) - 2 < 0) := by decide
    rw [if_pos g1, if_pos g1]
    show t * (dg b 0 * 65536 + 0) ≤ dg r 1 * 4294967296 + dg r 0 * 65536 + 0
    rw [Int.add_zero, Int.add_zero, ← Int.mul_assoc, ← e1, hB]
    omega
  · obtain ⟨m, hm⟩ : ∃ m, L = m + 2 := ⟨L - 2, by omega⟩
    subst hm
    have g1 : ¬ (((m + 2 : Nat) : Int) - 2 < 0) := by omega
    rw [if_neg g1, if_neg g1]
    have hp : (0 : Int) < 65536 ^ m := Int.pow_pos (by decide)
    have hR2 : lv r < 65536 ^ (m + 3) := by
      have : (65536 : Int) ^ (m + 3) = 65536 ^ (m + 2) * 65536 := Int.pow_succ _ _
      omega
    have e1 := top3 hr hR2
    have e2 := top2 hb (by rw [hB]; exact hBl)
    show t * (dg b (m + 1) * 65536 + dg b m) ≤ dg r (m + 2) * 4294967296 + dg r (m + 1) * 65536 + dg r m
    rw [e1, e2, hB, hR]
    exact est_ge hp ht0 ht
theorem divide_y {F : Nat} (hF : 100000 < F) {a b : List Int} (ha : inD 65536 a) (hb : inD 65536 b) (htb : Tight b) (h0 : 0 < b.length) (la : a.length ≤ 999) (lb : b.length ≤ 999) :
  Yld (r3_divide_S F a b) fun p => (inD 65536 p.1 ∧ Tight p.1 ∧ p.1.length ≤ a.length) ∧ (inD 65536 p.2 ∧ Tight p.2 ∧ p.2.length ≤ b.length) ∧ lv a = lv p.1 * lv b + lv p.2 ∧ lv p.2 < lv b := by
 unfold r3_divide_S
 have hBpos : 0 < lv b := by have := len_pos hb htb; have := lv_nonneg hb; omega
 have hBl := lv_lt hb
 have hmk : mk? (0 : Int) (a.length : Int) (a.length : Int) = some (List.replicate a.length 0) := by
  unfold mk?
  rw [if_pos (by omega), Int.toNat_natCast]
 refine Yld.bindE hmk ?_
 have hw1 : IntKind.i64.wrap ((b.length : Int) - 1) = ((b.length - 1 : Nat) : Int) := by rw [wi64]; omega
 have hw2 : IntKind.i64.wrap ((b.length : Int) - 2) = (b.length : Int) - 2 := by rw [wi64]; omega
 have hw3 : IntKind.i64.wrap ((a.length : Int) - 1) = (a.length : Int) - 1 := by rw [wi64]; omega
 rw [hw1, hw2, hw3]
 refine Yld.idx (by omega) (by omega) (Yld.bindE (at_y F b _) ?_)
 simp only [idx_dg, Int.toNat_natCast]
 have t2 : ((b.length : Int) - 2).toNat = b.length - 2 := by omega
 rw [t2]
 refine Yld.bind (P := fun p => (inD 65536 p.1 ∧ p.1.length = a.length) ∧ (inD 65536 p.2 ∧ Tight p.2 ∧ p.2.length ≤ b.length) ∧ lv a = lv p.1 * lv b + lv p.2 ∧ lv p.2 < lv b)
  (Yld.rounds a.length (fun (k : Nat) (s : List Int × List Int × Int) => s.2.2 = (a.length : Int) - 1 - (k : Int) ∧ (inD 65536 s.1 ∧ s.1.length = a.length) ∧ (inD 65536 s.2.1 ∧ Tight s.2.1) ∧ ds 65536 (fun i => dg a (a.length - k + i)) k = ds 65536 (fun i => dg s.1 (a.length - k + i)) k * lv b + lv s.2.1 ∧ lv s.2.1 < lv b ∧ ∀ i, i < a.length - k → dg s.1 i = 0) (by omega) ?_ ?_) ?_
 ·refine ⟨by dsimp only; omega, ⟨rep_in _, by simp⟩, ⟨nil_in, fun h => absurd h (Nat.lt_irrefl 0)⟩, ?_, ?_, fun i _ => dg_replicate⟩
  ·dsimp only
   rw [lv_nil]
   simp [ds]
  ·dsimp only
   rw [lv_nil]; exact hBpos
 ·rintro k ⟨q, r, kx⟩ hk ⟨rfl, ⟨qin, ql⟩, ⟨rin, rt⟩, hs, hlt, qz⟩
  dsimp only at qin ql rin rt hs hlt qz
  dsimp only [un3]
  have hrl : r.length ≤ b.length := llen_le rin rt (by omega)
  refine Yld.ite (fun h => ?_) (fun h => ?_)
  ·have hk' : k < a.length := by have := of_decide_eq_true h; omega
   have et : ((a.length : Int) - 1 - (k : Int)).toNat = a.length - 1 - k := by omega
   have hai := ha (a.length - 1 - k)
   obtain ⟨R, hR⟩ : ∃ R, R = dg a (a.length - 1 - k) + 65536 * lv r := ⟨_, rfl⟩
   have hr0 := lv_nonneg rin
   have hR0 : 0 ≤ R := by omega
   have hRlt : R < 65536 * lv b := by omega
   obtain ⟨t, htd⟩ : ∃ t, t = R / lv b := ⟨_, rfl⟩
   have htB : t * lv b ≤ R := by rw [htd]; exact Int.ediv_mul_le _ (by omega)
   have htB2 : R < (t + 1) * lv b := by rw [htd]; exact Int.lt_ediv_add_one_mul_self _ hBpos
   have ht0 : 0 ≤ t := by rw [htd]; exact Int.ediv_nonneg hR0 (by omega)
   have ht1 : t < 65536 := by rw [htd, Int.ediv_lt_iff_lt_mul hBpos]; exact hRlt
   refine Yld.bind (P := fun p => p.1 = q.set (a.length - 1 - k) t ∧ inD 65536 p.2 ∧ Tight p.2 ∧ lv p.2 = R - t * lv b) ?_ ?_
   ·refine Yld.idx (by omega) (by omega) ?_
    simp only [idx_dg, et]
    refine Yld.app (by simp; omega) ?_
    have hcin : inD 65536 ([dg a (a.length - 1 - k)] ++ r) := cons_in hai rin
    have hcv : lv ([dg a (a.length - 1 - k)] ++ r) = R := by rw [hR]; exact lv_cons _ _
    refine Yld.bind (trim_y (by simp; omega) (by simp; omega) hcin) ?_
    rintro c ⟨cin, ct, cv, cl⟩
    rw [hcv] at cv
    have clen : c.length ≤ b.length + 1 := llen_le cin ct (by rw [cv, Int.pow_succ]; omega)
    have he := est hb cin htb h0 rfl cv hRlt ht0 htB
    refine Yld.bindE (at_y F c _) (Yld.ln (Yld.bindE (at_y F c _) ?_))
    rw [if_neg (by omega), if_neg (by omega), Int.toNat_natCast, Int.toNat_natCast]
    have c1 := cin b.length
    have c2 := cin (b.length - 1)
    have c3 := cin (b.length - 2)
    have b1 := hb (b.length - 1)
    have b2 := hb (b.length - 2)
    refine Yld.lnE (dg c b.length * 4294967296 + dg c (b.length - 1) * 65536) (by simp only [wi64]; omega) (Yld.ln (Yld.bindE (at_y F c _) ?_))
    rw [t2]
    generalize hg1 : (if (b.length : Int) - 2 < 0 then 0 else dg c (b.length - 2)) = x3 at *
    generalize hg2 : (if (b.length : Int) - 2 < 0 then 0 else dg b (b.length - 2)) = y3 at *
    have hx3 : 0 ≤ x3 ∧ x3 < 65536 := by rw [← hg1]; split <;> omega
    have hy3 : 0 ≤ y3 ∧ y3 < 65536 := by rw [← hg2]; split <;> omega
    refine Yld.lnE (dg b (b.length - 1) * 65536 + y3) (by simp only [wi64]; omega) (Yld.quo (by omega) ?_)
    have hnw : IntKind.i64.wrap (dg c b.length * 4294967296 + dg c (b.length - 1) * 65536 + x3) = dg c b.length * 4294967296 + dg c (b.length - 1) * 65536 + x3 := by rw [wi64]; omega
    rw [hnw]
    generalize hnum : dg c b.length * 4294967296 + dg c (b.length - 1) * 65536 + x3 = num at *
    have hnum0 : 0 ≤ num ∧ num < 281474976710656 := by omega
    rw [tdiv_pos hnum0.1]
    generalize hden : dg b (b.length - 1) * 65536 + y3 = den at *
    have hq0 : 0 ≤ num / den := Int.ediv_nonneg hnum0.1 (by omega)
    have hq1 : num / den ≤ num := Int.ediv_le_self _ hnum0.1
    rw [wi64' (by omega) (by omega)]
    obtain ⟨d, hd⟩ : ∃ d, d = min 65535 (num / den) := ⟨_, rfl⟩
    have hd0 : t ≤ d ∧ d ≤ 65535 := by omega
    rw [← hd]
    refine Yld.bind (times_y hF hb (one_inD (by decide) (x := d) (by omega)) (by omega) (by simp)) ?_
    rintro p0 ⟨p0in, p0t, p0v, p0l⟩
    rw [lv_one] at p0v
    refine Yld.bind (P := fun p => p.1 = t ∧ inD 65536 p.2 ∧ p.2.length ≤ 9999 ∧ lv p.2 = t * lv b) (Yld.loop (fun (s : Int × List Int) => t ≤ s.1 ∧ s.1 ≤ 65535 ∧ inD 65536 s.2 ∧ s.2.length ≤ 9999 ∧ lv s.2 = s.1 * lv b) (fun s => (s.1 - t).toNat) ⟨hd0.1, hd0.2, p0in, by simp at p0l; dsimp only; omega, by rw [p0v, Int.mul_comm]⟩ (by dsimp only; omega) ?_) ?_
    ·rintro ⟨d, pt⟩ ⟨d1, d2, pin, pl, pv⟩
     dsimp only at d1 d2 pin pl pv
     dsimp only [un2]
     refine Yld.bindE (less_y hF cin pin (by omega) pl) ?_
     rw [cv, pv]
     refine Yld.ite (fun h => ?_) (fun h => ?_)
     ·have h' := of_decide_eq_true h
      have hdt : t < d := by
       rcases (by omega : d = t ∨ t < d) with e | e
       ·subst e; omega
       ·exact e
      have hbd : lv b ≤ d * lv b := by
       have := Int.mul_le_mul_of_nonneg_right (show 1 ≤ d by omega) (show 0 ≤ lv b by omega)
       omega
      refine Yld.bind (rminus_y hF pin hb pl (by omega) (by rw [pv]; exact hbd)) ?_
      rintro e ⟨e1, e2, e3, e4⟩
      have hwd : IntKind.i64.wrap (d - 1) = d - 1 := by rw [wi64]; omega
      rw [hwd]
      refine Yld.some (.inl ⟨_, rfl, ⟨by dsimp only; omega, by dsimp only; omega, e1, by dsimp only; omega, ?_⟩, by dsimp only; omega⟩)
      dsimp only
      rw [e3, pv, Int.sub_mul, Int.one_mul]
     ·have h' := of_decide_eq_false h
      have hdt : d = t := by
       rcases (by omega : d = t ∨ t + 1 ≤ d) with e | e
       ·exact e
       ·have := Int.mul_le_mul_of_nonneg_right e (show 0 ≤ lv b by omega)
        omega
      subst hdt
      exact Yld.some (.inr ⟨_, rfl, rfl, pin, pl, pv⟩)
    ·rintro ⟨d, pt⟩ ⟨rfl, pin, pl, pv⟩
     dsimp only at pin pl pv
     dsimp only [un2]
     refine Yld.idx (by omega) (by omega) (Yld.bind (rminus_y hF cin pin (by omega) pl (by rw [cv, pv]; exact htB)) ?_)
     rintro e ⟨e1, e2, e3, e4⟩
     exact Yld.some ⟨rfl, e1, e2, by rw [e3, cv, pv]⟩
   ·rintro ⟨q1, r1⟩ ⟨rfl, r1in, r1t, r1v⟩
    dsimp only at r1in r1t r1v
    dsimp only [un2]
    refine Yld.some (.inl ⟨_, rfl, ⟨by dsimp only; rw [wi64]; omega, ⟨set_inl (by omega) qin ⟨ht0, ht1⟩, by simp [ql]⟩, ⟨r1in, r1t⟩, ?_, ?_, fun i hi => ?_⟩, hk'⟩)
    ·dsimp only
     have ea : ∀ (f : Nat → Int), ds 65536 (fun i => f (a.length - (k + 1) + i)) (k + 1) = f (a.length - 1 - k) + 65536 * ds 65536 (fun i => f (a.length - k + i)) k := fun f => by
      rw [ds_succ']
      have e1 : a.length - (k + 1) + 0 = a.length - 1 - k := by omega
      have e2 : ∀ i, a.length - (k + 1) + (i + 1) = a.length - k + i := fun i => by omega
      simp only [e1, e2]
     rw [ea (dg a), ea (dg (q.set (a.length - 1 - k) t)), r1v, hR]
     have e3 : dg (q.set (a.length - 1 - k) t) (a.length - 1 - k) = t := by rw [dg_set (by omega), if_pos rfl]
     have e4 : ds 65536 (fun i => dg (q.set (a.length - 1 - k) t) (a.length - k + i)) k = ds 65536 (fun i => dg q (a.length - k + i)) k := ds_congr fun i _ => by rw [dg_set (by omega), if_neg (by omega)]
     rw [e3, e4, hs]
     grind
    ·dsimp only
     rw [r1v, Int.add_mul, Int.one_mul] at *
     omega
    ·dsimp only
     rw [dg_set (by omega), if_neg (by omega)]
     exact qz i (by omega)
  ·have hk' : k = a.length := by have := of_decide_eq_false h; omega
   subst hk'
   refine Yld.some (.inr ⟨_, rfl, ⟨qin, ql⟩, ⟨rin, rt, hrl⟩, ?_, hlt⟩)
   have e1 : ∀ i, a.length - a.length + i = i := fun i => by omega
   simp only [e1] at hs
   have e2 : ds 65536 (dg q) a.length = lv q := by unfold lv; rw [ql]
   dsimp only
   rw [← e2]
   exact hs
 ·rintro ⟨q, r⟩ ⟨⟨qin, ql⟩, ⟨rin, rt, rl⟩, hs, hlt⟩
  dsimp only at qin ql rin rt rl hs hlt
  dsimp only [un2]
  refine Yld.bind (trim_y (by omega) (by omega) qin) ?_
  rintro c ⟨cin, ct, cv, cl⟩
  exact Yld.some ⟨⟨cin, ct, by dsimp only; omega⟩, ⟨rin, rt, rl⟩, by dsimp only; rw [cv]; exact hs, hlt⟩
end Go.Proofs.YtcbbilehdaaffaaGreatDoor

namespace Go.Sk
set_option linter.unusedSimpArgs false
set_option linter.unusedVariables false
def fq (a b : Int) : Int := if decide (a < 0) != decide (b < 0) then -(absZ a / absZ b + if absZ a % absZ b = 0 then 0 else 1) else absZ a / absZ b
def fr (a b : Int) : Int :=
 let r := absZ a % absZ b
 let r' := if (decide (a < 0) != decide (b < 0)) && !decide (r = 0) then absZ b - r else r
 if b < 0 then -r' else r'
def quoO (a b : Int) : Option Int := if b = 0 then none else some (fq a b)
def remO (a b : Int) : Option Int := if b = 0 then none else some (fr a b)
theorem absZ_pos {b : Int} (h : b ≠ 0) : 0 < absZ b := by unfold absZ; split <;> omega
theorem absZ_nonneg (b : Int) : 0 ≤ absZ b := by unfold absZ; split <;> omega
theorem fq_fr {a b : Int} (h : b ≠ 0) : a = b * fq a b + fr a b := by
 have hp := absZ_pos h
 have hd := Int.mul_ediv_add_emod (absZ a) (absZ b)
 have h0 := Int.emod_nonneg (absZ a) (show absZ b ≠ 0 by omega)
 unfold fq fr
 dsimp only
 generalize absZ a / absZ b = q at *
 generalize absZ a % absZ b = r at *
 by_cases ha : a < 0
 ·have ea : absZ a = -a := if_pos ha
  by_cases hb : b < 0
  ·have eb : absZ b = -b := if_pos hb
   simp only [ha, hb, decide_true, bne_self_eq_false, Bool.false_eq_true, if_false, Bool.false_and, if_true]
   rw [ea, eb] at hd
   grind
  ·have eb : absZ b = b := if_neg hb
   have hx : (true != false) = true := rfl
   simp only [ha, hb, decide_true, decide_false, hx, if_true, Bool.true_and, if_false]
   rw [ea, eb] at hd
   by_cases hr : r = 0
   ·subst hr; simp; grind
   ·simp [hr]; grind
 ·have ea : absZ a = a := if_neg ha
  by_cases hb : b < 0
  ·have eb : absZ b = -b := if_pos hb
   have hx : (false != true) = true := rfl
   simp only [ha, hb, decide_true, decide_false, hx, if_true, Bool.true_and]
   rw [ea, eb] at hd
   by_cases hr : r = 0
   ·subst hr; simp; grind
   ·simp [hr]; grind
  ·have eb : absZ b = b := if_neg hb
   simp only [ha, hb, decide_false, bne_self_eq_false, Bool.false_eq_true, if_false, Bool.false_and]
   rw [ea, eb] at hd
   omega
theorem fr_range {a b : Int} (h : b ≠ 0) : absZ (fr a b) < absZ b ∧ (fr a b = 0 ∨ (decide (fr a b < 0) = decide (b < 0))) := by
 have hp := absZ_pos h
 have h0 := Int.emod_nonneg (absZ a) (show absZ b ≠ 0 by omega)
 have h1 := Int.emod_lt_of_pos (absZ a) hp
 unfold fr
 dsimp only
 generalize absZ a % absZ b = r at *
 have h2 : ∀ r', 0 ≤ r' → r' < absZ b → absZ (if b < 0 then -r' else r') < absZ b ∧ ((if b < 0 then -r' else r') = 0 ∨ decide ((if b < 0 then -r' else r') < 0) = decide (b < 0)) := fun r' g0 g1 => by
  by_cases hb : b < 0
  ·simp only [hb, if_true]
   refine ⟨by unfold absZ at *; split <;> omega, ?_⟩
   rcases (by omega : r' = 0 ∨ 0 < r') with e | e
   ·left; omega
   ·right; rw [decide_eq_decide]; simp; omega
  ·simp only [hb, if_false]
   refine ⟨by unfold absZ at *; split <;> omega, ?_⟩
   right; rw [decide_eq_decide]; simp; omega
 refine h2 _ ?_ ?_
 ·split <;> omega
 ·split
  ·next hc =>
   simp only [Bool.and_eq_true, Bool.not_eq_true', decide_eq_false_iff_not] at hc
   omega
  ·omega
theorem fq_unique {a b q r : Int} (h : b ≠ 0) (e : a = b * q + r) (h1 : absZ r < absZ b) (h2 : r = 0 ∨ decide (r < 0) = decide (b < 0)) : q = fq a b ∧ r = fr a b := by
 have e2 := fq_fr (a := a) h
 obtain ⟨g1, g2⟩ := fr_range (a := a) h
 generalize fq a b = Q at *
 generalize fr a b = S at *
 have e3 : b * (q - Q) = S - r := by rw [Int.mul_sub]; omega
 have h3 : absZ (S - r) < absZ b := by
  rw [decide_eq_decide] at h2 g2
  unfold absZ at *
  split at h1 <;> split at g1 <;> split <;> split at h1 <;> omega
 have h4 : q = Q := by
  rw [← e3, absZ_mul] at h3
  have hb := absZ_pos h
  rcases (by have := absZ_nonneg (q - Q); omega : absZ (q - Q) = 0 ∨ 1 ≤ absZ (q - Q)) with g | g
  ·unfold absZ at g; split at g <;> omega
  ·have := Int.mul_le_mul_of_nonneg_left g (Int.le_of_lt hb)
   omega
 refine ⟨h4, ?_⟩
 rw [h4, Int.sub_self, Int.mul_zero] at e3
 omega
theorem div_mod_of {A B q r : Int} (h : A = q * B + r) (h0 : 0 ≤ r) (h1 : r < B) : A / B = q ∧ A % B = r := by
 have hB : B ≠ 0 := by omega
 have e : A = r + B * q := by rw [h, Int.mul_comm]; omega
 constructor
 ·rw [e, Int.add_mul_ediv_left _ _ hB, Int.ediv_eq_zero_of_lt h0 h1, Int.zero_add]
 ·rw [e, Int.add_mul_emod_self_left, Int.emod_eq_of_lt h0 h1]
theorem absZ_zero {b : Int} : absZ b = 0 ↔ b = 0 := by unfold absZ; split <;> omega
set_option linter.unusedVariables false
theorem tq (n : Int) {m : Int} (hm : m ≠ 0) : Int.tdiv n m = (if decide (n < 0) != decide (m < 0) then -(absZ n / absZ m) else absZ n / absZ m) ∧ Int.tmod n m = (if n < 0 then -(absZ n % absZ m) else absZ n % absZ m) := by
  have e : Int.tmod n m = if n < 0 then -(absZ n % absZ m) else absZ n % absZ m := by
   by_cases h1 : n < 0
   ·have e1 : absZ n = -n := if_pos h1
    have e2 : n = -(-n) := by omega
    rw [if_pos h1, e1]
    conv => lhs; rw [e2]
    rw [Int.neg_tmod, tmod_pos (by omega)]
    congr 1
    by_cases h2 : m < 0
    ·rw [show absZ m = -m from if_pos h2, Int.emod_neg]
    ·rw [show absZ m = m from if_neg h2]
   ·have e1 : absZ n = n := if_neg h1
    rw [if_neg h1, e1, tmod_pos (by omega)]
    by_cases h2 : m < 0
    ·rw [show absZ m = -m from if_pos h2, Int.emod_neg]
    ·rw [show absZ m = m from if_neg h2]
  refine ⟨?_, e⟩
  by_cases h1 : n < 0
  ·have e1 : absZ n = -n := if_pos h1
   have e2 : n = -(-n) := by omega
   by_cases h2 : m < 0
   ·rw [show absZ m = -m from if_pos h2, e1]
    simp only [h1, h2, decide_true, bne_self_eq_false, Bool.false_eq_true, if_false]
    conv => lhs; rw [e2]
    rw [Int.neg_tdiv, ← Int.tdiv_neg, tdiv_pos (by omega)]
   ·rw [show absZ m = m from if_neg h2, e1]
    have hx : (true != false) = true := rfl
    simp only [h1, h2, decide_true, decide_false, hx, if_true]
    conv => lhs; rw [e2]
    rw [Int.neg_tdiv, tdiv_pos (by omega)]
  ·have e1 : absZ n = n := if_neg h1
   by_cases h2 : m < 0
   ·rw [show absZ m = -m from if_pos h2, e1]
    have hx : (false != true) = true := rfl
    simp only [h1, h2, decide_true, decide_false, hx, if_true]
    rw [← Int.neg_neg m, Int.tdiv_neg, tdiv_pos (by omega), Int.neg_neg]
   ·rw [show absZ m = m from if_neg h2, e1]
    simp only [h1, h2, decide_false, bne_self_eq_false, Bool.false_eq_true, if_false]
    rw [tdiv_pos (by omega)]
theorem fq_abs {a b : Int} (h : b ≠ 0) : absZ (fq a b) ≤ absZ a := by
 have hp := absZ_pos h
 have hd := Int.mul_ediv_add_emod (absZ a) (absZ b)
 have h0 := Int.emod_nonneg (absZ a) (show absZ b ≠ 0 by omega)
 have h1 := Int.emod_lt_of_pos (absZ a) hp
 have hq0 : 0 ≤ absZ a / absZ b := Int.ediv_nonneg (absZ_nonneg a) (by omega)
 have hq1 : absZ a / absZ b ≤ absZ a := Int.ediv_le_self _ (absZ_nonneg a)
 have ha := absZ_nonneg a
 unfold fq
 generalize absZ a / absZ b = q at *
 generalize absZ a % absZ b = r at *
 by_cases hr : r = 0
 ·rw [if_pos hr]
  split <;> unfold absZ at * <;> split <;> omega
 ·rw [if_neg hr]
  have := Int.mul_le_mul_of_nonneg_right (show 2 ≤ absZ b by omega) hq0
  split
  ·have e : absZ (-(q + 1)) = q + 1 := by unfold absZ; rw [if_pos (by omega)]; omega
   omega
  ·have e : absZ q = q := by unfold absZ; rw [if_neg (by omega)]
   omega
end Go.Sk

namespace Go.Sk
set_option linter.unusedSimpArgs false
set_option linter.unusedVariables false
end Go.Sk
namespace Go.Proofs.YtcbbilehdaaffaaGreatDoor
open Go Go.Sk
set_option linter.unusedSimpArgs false
set_option linter.unusedVariables false
end Go.Proofs.YtcbbilehdaaffaaGreatDoor

namespace Go.Sk
end Go.Sk
namespace Go.Proofs.YtcbbilehdaaffaaGreatDoor
open Go Go.Sk
set_option linter.unusedSimpArgs false
set_option linter.unusedVariables false
end Go.Proofs.YtcbbilehdaaffaaGreatDoor

namespace Go.Sk
set_option linter.unusedSimpArgs false
set_option linter.unusedVariables false
theorem ds_top {b : Int} {f : Nat → Int} {n k : Nat} (h : ∀ i, n ≤ i → f i = 0) (hk : n ≤ k) : ds b f k = ds b f n := ds_ext hk fun i h1 _ => h i h1
theorem pow2_pos (n : Nat) : (0 : Int) < 2 ^ n := Int.pow_pos (by decide)
theorem pow2_31 {n : Nat} (h : n ≤ 31) : (2 : Int) ^ n ≤ 2147483648 := by
 have := pow2_le h
 have e : (2 : Int) ^ 31 = 2147483648 := by decide
 omega
theorem shl_val {x : Int} {n : Nat} (hn : n ≤ 31) (hx : 0 ≤ x ∧ x < 4294967296) : shl? .u64 x (n : Int) = some (x * 2 ^ n) := by
 unfold shl?
 rw [if_neg (by omega)]
 have e4 : min ((n : Int)).toNat IntKind.u64.bits = n := by
  rw [Int.toNat_natCast]
  show min n 64 = _
  omega
 have hp := pow2_pos n
 have hq := pow2_31 hn
 have h1 := Int.mul_nonneg hx.1 (Int.le_of_lt hp)
 have h2 : x * 2 ^ n ≤ 4294967295 * 2147483648 := Int.mul_le_mul (by omega) hq (Int.le_of_lt hp) (by omega)
 rw [e4, wu64]
 congr 1
 omega
theorem mid_of {X : Int} {n : Nat} (hn : n ≤ 32) : X % 18446744073709551616 / 2 ^ n % 4294967296 = X / 2 ^ n % 4294967296 := by
 have hp := pow2_pos n
 have e : (18446744073709551616 : Int) = 2 ^ n * (2 ^ (32 - n) * 4294967296) := by
  have : (18446744073709551616 : Int) = 2 ^ (n + (32 - n) + 32) := by rw [show n + (32 - n) + 32 = 64 by omega]; decide
  rw [this, Int.pow_add, Int.pow_add, Int.mul_assoc]; rfl
 have e2 : X = X % 18446744073709551616 + 2 ^ n * ((2 ^ (32 - n) * 4294967296) * (X / 18446744073709551616)) := by
  rw [← Int.mul_assoc, ← e]; exact (Int.emod_add_mul_ediv X 18446744073709551616).symm
 have e3 : X / 2 ^ n = X % 18446744073709551616 / 2 ^ n + 2 ^ (32 - n) * 4294967296 * (X / 18446744073709551616) := by
  rw [← Int.add_mul_ediv_left (X % 18446744073709551616) _ (by omega : (2 : Int) ^ n ≠ 0), ← e2]
 have e4 : 2 ^ (32 - n) * 4294967296 * (X / 18446744073709551616) = 4294967296 * (2 ^ (32 - n) * (X / 18446744073709551616)) := by grind
 rw [e3, e4, Int.add_mul_emod_self_left]
theorem av_pair {w : A16} (h : inD 4294967296 w.l) (i : Nat) : dg w.l i + dg w.l (i + 1) * 4294967296 = av w / 4294967296 ^ i % 18446744073709551616 := by
 have h1 : av w = ds 4294967296 (dg w.l) (16 + (i + 2)) := (ds_top (fun j hj => dg_ge (by rw [A16.l_len]; exact hj)) (by omega)).symm
 have h2 : 16 + (i + 2) = i + (2 + 16) := by omega
 rw [h1, h2, ds_hi (by decide) h, ds_split]
 have e : ds 4294967296 (fun j => dg w.l (i + j)) 2 = dg w.l i + dg w.l (i + 1) * 4294967296 := by simp [ds]
 have p : (4294967296 : Int) ^ 2 = 18446744073709551616 := by decide
 have a := h i
 have b := h (i + 1)
 rw [e, p, Int.add_mul_emod_self_left]
 omega
theorem toA_ext {w : A16} {z : Int} (h : ∀ i, i < 16 → dg w.l i = nd 4294967296 z i) : w = toA z := by
 have hin : inD 4294967296 w.l := fun i => by
  by_cases hi : i < 16
  ·rw [h i hi]; exact nd_range _ _ (by decide) i
  ·rw [dg_ge (by rw [A16.l_len]; omega)]; decide
 refine eq_toA' hin ?_
 unfold av
 rw [ds_congr h, ds_nd (by decide)]
 rfl
end Go.Sk
namespace Go.Proofs.YtcbbilehdaaffaaGreatDoor
open Go Go.Sk
set_option linter.unusedSimpArgs false
set_option linter.unusedVariables false
theorem up_y {F : Nat} (hF : 100 < F) {w : A16} (hw : inD 4294967296 w.l) {n : Nat} (hn : n ≤ 31) : Yld (w_up_S F w (n : Int)) fun p => inD 4294967296 p.1.l ∧ 0 ≤ p.2 ∧ p.2 < 2 ^ n ∧ av p.1 + p.2 * MM = av w * 2 ^ n := by
 unfold w_up_S
 have hp := pow2_pos n
 have hq := pow2_31 hn
 refine Yld.bind (P := fun p => inD 4294967296 p.1.l ∧ 0 ≤ p.2 ∧ p.2 < 2 ^ n ∧ av p.1 + p.2 * MM = av w * 2 ^ n) (Yld.rounds 16 (fun (k : Nat) (s : A16 × Int × Int) => s.2.2 = (k : Int) ∧ inD 4294967296 s.1.l ∧ 0 ≤ s.2.1 ∧ s.2.1 < 2 ^ n ∧ ds 4294967296 (dg s.1.l) k + s.2.1 * 4294967296 ^ k = ds 4294967296 (dg w.l) k * 2 ^ n) (by omega) ⟨rfl, zero_in, Int.le_refl _, hp, by simp [ds]⟩ ?_) ?_
 ·rintro k ⟨o, c, kx⟩ hk ⟨rfl, oin, c0, c1, os⟩
  dsimp only at oin c0 c1 os
  dsimp only [un3]
  refine Yld.ite (fun h => ?_) (fun h => ?_)
  ·have hk' : k < 16 := by have := of_decide_eq_true h; omega
   have hd := hw k
   refine Yld.idx (by omega) (by rw [A16.l_len]; omega) ?_
   simp only [idx_dg, Int.toNat_natCast]
   have hu : IntKind.u64.wrap (dg w.l k) = dg w.l k := by rw [wu64]; omega
   rw [hu]
   refine Yld.bindE (shl_val hn hd) ?_
   have hv : dg w.l k * 2 ^ n ≤ 4294967295 * 2 ^ n := Int.mul_le_mul_of_nonneg_right (by omega) (by omega)
   have hv0 : 0 ≤ dg w.l k * 2 ^ n := Int.mul_nonneg hd.1 (by omega)
   have hior : ior .u64 c (dg w.l k * 2 ^ n) = dg w.l k * 2 ^ n + c := by
    rw [ior_comm]
    exact ior_add n hv0 (by omega) (Int.mul_emod_left _ _) c0 c1 (by omega)
   rw [hior, wu32]
   refine Yld.ln (Yld.idx (by omega) (by rw [A16.l_len]; omega) (Yld.some (.inl ⟨_, rfl, ⟨by dsimp only; rw [wi64]; omega, set_in oin (by omega) (by omega) (by omega), by dsimp only; omega, by dsimp only; omega, ?_⟩, hk'⟩)))
   dsimp only
   rw [A16.ds_set hk', ds_succ, Int.add_mul, ← os, Int.pow_succ]
   have e2 : dg w.l k * 2 ^ n + c = (dg w.l k * 2 ^ n + c) % 4294967296 + (dg w.l k * 2 ^ n + c) / 4294967296 * 4294967296 := by omega
   generalize (dg w.l k * 2 ^ n + c) % 4294967296 = u at *
   generalize (dg w.l k * 2 ^ n + c) / 4294967296 = v at *
   have e3 : dg w.l k * 2 ^ n = u + v * 4294967296 - c := by omega
   have e4 : dg w.l k * 4294967296 ^ k * 2 ^ n = (dg w.l k * 2 ^ n) * 4294967296 ^ k := by grind
   rw [e4, e3]
   grind
  ·have hk' : k = 16 := by have := of_decide_eq_false h; omega
   subst hk'
   exact Yld.some (.inr ⟨_, rfl, oin, c0, c1, os⟩)
 ·rintro ⟨o, c⟩ ⟨oin, c0, c1, os⟩
  dsimp only at oin c0 c1 os
  dsimp only [un2]
  have hu : IntKind.u32.wrap c = c := by rw [wu32]; omega
  rw [hu]
  exact Yld.some ⟨oin, c0, c1, os⟩
theorem shr_val {x : Int} {n : Nat} (hn : n ≤ 31) : shr? .u64 x (n : Int) = some (x / 2 ^ n) := by
 unfold shr?
 rw [if_neg (by omega)]
 have e4 : min ((n : Int)).toNat IntKind.u64.bits = n := by
  rw [Int.toNat_natCast]
  show min n 64 = _
  omega
 rw [e4]
theorem p32' : (2 : Int) ^ 32 = 4294967296 := by decide
theorem down_y {F : Nat} (hF : 100 < F) {w : A16} (hw : inD 4294967296 w.l) {n : Nat} (hn : n ≤ 31) : w_down_S F w (n : Int) = some (toA (av w / 2 ^ n)) := by
 refine Yld.eq ?_
 unfold w_down_S
 have hp := pow2_pos n
 refine Yld.bind (P := fun o => o = toA (av w / 2 ^ n)) (Yld.rounds 16 (fun (k : Nat) (s : A16 × Int) => s.2 = (k : Int) ∧ ∀ i, i < k → dg s.1.l i = nd 4294967296 (av w / 2 ^ n) i) (by omega) ⟨rfl, fun i h => absurd h (Nat.not_lt_zero i)⟩ ?_) (fun o ho => Yld.some ho)
 rintro k ⟨o, kx⟩ hk ⟨rfl, os⟩
 dsimp only at os
 dsimp only [un2]
 refine Yld.ite (fun h => ?_) (fun h => ?_)
 ·have hk' : k < 16 := by have := of_decide_eq_true h; omega
  have hd := hw k
  have hd1 := hw (k + 1)
  have hw1 : IntKind.i64.wrap ((k : Int) + 1) = ((k + 1 : Nat) : Int) := by rw [wi64]; omega
  rw [hw1]
  refine Yld.bind (P := fun o' => o' = o.set (k : Int) (nd 4294967296 (av w / 2 ^ n) k)) ?_ ?_
  ·refine Yld.bind (P := fun z => z = dg w.l (k + 1)) ?_ ?_
   ·refine Yld.ite (fun h => ?_) (fun h => ?_)
    ·have h' := of_decide_eq_true h
     refine Yld.idx (by omega) (by rw [A16.l_len]; omega) (Yld.some ?_)
     simp only [idx_dg, Int.toNat_natCast]
     rw [wu64]; omega
    ·have h' := of_decide_eq_false h
     exact Yld.some (dg_ge (by rw [A16.l_len]; omega)).symm
   ·rintro z rfl
    refine Yld.lnE (dg w.l (k + 1) * 4294967296) (by rw [wu64]; omega) (Yld.idx (by omega) (by rw [A16.l_len]; omega) ?_)
    simp only [idx_dg, Int.toNat_natCast]
    have hu : IntKind.u64.wrap (dg w.l k) = dg w.l k := by rw [wu64]; omega
    have hior : ior .u64 (dg w.l (k + 1) * 4294967296) (dg w.l k) = dg w.l (k + 1) * 4294967296 + dg w.l k := ior_add 32 (by omega) (by omega) (by rw [p32']; omega) hd.1 (by rw [p32']; omega) (by omega)
    rw [hu, hior]
    refine Yld.bindE (shr_val hn) (Yld.idx (by omega) (by rw [A16.l_len]; omega) (Yld.some ?_))
    congr 1
    have e : dg w.l (k + 1) * 4294967296 + dg w.l k = av w / 4294967296 ^ k % 18446744073709551616 := by rw [← av_pair hw]; omega
    rw [e, wu32, mid_of (by omega)]
    unfold nd
    rw [Int.ediv_ediv_of_nonneg (Int.le_of_lt (Int.pow_pos (by decide))), Int.ediv_ediv_of_nonneg (by omega), Int.mul_comm]
  ·rintro o' rfl
   refine Yld.some (.inl ⟨_, rfl, ⟨rfl, fun i hi => ?_⟩, hk'⟩)
   dsimp only
   rw [set_dg (by omega) (by omega), Int.toNat_natCast]
   split
   ·next e => rw [e]
   ·exact os i (by omega)
 ·have hk' : k = 16 := by have := of_decide_eq_false h; omega
  subst hk'
  exact Yld.some (.inr ⟨_, rfl, toA_ext os⟩)
theorem short_y {F : Nat} (hF : 100 < F) {a : A16} (ha : inD 4294967296 a.l) {b : Int} (hb : 0 < b ∧ b < 4294967296) : w_short_S F a b = some (toA (av a / b), av a % b) := by
 refine Yld.eq ?_
 unfold w_short_S
 have hub : IntKind.u64.wrap b = b := by rw [wu64]; omega
 rw [hub]
 refine Yld.bind (P := fun p => p = (toA (av a / b), av a % b)) (Yld.rounds 16 (fun (k : Nat) (s : A16 × Int × Int) => s.2.2 = 15 - (k : Int) ∧ inD 4294967296 s.1.l ∧ 0 ≤ s.2.1 ∧ s.2.1 < b ∧ ds 4294967296 (fun i => dg a.l (16 - k + i)) k = ds 4294967296 (fun i => dg s.1.l (16 - k + i)) k * b + s.2.1) (by omega) ⟨by decide, zero_in, Int.le_refl _, hb.1, by simp [ds]⟩ ?_) ?_
 ·rintro k ⟨q, r, kx⟩ hk ⟨rfl, qin, r0, r1, hs⟩
  dsimp only at qin r0 r1 hs
  dsimp only [un3]
  refine Yld.ite (fun h => ?_) (fun h => ?_)
  ·have hk' : k < 16 := by have := of_decide_eq_true h; omega
   have et : (15 - (k : Int)).toNat = 15 - k := by omega
   have hd := ha (15 - k)
   refine Yld.idx (by omega) (by rw [A16.l_len]; omega) ?_
   simp only [idx_dg, et]
   have hu : IntKind.u64.wrap (dg a.l (15 - k)) = dg a.l (15 - k) := by rw [wu64]; omega
   have hr : IntKind.u64.wrap (r * 4294967296) = r * 4294967296 := by rw [wu64]; omega
   have hior : ior .u64 (r * 4294967296) (dg a.l (15 - k)) = r * 4294967296 + dg a.l (15 - k) := ior_add 32 (by omega) (by omega) (by rw [p32]; omega) hd.1 (by rw [p32]; omega) (by omega)
   rw [hu, hr, hior]
   obtain ⟨v, hv⟩ : ∃ v, v = r * 4294967296 + dg a.l (15 - k) := ⟨_, rfl⟩
   rw [← hv]
   have hv0 : 0 ≤ v := by omega
   have hd1 := Int.mul_ediv_add_emod v b
   have hm0 := Int.emod_nonneg v (show b ≠ 0 by omega)
   have hm1 := Int.emod_lt_of_pos v hb.1
   have hq0 : 0 ≤ v / b := Int.ediv_nonneg hv0 (by omega)
   have hq1 : v / b < 4294967296 := by rw [Int.ediv_lt_iff_lt_mul hb.1]; omega
   refine Yld.ln (Yld.quo (by omega) (Yld.idx (by omega) (by rw [A16.l_len]; omega) (Yld.rem (by omega) (Yld.some (.inl ⟨_, rfl, ?_, hk'⟩)))))
   rw [tdiv_pos hv0, tmod_pos hv0]
   have e1 : IntKind.u32.wrap (IntKind.u64.wrap (v / b)) = v / b := by simp only [wu32, wu64]; omega
   rw [e1]
   have ei : (15 - (k : Int)) = ((15 - k : Nat) : Int) := by omega
   dsimp only
   refine ⟨by rw [wi64]; omega, by rw [ei]; exact set_in qin (by omega) (by omega) (by omega), hm0, hm1, ?_⟩
   have ea : ∀ (f : Nat → Int), ds 4294967296 (fun i => f (16 - (k + 1) + i)) (k + 1) = f (15 - k) + 4294967296 * ds 4294967296 (fun i => f (16 - k + i)) k := fun f => by
    rw [ds_succ']
    have e1 : 16 - (k + 1) + 0 = 15 - k := by omega
    have e2 : ∀ i, 16 - (k + 1) + (i + 1) = 16 - k + i := fun i => by omega
    simp only [e1, e2]
   rw [ea (dg a.l), ea (dg (q.set (15 - (k : Int)) (v / b)).l), ei]
   have e3 : dg (q.set ((15 - k : Nat) : Int) (v / b)).l (15 - k) = v / b := by rw [set_dg (by omega) (by omega), Int.toNat_natCast, if_pos rfl]
   have e4 : ds 4294967296 (fun i => dg (q.set ((15 - k : Nat) : Int) (v / b)).l (16 - k + i)) k = ds 4294967296 (fun i => dg q.l (16 - k + i)) k := ds_congr fun i _ => by rw [set_dg (by omega) (by omega), Int.toNat_natCast, if_neg (by omega)]
   rw [e3, e4, hs]
   generalize v / b = Q at *
   generalize v % b = M at *
   grind
  ·have hk' : k = 16 := by have := of_decide_eq_false h; omega
   subst hk'
   refine Yld.some (.inr ⟨_, rfl, ?_⟩)
   have e1 : ∀ i, 16 - 16 + i = i := fun i => by omega
   simp only [e1] at hs
   have hs' : av a = av q * b + r := hs
   have hm := Int.emod_emod_of_dvd
   have hB : b ≠ 0 := by omega
   have e : av a = r + b * av q := by rw [hs', Int.mul_comm]; omega
   have q1 : av a / b = av q := by rw [e, Int.add_mul_ediv_left _ _ hB, Int.ediv_eq_zero_of_lt r0 r1, Int.zero_add]
   have q2 : av a % b = r := by rw [e, Int.add_mul_emod_self_left, Int.emod_eq_of_lt r0 r1]
   rw [q1, q2, toA_av qin]
 ·rintro ⟨q, r⟩ he
  dsimp only [un2]
  cases he
  refine Yld.some ?_
  have hm0 := Int.emod_nonneg (av a) (show b ≠ 0 by omega)
  have hm1 := Int.emod_lt_of_pos (av a) hb.1
  have : IntKind.u32.wrap (av a % b) = av a % b := by rw [wu32]; omega
  rw [this]
end Go.Proofs.YtcbbilehdaaffaaGreatDoor

namespace Go.Sk
set_option linter.unusedSimpArgs false
set_option linter.unusedVariables false
theorem A17.set_dg {w : A17} {i x : Int} (h0 : 0 ≤ i) (h1 : i < 17) (j : Nat) : dg (w.set i x).l j = if j = i.toNat then x else dg w.l j := by
 rw [A17.set_l, Go.Sk.dg_set (by rw [A17.l_len]; omega)]
theorem A17.set_in {w : A17} {i x : Int} (h : inD 4294967296 w.l) (h0 : 0 ≤ i) (h1 : i < 17) (hx : 0 ≤ x ∧ x < 4294967296) : inD 4294967296 (w.set i x).l := fun j => by
 rw [A17.set_dg h0 h1]
 split
 ·exact hx
 ·exact h j
def win (l : List Int) (j n : Nat) : Int := ds 4294967296 (fun i => dg l (j + i)) n
theorem win_succ (l : List Int) (j n : Nat) : win l j (n + 1) = win l j n + dg l (j + n) * 4294967296 ^ n := rfl
theorem win_nonneg {l : List Int} (h : inD 4294967296 l) (j n : Nat) : 0 ≤ win l j n := ds_nonneg (by decide) fun i _ => (h _).1
theorem win_lt {l : List Int} (h : inD 4294967296 l) (j n : Nat) : win l j n < 4294967296 ^ n := ds_lt (by decide) fun i _ => h _
theorem win_congr {l m : List Int} {j n : Nat} (h : ∀ i, j ≤ i → i < j + n → dg l i = dg m i) : win l j n = win m j n := ds_congr fun i hi => h _ (by omega) (by omega)
theorem win_div {l : List Int} (h : inD 4294967296 l) (j n k : Nat) : win l j (n + k) / 4294967296 ^ n = win l (j + n) k := by
 unfold win
 rw [ds_hi (by decide) fun i => h _]
 simp only [Nat.add_assoc]
theorem win_cons (l : List Int) (j n : Nat) : win l j (n + 1) = dg l j + 4294967296 * win l (j + 1) n := by
 unfold win
 rw [ds_succ']
 have e : ∀ i, j + (i + 1) = j + 1 + i := fun i => by omega
 have e2 : ds 4294967296 (fun i => dg l (j + (i + 1))) n = ds 4294967296 (fun i => dg l (j + 1 + i)) n := ds_congr fun i _ => by rw [e]
 rw [e2]
 rfl
structure Kn (B P v1 v2 V u2 u0 R t : Int) : Prop where
 P0 : 0 < P
 v10 : 2147483648 ≤ v1
 v11 : v1 < B
 v20 : 0 ≤ v2 ∧ v2 < B
 V0 : (v1 * B + v2) * P ≤ V
 V1 : V < (v1 * B + v2 + 1) * P
 u00 : 0 ≤ u0 ∧ u0 < B
 R0 : (u2 * B + u0) * P ≤ R
 R1 : R < (u2 * B + u0 + 1) * P
 Rt : t * V ≤ R
 tR : R < (t + 1) * V
 t0 : 0 ≤ t
 t1 : t < B
theorem Kn.up {B P v1 v2 V u2 u0 R t : Int} (k : Kn B P v1 v2 V u2 u0 R t) : t * (v1 * B + v2) ≤ u2 * B + u0 := by
 have h1 : t * ((v1 * B + v2) * P) ≤ t * V := Int.mul_le_mul_of_nonneg_left k.V0 k.t0
 have h2 : (t * (v1 * B + v2)) * P < (u2 * B + u0 + 1) * P := by
  have e : t * ((v1 * B + v2) * P) = (t * (v1 * B + v2)) * P := by grind
  rw [e] at h1
  have := k.Rt
  have := k.R1
  omega
 have := Int.lt_of_mul_lt_mul_right h2 (Int.le_of_lt k.P0)
 omega
theorem Kn.up1 {B P v1 v2 V u2 u0 R t : Int} (k : Kn B P v1 v2 V u2 u0 R t) : t * v1 ≤ u2 := by
 have h := k.up
 have h3 : 0 ≤ t * v2 := Int.mul_nonneg k.t0 k.v20.1
 have hB : 0 < B := by have := k.v20; omega
 have h4 : (t * v1) * B < (u2 + 1) * B := by
  have e : t * (v1 * B + v2) = (t * v1) * B + t * v2 := by grind
  rw [e] at h
  have := k.u00
  have e2 : (u2 + 1) * B = u2 * B + B := by grind
  omega
 have := Int.lt_of_mul_lt_mul_right h4 (Int.le_of_lt hB)
 omega
theorem Kn.u2lt {B P v1 v2 V u2 u0 R t : Int} (k : Kn B P v1 v2 V u2 u0 R t) : u2 < v1 * B + B := by
 have hB : 0 < B := by have := k.v20; omega
 have hP := k.P0
 have hV : 0 ≤ V := by
  have h1 : 0 ≤ (v1 * B + v2) * P := Int.mul_nonneg (by have := Int.mul_nonneg (show 0 ≤ v1 by have := k.v10; omega) (Int.le_of_lt hB); have := k.v20; omega) (Int.le_of_lt hP)
  have := k.V0
  omega
 have h1 : (t + 1) * V ≤ B * V := Int.mul_le_mul_of_nonneg_right (by have := k.t1; omega) hV
 have h2 : B * V ≤ B * ((v1 * B + v2 + 1) * P) := Int.mul_le_mul_of_nonneg_left (Int.le_of_lt k.V1) (Int.le_of_lt hB)
 have h3 : (v1 * B + v2 + 1) * P ≤ (v1 * B + B) * P := Int.mul_le_mul_of_nonneg_right (by have := k.v20; omega) (Int.le_of_lt hP)
 have h4 : B * ((v1 * B + v2 + 1) * P) ≤ B * ((v1 * B + B) * P) := Int.mul_le_mul_of_nonneg_left h3 (Int.le_of_lt hB)
 have h5 : u2 * B * P ≤ (u2 * B + u0) * P := Int.mul_le_mul_of_nonneg_right (by have := k.u00; omega) (Int.le_of_lt hP)
 have h6 : u2 * (B * P) < (v1 * B + B) * (B * P) := by
  have e1 : u2 * (B * P) = u2 * B * P := by grind
  have e2 : (v1 * B + B) * (B * P) = B * ((v1 * B + B) * P) := by grind
  rw [e1, e2]
  have := k.R0
  have := k.tR
  omega
 exact Int.lt_of_mul_lt_mul_right h6 (Int.le_of_lt (Int.mul_pos hB hP))
theorem Kn.fin {B P v1 v2 V u2 u0 R t d : Int} (k : Kn B P v1 v2 V u2 u0 R t) (hd0 : 0 ≤ d) (h : d * (v1 * B + v2) ≤ u2 * B + u0) (hd : d < B) : d ≤ t + 1 := by
 rcases (by omega : d ≤ t + 1 ∨ t + 1 ≤ d - 1) with g | g
 ·exact g
 ·have hB : 0 < B := by omega
  have hP := k.P0
  have hv1 := k.v10
  have h5 : B * P ≤ (v1 * B + v2) * P := Int.mul_le_mul_of_nonneg_right (by have h := Int.mul_le_mul_of_nonneg_right (show 1 ≤ v1 by omega) (Int.le_of_lt hB); have := k.v20; omega) (Int.le_of_lt hP)
  have hV0 := k.V0
  have hBP := Int.mul_pos hB hP
  have h1 : (t + 1) * V ≤ (d - 1) * V := Int.mul_le_mul_of_nonneg_right g (by omega)
  have h2 : d * V ≤ d * ((v1 * B + v2 + 1) * P) := Int.mul_le_mul_of_nonneg_left (Int.le_of_lt k.V1) hd0
  have h3 : d * (v1 * B + v2) * P ≤ (u2 * B + u0) * P := Int.mul_le_mul_of_nonneg_right h (Int.le_of_lt hP)
  have e : d * ((v1 * B + v2 + 1) * P) = d * (v1 * B + v2) * P + d * P := by grind
  have h4 : d * P < B * P := Int.mul_lt_mul_of_pos_right hd hP
  have e2 : (d - 1) * V = d * V - V := by grind
  have := k.R0
  have := k.tR
  omega
end Go.Sk
namespace Go.Proofs.YtcbbilehdaaffaaGreatDoor
open Go Go.Sk
set_option linter.unusedSimpArgs false
set_option linter.unusedVariables false
theorem guess_y {F : Nat} (hF : 18446744073709551616 < F) {v : A16} {u : A17} {n j : Nat} (hn : 2 ≤ n ∧ n ≤ 16) (hj : j + n ≤ 16) (hv : inD 4294967296 v.l) (hu : inD 4294967296 u.l) {P V R t : Int}
  (K : Kn 4294967296 P (dg v.l (n - 1)) (dg v.l (n - 2)) V (dg u.l (j + n) * 4294967296 + dg u.l (j + n - 1)) (dg u.l (j + n - 2)) R t) :
  Yld (w_guess_S F v (n : Int) (j : Int) u) fun d => t ≤ d ∧ d ≤ t + 1 ∧ 0 ≤ d ∧ d < 4294967296 := by
 unfold w_guess_S
 have hw0 : IntKind.i64.wrap ((j : Int) + (n : Int)) = ((j + n : Nat) : Int) := by rw [wi64]; omega
 have hw1 : IntKind.i64.wrap (((j + n : Nat) : Int) - 1) = ((j + n - 1 : Nat) : Int) := by rw [wi64]; omega
 have hw2 : IntKind.i64.wrap (((j + n : Nat) : Int) - 2) = ((j + n - 2 : Nat) : Int) := by rw [wi64]; omega
 have hw3 : IntKind.i64.wrap ((n : Int) - 1) = ((n - 1 : Nat) : Int) := by rw [wi64]; omega
 have hw4 : IntKind.i64.wrap ((n : Int) - 2) = ((n - 2 : Nat) : Int) := by rw [wi64]; omega
 simp only [hw0, hw1, hw2, hw3, hw4]
 refine Yld.idx (by omega) (by rw [A17.l_len]; omega) (Yld.idx (by omega) (by rw [A17.l_len]; omega) (Yld.idx (by omega) (by rw [A16.l_len]; omega) ?_))
 simp only [idx_dg, Int.toNat_natCast]
 have a1 := hu (j + n)
 have a2 := hu (j + n - 1)
 have a3 := hu (j + n - 2)
 have b1 := hv (n - 1)
 have b2 := hv (n - 2)
 generalize hx1 : dg u.l (j + n) = x1 at *
 generalize hx2 : dg u.l (j + n - 1) = x2 at *
 generalize hx3 : dg u.l (j + n - 2) = u0 at *
 generalize hy1 : dg v.l (n - 1) = v1 at *
 generalize hy2 : dg v.l (n - 2) = v2 at *
 have e1 : IntKind.u64.wrap ((IntKind.u64.wrap x1) * 4294967296) = x1 * 4294967296 := by simp only [wu64]; omega
 have e2 : IntKind.u64.wrap x2 = x2 := by rw [wu64]; omega
 have e3 : IntKind.u64.wrap v1 = v1 := by rw [wu64]; omega
 have hior : ior .u64 (x1 * 4294967296) x2 = x1 * 4294967296 + x2 := ior_add 32 (by omega) (by omega) (by rw [p32]; omega) a2.1 (by rw [p32]; omega) (by omega)
 rw [e1, e2, e3, hior]
 obtain ⟨u2, hu2⟩ : ∃ u2, u2 = x1 * 4294967296 + x2 := ⟨_, rfl⟩
 rw [← hu2] at K ⊢
 have hv1 := K.v10
 have h20 : 0 ≤ u2 := by omega
 have h21 : u2 < 18446744073709551616 := by omega
 have hup1 := K.up1
 have hup := K.up
 have hlt := K.u2lt
 have ht0 := K.t0
 have ht1 := K.t1
 have hd1 := Int.mul_ediv_add_emod u2 v1
 have hm0 := Int.emod_nonneg u2 (show v1 ≠ 0 by omega)
 have hm1 := Int.emod_lt_of_pos u2 (show 0 < v1 by omega)
 have hq1 : u2 / v1 ≤ u2 := Int.ediv_le_self _ h20
 have hqn : 0 ≤ v1 * (u2 / v1) := Int.mul_nonneg (by omega) (Int.ediv_nonneg h20 (by omega))
 have hqt : t ≤ u2 / v1 := by rw [Int.le_ediv_iff_mul_le (by omega)]; exact hup1
 refine Yld.quo (by omega) (Yld.rem (by omega) ?_)
 rw [tdiv_pos h20, tmod_pos h20]
 have e4 : IntKind.u64.wrap (u2 / v1) = u2 / v1 := by rw [wu64]; omega
 rw [e4]
 refine Yld.bind (P := fun d => t ≤ d ∧ d ≤ t + 1 ∧ 0 ≤ d ∧ d < 4294967296) (Yld.loop (fun (s : Int × Int) => t ≤ s.1 ∧ s.1 ≤ u2 ∧ 0 ≤ s.2 ∧ s.2 ≤ u2 ∧ v1 * s.1 + s.2 = u2) (fun s => s.1.toNat) ⟨hqt, hq1, hm0, by dsimp only; omega, hd1⟩ (by dsimp only; omega) ?_) (fun d hd => Yld.some hd)
 rintro ⟨d, r⟩ ⟨d0, d1, r0, r1, hs⟩
 dsimp only at d0 d1 r0 r1 hs
 dsimp only [un2]
 have hdn : 0 ≤ d := by omega
 have step : t ≤ d - 1 → r < 4294967296 → Yld (letN (IntKind.u64.wrap (r + v1)) fun x_12 => (some (.inl (IntKind.u64.wrap (d - 1), x_12)) : Option ((Int × Int) ⊕ Int))) fun o => (∃ s', o = .inl s' ∧ (t ≤ s'.1 ∧ s'.1 ≤ u2 ∧ 0 ≤ s'.2 ∧ s'.2 ≤ u2 ∧ v1 * s'.1 + s'.2 = u2) ∧ s'.1.toNat < d.toNat) ∨ ∃ t', o = .inr t' ∧ t ≤ t' ∧ t' ≤ t + 1 ∧ 0 ≤ t' ∧ t' < 4294967296 := fun g hr => by
  have e5 : IntKind.u64.wrap (r + v1) = r + v1 := by rw [wu64]; omega
  have e6 : IntKind.u64.wrap (d - 1) = d - 1 := by rw [wu64]; omega
  have e7 : v1 * (d - 1) + (r + v1) = u2 := by rw [Int.mul_sub]; omega
  have e8 : 0 ≤ v1 * (d - 1) := Int.mul_nonneg (by omega) (by omega)
  rw [e5, e6]
  exact Yld.ln (Yld.some (.inl ⟨_, rfl, ⟨g, by dsimp only; omega, by dsimp only; omega, by dsimp only; omega, e7⟩, by dsimp only; omega⟩))
 by_cases hr : r < 4294967296
 ·have hdr : decide (r < 4294967296) = true := decide_eq_true hr
  by_cases hd : 4294967296 ≤ d
  ·have hdd : decide (4294967296 ≤ d) = true := decide_eq_true hd
   rw [hdr, hdd]
   refine Yld.g0 rfl (Yld.g0 rfl (Yld.ift rfl ?_))
   exact step (by omega) hr
  ·have hdd : decide (4294967296 ≤ d) = false := decide_eq_false hd
   rw [hdr, hdd]
   refine Yld.g1 rfl (Yld.idx (by omega) (by rw [A16.l_len]; omega) (Yld.g1 rfl (Yld.idx (by omega) (by rw [A17.l_len]; omega) ?_)))
   simp only [idx_dg, Int.toNat_natCast, hx3, hy2, Bool.true_and, Bool.false_or]
   have e5 : IntKind.u64.wrap (r * 4294967296) = r * 4294967296 := by rw [wu64]; omega
   have e6 : IntKind.u64.wrap u0 = u0 := by rw [wu64]; omega
   have e7 : IntKind.u64.wrap v2 = v2 := by rw [wu64]; omega
   have hm := mul_bound (m := 4294967296) ⟨hdn, by omega⟩ b2
   have e8 : IntKind.u64.wrap (d * v2) = d * v2 := by rw [wu64]; omega
   have hior2 : ior .u64 (r * 4294967296) u0 = r * 4294967296 + u0 := ior_add 32 (by omega) (by omega) (by rw [p32]; omega) a3.1 (by rw [p32]; omega) (by omega)
   rw [e5, e6, e7, e8, hior2]
   have e9 : d * (v1 * 4294967296 + v2) = (v1 * d) * 4294967296 + d * v2 := by grind
   refine Yld.ite (fun h => ?_) (fun h => ?_)
   ·have h' := of_decide_eq_true h
    refine step ?_ hr
    rcases (by omega : d = t ∨ t ≤ d - 1) with e | e
    ·rw [← e, e9] at hup
     omega
    ·exact e
   ·have h' := of_decide_eq_false h
    exact Yld.some (.inr ⟨_, rfl, d0, K.fin hdn (by rw [e9]; omega) (by omega), hdn, by omega⟩)
 ·have hdr : decide (r < 4294967296) = false := decide_eq_false hr
  rw [hdr]
  refine Yld.g0 rfl (Yld.g0 rfl (Yld.iff rfl ?_))
  have hdB : d < 4294967296 := by
   rcases (by omega : d < 4294967296 ∨ 4294967296 ≤ d) with e | e
   ·exact e
   ·have := Int.mul_le_mul_of_nonneg_left e (show 0 ≤ v1 by omega)
    omega
  have hm := mul_bound (m := 4294967296) ⟨hdn, hdB⟩ b2
  have e9 : d * (v1 * 4294967296 + v2) = (v1 * d) * 4294967296 + d * v2 := by grind
  exact Yld.some (.inr ⟨_, rfl, d0, K.fin hdn (by rw [e9]; omega) hdB, hdn, hdB⟩)
theorem win_set {u : A17} {j k : Nat} {x : Int} (h : j + k < 17) : win (u.set ((j + k : Nat) : Int) x).l j (k + 1) = win u.l j k + x * 4294967296 ^ k := by
 rw [win_succ, A17.set_dg (by omega) (by omega), Int.toNat_natCast, if_pos rfl]
 congr 1
 exact win_congr fun i h1 h2 => by rw [A17.set_dg (by omega) (by omega), Int.toNat_natCast, if_neg (by omega)]
def SameOut (u w : A17) (j n : Nat) : Prop := ∀ i, (i < j ∨ j + n < i) → dg w.l i = dg u.l i
theorem take_y {F : Nat} (hF : 100 < F) {v : A16} {u : A17} {n j : Nat} (hn : n ≤ 16) (hj : j + n ≤ 16) (hv : inD 4294967296 v.l) (hu : inD 4294967296 u.l) {d : Int} (hd : 0 ≤ d ∧ d < 4294967296) :
  Yld (w_take_S F v (n : Int) (j : Int) d u) fun p => inD 4294967296 p.2.l ∧ SameOut u p.2 j n ∧ win u.l j (n + 1) + (if p.1 = true then 1 else 0) * 4294967296 ^ (n + 1) = win p.2.l j (n + 1) + d * win v.l 0 n := by
 unfold w_take_S
 have hw0 : IntKind.i64.wrap ((j : Int) + (n : Int)) = ((j + n : Nat) : Int) := by rw [wi64]; omega
 rw [hw0]
 refine Yld.bind (P := fun (p : A17 × Int × Int) => inD 4294967296 p.1.l ∧ (∀ i, (i < j ∨ j + n ≤ i) → dg p.1.l i = dg u.l i) ∧ (0 ≤ p.2.1 ∧ p.2.1 < 4294967296) ∧ (0 ≤ p.2.2 ∧ p.2.2 ≤ 1) ∧ win u.l j n + (p.2.1 + p.2.2) * 4294967296 ^ n = win p.1.l j n + d * win v.l 0 n)
  (Yld.rounds n (fun (k : Nat) (s : A17 × Int × Int × Int) => s.2.2.2 = (k : Int) ∧ inD 4294967296 s.1.l ∧ (∀ i, (i < j ∨ j + k ≤ i) → dg s.1.l i = dg u.l i) ∧ (0 ≤ s.2.1 ∧ s.2.1 < 4294967296) ∧ (0 ≤ s.2.2.1 ∧ s.2.2.1 ≤ 1) ∧ win u.l j k + (s.2.1 + s.2.2.1) * 4294967296 ^ k = win s.1.l j k + d * win v.l 0 k) (by omega) ⟨rfl, hu, fun i _ => rfl, ⟨Int.le_refl _, (by decide : (0 : Int) < 4294967296)⟩, ⟨Int.le_refl _, (by decide : (0 : Int) ≤ 1)⟩, by simp [win, ds]⟩ ?_) ?_
 ·rintro k ⟨w, c, b, kx⟩ hk ⟨rfl, win_, wo, ⟨c0, c1⟩, ⟨b0, b1⟩, hs⟩
  dsimp only at win_ wo c0 c1 b0 b1 hs
  dsimp only [un4]
  refine Yld.ite (fun h => ?_) (fun h => ?_)
  ·have hk' : k < n := by have := of_decide_eq_true h; omega
   have hwk : IntKind.i64.wrap ((j : Int) + (k : Int)) = ((j + k : Nat) : Int) := by rw [wi64]; omega
   rw [hwk]
   have hvk := hv k
   have huk := hu (j + k)
   have hwuk := wo (j + k) (.inr (Nat.le_refl _))
   have hm := mul_bound (m := 4294967296) hd hvk
   refine Yld.idx (by omega) (by rw [A16.l_len]; omega) ?_
   simp only [idx_dg, Int.toNat_natCast]
   refine Yld.lnE (d * dg v.l k) (by simp only [wu64]; rw [Int.emod_eq_of_lt (a := dg v.l k) (by omega) (by omega)]; omega) (Yld.idx (by omega) (by rw [A17.l_len]; omega) ?_)
   simp only [idx_dg, Int.toNat_natCast, hwuk]
   obtain ⟨p, hp⟩ : ∃ p, p = c + d * dg v.l k := ⟨_, rfl⟩
   have hp0 : 0 ≤ p ∧ p < 18446744073709551616 := by omega
   have hpw : IntKind.u64.wrap (c + d * dg v.l k) = p := by rw [wu64]; omega
   rw [hpw]
   generalize hU : dg u.l (j + k) = U at *
   refine Yld.lnE (p % 4294967296) (by rw [wu32]) ?_
   obtain ⟨τ, hτ⟩ : ∃ τ, τ = U - p % 4294967296 - b := ⟨_, rfl⟩
   refine Yld.ln (Yld.lnE (τ % 4294967296) (by simp only [wu32, wu64]; omega) (Yld.idx (by omega) (by rw [A17.l_len]; omega) (Yld.lnE (if τ < 0 then 1 else 0) (by simp only [wu64]; split <;> omega) (Yld.lnE (p / 4294967296) rfl (Yld.some (.inl ⟨_, rfl, ⟨by dsimp only; rw [wi64]; omega, A17.set_in win_ (by omega) (by omega) (by omega), fun i hi => ?_, ⟨by dsimp only; omega, by dsimp only; omega⟩, ⟨by dsimp only; split <;> omega, by dsimp only; split <;> omega⟩, ?_⟩, hk'⟩))))))
   ·dsimp only
    rw [A17.set_dg (by omega) (by omega), Int.toNat_natCast, if_neg (by omega)]
    exact wo i (by omega)
   ·dsimp only
    rw [win_set (by omega), win_succ, win_succ, hU, Nat.zero_add, Int.pow_succ]
    have e1 : d * dg v.l k = p - c := by omega
    have e2 : p = p % 4294967296 + p / 4294967296 * 4294967296 := by omega
    have e3 : U - p % 4294967296 - b = τ % 4294967296 - (if τ < 0 then 1 else 0) * 4294967296 := by rw [← hτ]; split <;> omega
    generalize p % 4294967296 = pl at *
    generalize p / 4294967296 = ph at *
    generalize (if τ < 0 then (1 : Int) else 0) = bo at *
    generalize τ % 4294967296 = tl at *
    have e4 : U = tl - bo * 4294967296 + pl + b := by omega
    have e5 : d * dg v.l k = pl + ph * 4294967296 - c := by omega
    have e6 : d * (win v.l 0 k + dg v.l k * 4294967296 ^ k) = d * win v.l 0 k + (d * dg v.l k) * 4294967296 ^ k := by grind
    rw [e6, e5, e4]
    grind
  ·have hk' : k = n := by have := of_decide_eq_false h; omega
   subst hk'
   exact Yld.some (.inr ⟨_, rfl, win_, wo, ⟨c0, c1⟩, ⟨b0, b1⟩, hs⟩)
 ·rintro ⟨w, c, b⟩ ⟨win_, wo, ⟨c0, c1⟩, ⟨b0, b1⟩, hs⟩
  dsimp only at win_ wo c0 c1 b0 b1 hs
  dsimp only [un3]
  have huk := hu (j + n)
  have hwuk := wo (j + n) (.inr (Nat.le_refl _))
  refine Yld.idx (by omega) (by rw [A17.l_len]; omega) ?_
  simp only [idx_dg, Int.toNat_natCast, hwuk]
  generalize hU : dg u.l (j + n) = U at *
  obtain ⟨τ, hτ⟩ : ∃ τ, τ = U - c - b := ⟨_, rfl⟩
  refine Yld.ln (Yld.lnE (τ % 4294967296) (by simp only [wu32, wu64]; omega) (Yld.idx (by omega) (by rw [A17.l_len]; omega) (Yld.lnE (if τ < 0 then 1 else 0) (by simp only [wu64]; split <;> omega) (Yld.some ⟨A17.set_in win_ (by omega) (by omega) (by omega), fun i hi => ?_, ?_⟩))))
  ·dsimp only
   rw [A17.set_dg (by omega) (by omega), Int.toNat_natCast, if_neg (by omega)]
   exact wo i (by omega)
  ·dsimp only
   rw [win_set (by omega), win_succ, hU, Int.pow_succ]
   have e3 : U - c - b = τ % 4294967296 - (if τ < 0 then 1 else 0) * 4294967296 := by rw [← hτ]; split <;> omega
   have e7 : (if decide ((if τ < 0 then (1 : Int) else 0) = 1) = true then (1 : Int) else 0) = if τ < 0 then 1 else 0 := by
    by_cases h : τ < 0
    ·rw [if_pos h]; rfl
    ·rw [if_neg h]; rfl
   rw [e7]
   generalize (if τ < 0 then (1 : Int) else 0) = bo at *
   generalize τ % 4294967296 = tl at *
   have e4 : U = tl - bo * 4294967296 + c + b := by omega
   rw [e4]
   grind
theorem give_y {F : Nat} (hF : 100 < F) {v : A16} {u : A17} {n j : Nat} (hn : n ≤ 16) (hj : j + n ≤ 16) (hv : inD 4294967296 v.l) (hu : inD 4294967296 u.l) :
  Yld (w_give_S F v (n : Int) (j : Int) u) fun w => inD 4294967296 w.l ∧ SameOut u w j n ∧ win w.l j (n + 1) = (win u.l j (n + 1) + win v.l 0 n) % 4294967296 ^ (n + 1) := by
 unfold w_give_S
 have hw0 : IntKind.i64.wrap ((j : Int) + (n : Int)) = ((j + n : Nat) : Int) := by rw [wi64]; omega
 rw [hw0]
 refine Yld.bind (P := fun (p : A17 × Int) => inD 4294967296 p.1.l ∧ (∀ i, (i < j ∨ j + n ≤ i) → dg p.1.l i = dg u.l i) ∧ (0 ≤ p.2 ∧ p.2 ≤ 1) ∧ win p.1.l j n + p.2 * 4294967296 ^ n = win u.l j n + win v.l 0 n)
  (Yld.rounds n (fun (k : Nat) (s : A17 × Int × Int) => s.2.2 = (k : Int) ∧ inD 4294967296 s.1.l ∧ (∀ i, (i < j ∨ j + k ≤ i) → dg s.1.l i = dg u.l i) ∧ (0 ≤ s.2.1 ∧ s.2.1 ≤ 1) ∧ win s.1.l j k + s.2.1 * 4294967296 ^ k = win u.l j k + win v.l 0 k) (by omega) ⟨rfl, hu, fun i _ => rfl, ⟨Int.le_refl _, (by decide : (0 : Int) ≤ 1)⟩, by simp [win, ds]⟩ ?_) ?_
 ·rintro k ⟨w, c, kx⟩ hk ⟨rfl, win_, wo, ⟨c0, c1⟩, hs⟩
  dsimp only at win_ wo c0 c1 hs
  dsimp only [un3]
  refine Yld.ite (fun h => ?_) (fun h => ?_)
  ·have hk' : k < n := by have := of_decide_eq_true h; omega
   have hwk : IntKind.i64.wrap ((j : Int) + (k : Int)) = ((j + k : Nat) : Int) := by rw [wi64]; omega
   rw [hwk]
   have hvk := hv k
   have huk := hu (j + k)
   have hwuk := wo (j + k) (.inr (Nat.le_refl _))
   refine Yld.idx (by omega) (by rw [A17.l_len]; omega) (Yld.idx (by omega) (by rw [A16.l_len]; omega) ?_)
   simp only [idx_dg, Int.toNat_natCast, hwuk]
   generalize hU : dg u.l (j + k) = U at *
   generalize hV : dg v.l k = V at *
   have e0 : IntKind.u64.wrap (c + (IntKind.u64.wrap ((IntKind.u64.wrap U) + (IntKind.u64.wrap V)))) = c + (U + V) := by simp only [wu64]; omega
   obtain ⟨p, hp⟩ : ∃ p, p = c + (U + V) := ⟨_, rfl⟩
   refine Yld.lnE p (by rw [e0, hp]) (Yld.idx (by omega) (by rw [A17.l_len]; omega) (Yld.lnE p (by rw [e0, hp]) ?_))
   rw [wu32]
   refine Yld.some (.inl ⟨_, rfl, ⟨by dsimp only; rw [wi64]; omega, A17.set_in win_ (by omega) (by omega) (by omega), fun i hi => ?_, ⟨by dsimp only; omega, by dsimp only; omega⟩, ?_⟩, hk'⟩)
   ·dsimp only
    rw [A17.set_dg (by omega) (by omega), Int.toNat_natCast, if_neg (by omega)]
    exact wo i (by omega)
   ·dsimp only
    rw [win_set (by omega), win_succ, win_succ, hU, Nat.zero_add, hV, Int.pow_succ]
    have e2 : p = p % 4294967296 + p / 4294967296 * 4294967296 := by omega
    generalize p % 4294967296 = pl at *
    generalize p / 4294967296 = ph at *
    have e4 : U = pl + ph * 4294967296 - c - V := by omega
    rw [e4]
    grind
  ·have hk' : k = n := by have := of_decide_eq_false h; omega
   subst hk'
   exact Yld.some (.inr ⟨_, rfl, win_, wo, ⟨c0, c1⟩, hs⟩)
 ·rintro ⟨w, c⟩ ⟨win_, wo, ⟨c0, c1⟩, hs⟩
  dsimp only at win_ wo c0 c1 hs
  dsimp only [un2]
  have huk := hu (j + n)
  have hwuk := wo (j + n) (.inr (Nat.le_refl _))
  refine Yld.idx (by omega) (by rw [A17.l_len]; omega) (Yld.idx (by omega) (by rw [A17.l_len]; omega) ?_)
  simp only [idx_dg, Int.toNat_natCast, hwuk]
  generalize hU : dg u.l (j + n) = U at *
  have e0 : IntKind.u32.wrap (U + IntKind.u32.wrap c) = (U + c) % 4294967296 := by simp only [wu32]; omega
  rw [e0]
  refine Yld.some ⟨A17.set_in win_ (by omega) (by omega) (by omega), fun i hi => ?_, ?_⟩
  ·rw [A17.set_dg (by omega) (by omega), Int.toNat_natCast, if_neg (by omega)]
   exact wo i (by omega)
  ·rw [win_set (by omega), win_succ, hU, Int.pow_succ]
   have e2 : U + c = (U + c) % 4294967296 + (U + c) / 4294967296 * 4294967296 := by omega
   have hpw : (0 : Int) < 4294967296 ^ n := Int.pow_pos (by decide)
   have hlo := win_nonneg win_ j n
   have hhi := win_lt win_ j n
   have hx0 : 0 ≤ (U + c) % 4294967296 ∧ (U + c) % 4294967296 < 4294967296 := by omega
   generalize (U + c) % 4294967296 = x at *
   generalize (U + c) / 4294967296 = y at *
   have e3 : win u.l j n + U * 4294967296 ^ n + win v.l 0 n = (win w.l j n + x * 4294967296 ^ n) + 4294967296 ^ n * 4294967296 * y := by
    have e4 : U = x + y * 4294967296 - c := by omega
    rw [e4]
    grind
   have h1 : x * 4294967296 ^ n ≤ 4294967295 * 4294967296 ^ n := Int.mul_le_mul_of_nonneg_right (by omega) (by omega)
   have h2 : 0 ≤ x * 4294967296 ^ n := Int.mul_nonneg hx0.1 (by omega)
   rw [e3, Int.add_mul_emod_self_left, Int.emod_eq_of_lt (by omega) (by omega)]
end Go.Proofs.YtcbbilehdaaffaaGreatDoor

namespace Go.Sk
set_option linter.unusedSimpArgs false
set_option linter.unusedVariables false
theorem one_inD' {x : Int} (h : 0 ≤ x ∧ x < 4294967296) : inD 4294967296 [x] := fun i => by
 cases i with
 | zero => exact h
 | succ i => exact ⟨Int.le_refl _, (by decide : (0 : Int) < 4294967296)⟩
theorem div_mod_of' {A B q r : Int} (h : A = q * B + r) (h0 : 0 ≤ r) (h1 : r < B) : A / B = q ∧ A % B = r := by
 have hB : B ≠ 0 := by omega
 have e : A = r + B * q := by rw [h, Int.mul_comm]; omega
 constructor
 ·rw [e, Int.add_mul_ediv_left _ _ hB, Int.ediv_eq_zero_of_lt h0 h1, Int.zero_add]
 ·rw [e, Int.add_mul_emod_self_left, Int.emod_eq_of_lt h0 h1]
def a17 (w : A16) (x : Int) : A17 := ⟨w.a0, w.a1, w.a2, w.a3, w.a4, w.a5, w.a6, w.a7, w.a8, w.a9, w.a10, w.a11, w.a12, w.a13, w.a14, w.a15, x⟩
def a16 (u : A17) : A16 := ⟨u.a0, u.a1, u.a2, u.a3, u.a4, u.a5, u.a6, u.a7, u.a8, u.a9, u.a10, u.a11, u.a12, u.a13, u.a14, u.a15⟩
theorem a17_l (w : A16) (x : Int) : (a17 w x).l = w.l ++ [x] := rfl
theorem a16_l (u : A17) : (a16 u).l = u.l.take 16 := rfl
theorem win0 (l : List Int) (n : Nat) : win l 0 n = ds 4294967296 (dg l) n := ds_congr fun i _ => by rw [Nat.zero_add]
theorem win_top {l : List Int} {j n k : Nat} (h : ∀ i, j + n ≤ i → dg l i = 0) (hk : n ≤ k) : win l j k = win l j n := ds_top (fun i hi => h _ (by omega)) hk
theorem win_dig {l : List Int} (h : inD 4294967296 l) {n i : Nat} (hl : l.length ≤ n) : dg l i = win l 0 n / 4294967296 ^ i % 4294967296 := by
 have e : win l 0 n = win l 0 (n + (i + 1)) := (win_top (fun k hk => dg_ge (by omega)) (by omega)).symm
 rw [e, win0]
 exact (ds_dig (b := 4294967296) (by decide) (by omega) h).symm
theorem win_zero {l : List Int} (h : inD 4294967296 l) {n k i : Nat} (hl : l.length ≤ n) (hv : win l 0 n < 4294967296 ^ k) (hi : k ≤ i) : dg l i = 0 := by
 have h1 := win_nonneg h 0 n
 have h2 := pow_mono (b := 4294967296) (by decide) hi
 rw [win_dig h hl, Int.ediv_eq_zero_of_lt h1 (by omega)]
 rfl
theorem win3 (l : List Int) (j m : Nat) : win l j (m + 3) = win l j m + (dg l (j + m) + 4294967296 * (dg l (j + m + 1) + 4294967296 * dg l (j + m + 2))) * 4294967296 ^ m := by
 rw [win_succ, win_succ, win_succ]
 have e1 : (4294967296 : Int) ^ (m + 1) = 4294967296 ^ m * 4294967296 := Int.pow_succ _ _
 have e2 : (4294967296 : Int) ^ (m + 1 + 1) = 4294967296 ^ m * 4294967296 * 4294967296 := by rw [Int.pow_succ, e1]
 rw [show m + 2 = m + 1 + 1 from rfl, e1, e2]
 show win l j m + dg l (j + m) * 4294967296 ^ m + dg l (j + m + 1) * (4294967296 ^ m * 4294967296) + dg l (j + m + 2) * (4294967296 ^ m * 4294967296 * 4294967296) = _
 grind
theorem win2 (l : List Int) (j m : Nat) : win l j (m + 2) = win l j m + (dg l (j + m) + 4294967296 * dg l (j + m + 1)) * 4294967296 ^ m := by
 rw [win_succ, win_succ]
 have e1 : (4294967296 : Int) ^ (m + 1) = 4294967296 ^ m * 4294967296 := Int.pow_succ _ _
 rw [e1]
 show win l j m + dg l (j + m) * 4294967296 ^ m + dg l (j + m + 1) * (4294967296 ^ m * 4294967296) = _
 grind
theorem MM32 : MM = 4294967296 ^ 16 := rfl
theorem pw_pos (n : Nat) : (0 : Int) < 4294967296 ^ n := Int.pow_pos (by decide)
theorem norm_of {Bv x : Int} {m s : Nat} (hx : 0 < x ∧ x < 4294967296) (hs : (s : Int) = 32 - blen x) (h0 : x * 4294967296 ^ m ≤ Bv) (h1 : Bv < (x + 1) * 4294967296 ^ m) : s ≤ 31 ∧ 2147483648 * 4294967296 ^ m ≤ Bv * 2 ^ s ∧ Bv * 2 ^ s < 4294967296 ^ (m + 1) := by
 obtain ⟨b1, b2, b3⟩ := blen_spec hx.1
 have b4 := blen_le (m := x) (k := 32) (by rw [p32]; exact hx.2)
 have hp := pow2_pos s
 have hq := pw_pos m
 refine ⟨by omega, ?_, ?_⟩
 ·have e : (2147483648 : Int) = 2 ^ ((blen x).toNat - 1) * 2 ^ s := by
   rw [← Int.pow_add]
   have : (blen x).toNat - 1 + s = 31 := by omega
   rw [this]; decide
  have g1 : 2 ^ ((blen x).toNat - 1) * 2 ^ s ≤ x * 2 ^ s := Int.mul_le_mul_of_nonneg_right b2 (by omega)
  have g2 : 2147483648 * 4294967296 ^ m ≤ x * 2 ^ s * 4294967296 ^ m := Int.mul_le_mul_of_nonneg_right (by omega) (by omega)
  have g3 : x * 4294967296 ^ m * 2 ^ s ≤ Bv * 2 ^ s := Int.mul_le_mul_of_nonneg_right h0 (by omega)
  have e2 : x * 4294967296 ^ m * 2 ^ s = x * 2 ^ s * 4294967296 ^ m := by grind
  omega
 ·have e : (4294967296 : Int) = 2 ^ (blen x).toNat * 2 ^ s := by
   rw [← Int.pow_add]
   have : (blen x).toNat + s = 32 := by omega
   rw [this]; decide
  have g1 : (x + 1) * 2 ^ s ≤ 2 ^ (blen x).toNat * 2 ^ s := Int.mul_le_mul_of_nonneg_right (by omega) (by omega)
  have g2 : (x + 1) * 2 ^ s * 4294967296 ^ m ≤ 4294967296 * 4294967296 ^ m := Int.mul_le_mul_of_nonneg_right (by omega) (by omega)
  have g3 : Bv * 2 ^ s < (x + 1) * 4294967296 ^ m * 2 ^ s := Int.mul_lt_mul_of_pos_right h1 hp
  have e2 : (x + 1) * 4294967296 ^ m * 2 ^ s = (x + 1) * 2 ^ s * 4294967296 ^ m := by grind
  rw [Int.pow_succ, Int.mul_comm (4294967296 ^ m)]
  omega
theorem kn_of {v : A16} {u : A17} {m j : Nat} {V R t : Int} (hv : inD 4294967296 v.l) (hu : inD 4294967296 u.l) (hV : V = win v.l 0 (m + 2)) (hV2 : 2147483648 * 4294967296 ^ (m + 1) ≤ V) (hR : R = win u.l j (m + 3)) (hRV : R < 4294967296 * V) (ht : t = R / V) :
  Kn 4294967296 (4294967296 ^ m) (dg v.l (m + 1)) (dg v.l m) V (dg u.l (j + m + 2) * 4294967296 + dg u.l (j + m + 1)) (dg u.l (j + m)) R t := by
 have hq := pw_pos m
 have hVp : 0 < V := by have := pw_pos (m + 1); omega
 have w2 := win2 v.l 0 m
 have w3 := win3 u.l j m
 rw [Nat.zero_add] at w2
 rw [← hV] at w2
 rw [← hR] at w3
 have l2 := win_nonneg hv 0 m
 have l3 := win_nonneg hu j m
 have g2 := win_lt hv 0 m
 have g3 := win_lt hu j m
 have a1 := hv m
 have a2 := hv (m + 1)
 have a3 := hu (j + m)
 have a4 := hu (j + m + 1)
 have a5 := hu (j + m + 2)
 have hR0 : 0 ≤ R := by rw [hR]; exact win_nonneg hu _ _
 have e1 : dg v.l m + 4294967296 * dg v.l (m + 1) = dg v.l (m + 1) * 4294967296 + dg v.l m := by omega
 have e2 : dg u.l (j + m) + 4294967296 * (dg u.l (j + m + 1) + 4294967296 * dg u.l (j + m + 2)) = (dg u.l (j + m + 2) * 4294967296 + dg u.l (j + m + 1)) * 4294967296 + dg u.l (j + m) := by omega
 rw [e1] at w2
 rw [e2] at w3
 have hpp : (4294967296 : Int) ^ (m + 1) = 4294967296 ^ m * 4294967296 := Int.pow_succ _ _
 refine ⟨hq, ?_, a2.2, a1, by omega, by rw [Int.add_mul (_ + _) 1]; omega, a3, by omega, by rw [Int.add_mul (_ + _) 1]; omega, by rw [ht]; exact Int.ediv_mul_le _ (by omega), by rw [ht]; exact Int.lt_ediv_add_one_mul_self _ hVp, by rw [ht]; exact Int.ediv_nonneg hR0 (by omega), by rw [ht, Int.ediv_lt_iff_lt_mul hVp]; exact hRV⟩
 rcases (by omega : 2147483648 ≤ dg v.l (m + 1) ∨ dg v.l (m + 1) + 1 ≤ 2147483648) with g | g
 ·exact g
 ·have h1 : (dg v.l (m + 1) + 1) * (4294967296 ^ m * 4294967296) ≤ 2147483648 * (4294967296 ^ m * 4294967296) := Int.mul_le_mul_of_nonneg_right g (by omega)
  have h2 : (dg v.l m + 1) * 4294967296 ^ m ≤ 4294967296 * 4294967296 ^ m := Int.mul_le_mul_of_nonneg_right (by omega) (by omega)
  have e3 : (dg v.l (m + 1) * 4294967296 + dg v.l m) * 4294967296 ^ m = dg v.l (m + 1) * (4294967296 ^ m * 4294967296) + dg v.l m * 4294967296 ^ m := by grind
  have e4 : (dg v.l (m + 1) + 1) * (4294967296 ^ m * 4294967296) = dg v.l (m + 1) * (4294967296 ^ m * 4294967296) + 4294967296 ^ m * 4294967296 := by grind
  have e5 : (dg v.l m + 1) * 4294967296 ^ m = dg v.l m * 4294967296 ^ m + 4294967296 ^ m := by grind
  omega
end Go.Sk
namespace Go.Proofs.YtcbbilehdaaffaaGreatDoor
open Go Go.Sk
set_option linter.unusedSimpArgs false
set_option linter.unusedVariables false
theorem lz_y (F : Nat) {x : Int} (h0 : 0 ≤ x) (h1 : x < 4294967296) : bits_LeadingZeros32_S F x = some (32 - blen x) := by
 refine Yld.eq ?_
 unfold bits_LeadingZeros32_S
 refine Yld.bindE (Len32_y F h0 h1) (Yld.some ?_)
 have b4 := blen_le (m := x) (k := 32) (by rw [p32]; exact h1)
 have b5 := blen_nonneg x
 rw [wi64]; omega
theorem digitstep_y {F : Nat} (hF : 18446744073709551616 < F) {v : A16} {u : A17} {m j : Nat} {V R t : Int} (hm : m + 2 ≤ 16) (hj : j + (m + 2) ≤ 16) (hv : inD 4294967296 v.l) (hu : inD 4294967296 u.l) (hV : V = win v.l 0 (m + 2)) (hV2 : 2147483648 * 4294967296 ^ (m + 1) ≤ V) (hR : R = win u.l j (m + 3)) (hRV : R < 4294967296 * V) (ht : t = R / V) {β : Type} {k : A17 → Int → Option β} {Q : β → Prop} (hk : ∀ w, inD 4294967296 w.l → SameOut u w j (m + 2) → win w.l j (m + 3) = R - t * V → Yld (k w t) Q) :
  Yld (Option.bind (w_guess_S F v ((m + 2 : Nat) : Int) (j : Int) u) (fun x_22 => Option.bind (Option.bind (w_take_S F v ((m + 2 : Nat) : Int) (j : Int) x_22 u) (un2 fun x_25 x_26 => if x_25 = true then (Option.bind (w_give_S F v ((m + 2 : Nat) : Int) (j : Int) x_26) (fun x_27 => some (x_27, IntKind.u64.wrap (x_22 - 1)))) else (some (x_26, x_22)))) (un2 k))) Q := by
 have K := kn_of hv hu hV hV2 hR hRV ht
 have hVB : V < 4294967296 ^ (m + 3) := by
  have h1 := win_lt hv 0 (m + 2)
  have h2 := pow_mono (b := 4294967296) (by decide) (show m + 2 ≤ m + 3 by omega)
  omega
 have hVp : 0 < V := by have := pw_pos (m + 1); omega
 refine Yld.bind (guess_y hF (n := m + 2) (j := j) (by omega) hj hv hu (P := 4294967296 ^ m) (V := V) (R := R) (t := t) ?_) ?_
 ·have e1 : m + 2 - 1 = m + 1 := by omega
  have e2 : m + 2 - 2 = m := by omega
  have e3 : j + (m + 2) = j + m + 2 := by omega
  have e4 : j + (m + 2) - 1 = j + m + 1 := by omega
  have e5 : j + (m + 2) - 2 = j + m := by omega
  rw [e1, e2, e4, e5, e3]
  exact K
 ·rintro d ⟨d0, d1, d2, d3⟩
  have ht1 := K.t1
  have ht0 := K.t0
  have hRt := K.Rt
  have hRt1 := K.tR
  have e9 : (t + 1) * V = t * V + V := by grind
  rw [e9] at hRt1
  refine Yld.bind (P := fun p => p.2 = t ∧ inD 4294967296 p.1.l ∧ SameOut u p.1 j (m + 2) ∧ win p.1.l j (m + 3) = R - t * V) (Yld.bind (take_y (by omega) (n := m + 2) (j := j) hm hj hv hu ⟨d2, d3⟩) ?_) ?_
  ·rintro ⟨bw, w⟩ ⟨win_, wo, hs⟩
   dsimp only at win_ wo hs
   dsimp only [un2]
   rw [← hV] at hs
   have hs' : R + (if bw = true then 1 else 0) * 4294967296 ^ (m + 3) = win w.l j (m + 3) + d * V := by rw [hR]; exact hs
   clear hs
   have w0 := win_nonneg win_ j (m + 3)
   have w1 := win_lt win_ j (m + 3)
   rcases (by omega : d = t ∨ d = t + 1) with e | e
   ·subst e
    cases bw with
    | true =>
     simp only [if_true] at hs'
     omega
    | false =>
     refine Yld.iff rfl (Yld.some ⟨rfl, win_, wo, ?_⟩)
     simp only [Bool.false_eq_true, if_false] at hs'
     dsimp only
     omega
   ·subst e
    rw [e9] at hs'
    cases bw with
    | false =>
     simp only [Bool.false_eq_true, if_false] at hs'
     omega
    | true =>
     simp only [if_true] at hs'
     refine Yld.ift rfl (Yld.bind (give_y (by omega) (n := m + 2) (j := j) hm hj hv win_) ?_)
     rintro z ⟨zin, zo, hz⟩
     have hz' : win z.l j (m + 3) = (win w.l j (m + 3) + V) % 4294967296 ^ (m + 3) := by rw [hV]; exact hz
     have e10 : win w.l j (m + 3) + V = (R - t * V) + 4294967296 ^ (m + 3) * 1 := by omega
     rw [e10, Int.add_mul_emod_self_left, Int.emod_eq_of_lt (by omega) (by omega)] at hz'
     refine Yld.some ⟨?_, zin, fun i hi => by rw [zo i hi, wo i hi], hz'⟩
     dsimp only
     rw [wu64]; omega
  ·rintro ⟨w, d'⟩ ⟨rfl, h1, h2, h3⟩
   exact hk w h1 h2 h3
theorem quotient_y {F : Nat} (hF : 18446744073709551616 < F) {a b : A16} (ha : inD 4294967296 a.l) (hb : inD 4294967296 b.l) (h0 : av b ≠ 0) : w_quotient_S F a b = some (toA (av a / av b), toA (av a % av b)) := by
 refine Yld.eq ?_
 have hb0 := (av_range hb).1
 have ha0 := (av_range ha).1
 have hbp : 0 < av b := by omega
 unfold w_quotient_S
 refine Yld.bind (size_y (by omega)) ?_
 rintro nb ⟨nb0, nb1, nbz, nbt⟩
 refine Yld.bind (size_y (by omega)) ?_
 rintro na ⟨na0, na1, naz, nat⟩
 refine Yld.bindE (order_y (by omega) ha hb) ?_
 obtain ⟨m, rfl⟩ : ∃ m : Nat, nb = m := ⟨nb.toNat, by omega⟩
 obtain ⟨l, rfl⟩ : ∃ l : Nat, na = l := ⟨na.toNat, by omega⟩
 rw [Int.toNat_natCast] at nbz nbt naz nat
 refine Yld.ite (fun h => ?_) (fun h => ?_)
 ·have h' := of_decide_eq_true h
  have hlt : av a < av b := by
   rcases (by omega : av a < av b ∨ ¬ av a < av b) with g | g
   ·exact g
   ·rw [if_neg g] at h'; split at h' <;> omega
  refine Yld.some ?_
  rw [Int.ediv_eq_zero_of_lt ha0 hlt, Int.emod_eq_of_lt ha0 hlt, toA_av ha, ← zero_eq]
 ·have h' := of_decide_eq_false h
  have hge : av b ≤ av a := by
   rcases (by omega : av a < av b ∨ av b ≤ av a) with g | g
   ·rw [if_pos g] at h'; omega
   ·exact g
  clear h h'
  have hbm : av b = ds 4294967296 (dg b.l) m := ds_ext (by omega) fun i h1 h2 => nbz i h1 h2
  have ham : av a = ds 4294967296 (dg a.l) l := ds_ext (by omega) fun i h1 h2 => naz i h1 h2
  refine Yld.ite (fun h => ?_) (fun h => ?_)
  ·have h1 : m = 1 := by have := of_decide_eq_true h; omega
   subst h1
   have e1 : av b = b.a0 := by rw [hbm]; simp [ds]; rfl
   have hb1 := hb 0
   have e2 : dg b.l 0 = b.a0 := rfl
   rw [e2] at hb1
   refine Yld.bindE (short_y (by omega) ha (b := b.a0) (by omega)) ?_
   dsimp only [un2]
   refine Yld.ln (Yld.some ?_)
   rw [e1]
   congr 1
   have hm0 := Int.emod_nonneg (av a) (show b.a0 ≠ 0 by omega)
   have hm1 := Int.emod_lt_of_pos (av a) (show 0 < b.a0 by omega)
   refine eq_toA (in_two (a := av a % b.a0) (b := 0) ⟨hm0, by omega⟩ ⟨Int.le_refl _, by decide⟩) ?_
   rw [av_two]
   omega
  ·have h1 : m ≠ 1 := by have := of_decide_eq_false h; omega
   clear h
   have hm0 : m ≠ 0 := by
    rintro rfl
    rw [hbm] at hbp
    exact absurd hbp (by simp [ds])
   obtain ⟨m, rfl⟩ : ∃ m', m = m' + 2 := ⟨m - 2, by omega⟩
   have hml : m + 2 ≤ l := by
    rcases Nat.lt_or_ge l (m + 2) with g | g
    ·have g1 := ds_lt (b := 4294967296) (by decide) (f := dg a.l) (n := l) fun i _ => ha i
     have g2 := nbt (by omega)
     have e3 : m + 2 - 1 = m + 1 := by omega
     rw [e3] at g2
     have g3 := hb (m + 1)
     have g4 := ds_nonneg (b := 4294967296) (by decide) (f := dg b.l) (n := m + 1) fun i _ => (hb i).1
     have g5 : 1 * (4294967296 : Int) ^ (m + 1) ≤ dg b.l (m + 1) * 4294967296 ^ (m + 1) := Int.mul_le_mul_of_nonneg_right (by omega) (Int.le_of_lt (pw_pos _))
     have g6 := pow_mono (b := 4294967296) (by decide) (show l ≤ m + 1 by omega)
     rw [hbm, ham, ds_succ] at hge
     omega
    ·exact g
   have hw1 : IntKind.i64.wrap (((m + 2 : Nat) : Int) - 1) = ((m + 1 : Nat) : Int) := by rw [wi64]; omega
   have hwl : IntKind.i64.wrap ((l : Int) - ((m + 2 : Nat) : Int)) = ((l - (m + 2) : Nat) : Int) := by rw [wi64]; omega
   rw [hw1]
   refine Yld.idx (by omega) (by rw [A16.l_len]; omega) ?_
   simp only [idx_dg, Int.toNat_natCast]
   have hx := hb (m + 1)
   have hxt : dg b.l (m + 1) ≠ 0 := by
    have g2 := nbt (by omega)
    have e3 : m + 2 - 1 = m + 1 := by omega
    rw [e3] at g2
    exact g2
   generalize hxx : dg b.l (m + 1) = x at *
   refine Yld.bindE (lz_y F hx.1 hx.2) ?_
   have b4 := blen_le (m := x) (k := 32) (by rw [p32]; exact hx.2)
   obtain ⟨s, hs⟩ : ∃ s : Nat, (s : Int) = 32 - blen x := ⟨(32 - blen x).toNat, by omega⟩
   rw [← hs]
   have hlo : ds 4294967296 (dg b.l) (m + 1) < 4294967296 ^ (m + 1) := ds_lt (by decide) fun i _ => hb i
   have hlo0 := ds_nonneg (b := 4294967296) (by decide) (f := dg b.l) (n := m + 1) fun i _ => (hb i).1
   have hbs : av b = ds 4294967296 (dg b.l) (m + 1) + x * 4294967296 ^ (m + 1) := by rw [hbm, ds_succ, hxx]
   obtain ⟨hs31, hn1, hn2⟩ := norm_of (Bv := av b) (x := x) (m := m + 1) (s := s) ⟨by omega, hx.2⟩ hs (by omega) (by rw [Int.add_mul x 1]; omega)
   refine Yld.bind (up_y (by omega) hb hs31) ?_
   rintro ⟨v, cv⟩ ⟨vin, cv0, cv1, vs⟩
   dsimp only at vin cv0 cv1 vs
   refine Yld.bind (up_y (by omega) ha hs31) ?_
   rintro ⟨w, cw⟩ ⟨win_, cw0, cw1, ws⟩
   dsimp only at win_ cw0 cw1 ws
   dsimp only [un2]
   have hp2 := pow2_pos s
   have hp31 := pow2_31 hs31
   have hvr := av_range vin
   have hcv : cv = 0 := by
    have g1 := pow_mono (b := 4294967296) (by decide) (show m + 1 + 1 ≤ 16 by omega)
    rw [← MM32] at g1
    rcases (by omega : cv = 0 ∨ 1 ≤ cv) with g | g
    ·exact g
    ·have := Int.mul_le_mul_of_nonneg_right g (show 0 ≤ MM by have := MM_pos; omega)
     omega
   subst hcv
   rw [Int.zero_mul, Int.add_zero] at vs
   obtain ⟨V, hVd⟩ : ∃ V, V = av v := ⟨_, rfl⟩
   have hVs : V = av b * 2 ^ s := by rw [hVd, vs]
   have hVw : V = win v.l 0 (m + 2) := by
    have e1 : V = win v.l 0 16 := by rw [hVd, win0]; rfl
    rw [e1]
    refine win_top (fun i hi => win_zero vin (n := 16) (k := m + 2) (by rw [A16.l_len]; omega) ?_ (by omega)) (by omega)
    rw [← e1, hVs]; exact hn2
   have hVp : 0 < V := by rw [hVs]; exact Int.mul_pos hbp hp2
   rw [hwl]
   obtain ⟨J, hJ⟩ : ∃ J, J = l - (m + 2) := ⟨_, rfl⟩
   rw [← hJ]
   have hcw : cw < 4294967296 := by omega
   show Yld (Option.bind (iter F _ (A16.zero, a17 w cw, (J : Int))) _) _
   have uin0 : inD 4294967296 (a17 w cw).l := fun i => by
    rw [a17_l, dg_append]
    split
    ·exact win_ i
    ·exact one_inD' ⟨cw0, hcw⟩ _
   obtain ⟨u0, hu0⟩ : ∃ u0, u0 = a17 w cw := ⟨_, rfl⟩
   rw [← hu0] at uin0 ⊢
   have hU : win u0.l 0 17 = av a * 2 ^ s := by
    rw [win_succ, ← ws, MM32]
    have e1 : win u0.l 0 16 = av w := by
     rw [hu0, win0]
     exact ds_congr fun i hi => by rw [a17_l, dg_append, if_pos (by rw [A16.l_len]; exact hi)]
    have e2 : dg u0.l (0 + 16) = cw := by rw [hu0]; rfl
    rw [e1, e2]
   have hUl : win u0.l 0 17 < 4294967296 ^ (J + 1) * (4294967296 ^ (m + 1) * 2 ^ s) := by
    have g1 := ds_lt (b := 4294967296) (by decide) (f := dg a.l) (n := l) fun i _ => ha i
    rw [← ham] at g1
    have g2 := Int.mul_lt_mul_of_pos_right g1 hp2
    rw [hU, ← Int.mul_assoc, ← Int.pow_add]
    have e1 : J + 1 + (m + 1) = l := by omega
    rw [e1]; exact g2
   have hVge : 4294967296 ^ (m + 1) * 2 ^ s ≤ V := by
    have g1 : 1 * 4294967296 ^ (m + 1) ≤ x * 4294967296 ^ (m + 1) := Int.mul_le_mul_of_nonneg_right (by omega) (Int.le_of_lt (pw_pos _))
    have g2 := Int.mul_le_mul_of_nonneg_right (show 4294967296 ^ (m + 1) ≤ av b by omega) (Int.le_of_lt hp2)
    rw [hVs]; exact g2
   have hUz : ∀ i, J + 1 + (m + 2) ≤ i → dg u0.l i = 0 := fun i hi => by
    refine win_zero uin0 (n := 17) (k := J + 1 + (m + 2)) (by rw [A17.l_len]; omega) ?_ hi
    have g1 : (4294967296 : Int) ^ (m + 1) * 2 ^ s ≤ 4294967296 ^ (m + 1) * 4294967296 := Int.mul_le_mul_of_nonneg_left (by omega) (Int.le_of_lt (pw_pos _))
    have g2 := Int.mul_le_mul_of_nonneg_left g1 (Int.le_of_lt (pw_pos (J + 1)))
    rw [← Int.pow_succ, ← Int.pow_add] at g2
    have g3 : (4294967296 : Int) ^ (J + 1 + (m + 1).succ) = 4294967296 ^ (J + 1 + (m + 2)) := rfl
    omega
   have hUt : win u0.l (J + 1) (m + 2) < V := by
    have e1 : win u0.l (J + 1) (m + 2) = win u0.l (0 + (J + 1)) (17 - (J + 1)) := by
     rw [Nat.zero_add]
     exact (win_top (fun i hi => hUz i hi) (by omega)).symm
    have e2 : 17 = (J + 1) + (17 - (J + 1)) := by omega
    rw [e1, ← win_div uin0, ← e2, Int.ediv_lt_iff_lt_mul (pw_pos _)]
    have g1 := Int.mul_le_mul_of_nonneg_left hVge (Int.le_of_lt (pw_pos (J + 1)))
    rw [Int.mul_comm V]
    omega
   refine Yld.bind (P := fun (p : A16 × A17) => inD 4294967296 p.1.l ∧ inD 4294967296 p.2.l ∧ win u0.l 0 17 = win p.1.l 0 17 * V + win p.2.l 0 (m + 2) ∧ win p.2.l 0 (m + 2) < V ∧ ∀ i, m + 2 ≤ i → dg p.2.l i = 0)
    (Yld.rounds (J + 1) (fun (k : Nat) (st : A16 × A17 × Int) => st.2.2 = (J : Int) - (k : Int) ∧ inD 4294967296 st.1.l ∧ inD 4294967296 st.2.1.l ∧ (∀ i, i < J + 1 - k → dg st.2.1.l i = dg u0.l i) ∧ (∀ i, J + 1 - k + (m + 2) ≤ i → dg st.2.1.l i = 0) ∧ win st.2.1.l (J + 1 - k) (m + 2) < V ∧ win u0.l (J + 1 - k) (17 - (J + 1 - k)) = win st.1.l (J + 1 - k) (17 - (J + 1 - k)) * V + win st.2.1.l (J + 1 - k) (m + 2)) (by omega) ⟨by dsimp only; omega, zero_in, uin0, fun i _ => rfl, hUz, hUt, ?_⟩ ?_) ?_
   ·dsimp only
    have e1 : win A16.zero.l (J + 1 - 0) (17 - (J + 1 - 0)) = 0 := ds_zero fun i _ => by
     have : A16.zero.l = List.replicate 16 0 := rfl
     rw [this, dg_replicate]
    rw [e1, Int.zero_mul, Int.zero_add]
    exact win_top (fun i hi => hUz i hi) (by omega)
   ·rintro k ⟨q, u, jx⟩ hk ⟨rfl, qin, uin, ulo, uhi, ult, us⟩
    dsimp only at qin uin ulo uhi ult us
    dsimp only [un3]
    refine Yld.ite (fun h => ?_) (fun h => ?_)
    ·have hk' : k < J + 1 := by have := of_decide_eq_true h; omega
     obtain ⟨j, hj⟩ : ∃ j, j = J - k := ⟨_, rfl⟩
     have ej : (J : Int) - (k : Int) = (j : Int) := by omega
     have ej1 : J + 1 - k = j + 1 := by omega
     rw [ej]
     rw [ej1] at ulo uhi ult us
     obtain ⟨R, hR⟩ : ∃ R, R = win u.l j (m + 3) := ⟨_, rfl⟩
     have hR2 : R = dg u.l j + 4294967296 * win u.l (j + 1) (m + 2) := by rw [hR]; exact win_cons u.l j (m + 2)
     have hdj := uin j
     have hRV : R < 4294967296 * V := by omega
     have hR0 : 0 ≤ R := by rw [hR]; exact win_nonneg uin _ _
     obtain ⟨t, ht⟩ : ∃ t, t = R / V := ⟨_, rfl⟩
     have ht0 : 0 ≤ t := by rw [ht]; exact Int.ediv_nonneg hR0 (by omega)
     have ht1 : t < 4294967296 := by rw [ht, Int.ediv_lt_iff_lt_mul hVp]; exact hRV
     have hRt : t * V ≤ R := by rw [ht]; exact Int.ediv_mul_le _ (by omega)
     have hRt1 : R < (t + 1) * V := by rw [ht]; exact Int.lt_ediv_add_one_mul_self _ hVp
     have e9 : (t + 1) * V = t * V + V := by grind
     rw [e9] at hRt1
     refine Yld.bind (P := fun p => p.1 = q.set (j : Int) t ∧ inD 4294967296 p.2.l ∧ SameOut u p.2 j (m + 2) ∧ win p.2.l j (m + 3) = R - t * V) (digitstep_y hF (j := j) (by omega) (by omega) vin uin hVw (by rw [hVs]; exact hn1) hR hRV ht ?_) ?_
     ·intro w1 g1 g2 g3
      refine Yld.idx (by omega) (by rw [A16.l_len]; omega) (Yld.some ⟨?_, g1, g2, g3⟩)
      dsimp only
      rw [wu32]
      congr 1
      omega
     ·rintro ⟨q1, u1⟩ ⟨rfl, u1in, u1o, u1w⟩
      dsimp only at u1in u1o u1w
      dsimp only [un2]
      have hVB : V < 4294967296 ^ (m + 2) := by rw [hVs]; exact hn2
      have htop : dg u1.l (j + (m + 2)) = 0 ∧ win u1.l j (m + 2) = R - t * V := by
       have e1 : win u1.l j (m + 3) = win u1.l j (m + 2) + dg u1.l (j + (m + 2)) * 4294967296 ^ (m + 2) := win_succ _ _ _
       have g1 := win_nonneg u1in j (m + 2)
       have g2 := u1in (j + (m + 2))
       rcases (by omega : dg u1.l (j + (m + 2)) = 0 ∨ 1 ≤ dg u1.l (j + (m + 2))) with g | g
       ·rw [g] at e1
        exact ⟨g, by omega⟩
       ·have := Int.mul_le_mul_of_nonneg_right g (Int.le_of_lt (pw_pos (m + 2)))
        omega
      have ej2 : J + 1 - (k + 1) = j := by omega
      refine Yld.some (.inl ⟨_, rfl, ⟨by dsimp only; rw [wi64]; omega, set_in qin (by omega) (by omega) ⟨ht0, ht1⟩, u1in, fun i hi => ?_, fun i hi => ?_, ?_, ?_⟩, hk'⟩)
      ·dsimp only
       rw [ej2] at hi
       rw [u1o i (.inl hi), ulo i (by omega)]
      ·dsimp only
       rw [ej2] at hi
       by_cases e : i = j + (m + 2)
       ·rw [e]; exact htop.1
       ·rw [u1o i (.inr (by omega)), uhi i (by omega)]
      ·dsimp only
       rw [ej2, htop.2]; omega
      ·dsimp only
       rw [ej2, htop.2]
       have e1 : 17 - j = 17 - (j + 1) + 1 := by omega
       rw [e1, win_cons u0.l, win_cons (q.set (j : Int) t).l, us]
       have e2 : dg (q.set (j : Int) t).l j = t := by rw [set_dg (by omega) (by omega), Int.toNat_natCast, if_pos rfl]
       have e3 : win (q.set (j : Int) t).l (j + 1) (17 - (j + 1)) = win q.l (j + 1) (17 - (j + 1)) := win_congr fun i h1 h2 => by rw [set_dg (by omega) (by omega), Int.toNat_natCast, if_neg (by omega)]
       rw [e2, e3, ← ulo j (by omega), hR2]
       grind
    ·have hk' : k = J + 1 := by have := of_decide_eq_false h; omega
     subst hk'
     have e0 : J + 1 - (J + 1) = 0 := by omega
     rw [e0] at uhi ult us
     exact Yld.some (.inr ⟨_, rfl, qin, uin, us, ult, fun i hi => uhi i (by omega)⟩)
   ·rintro ⟨q, u⟩ ⟨qin, uin, us, ult, uz⟩
    dsimp only at qin uin us ult uz
    dsimp only [un2]
    have hain : inD 4294967296 (a16 u).l := fun i => by
     rw [a16_l, dg_take]
     split
     ·exact uin i
     ·decide
    have hav : av (a16 u) = win u.l 0 (m + 2) := by
     rw [← win_top (k := 16) (fun i hi => uz i (by omega)) (by omega), win0]
     exact ds_congr fun i hi => by rw [a16_l, dg_take, if_pos hi]
    have hq : win q.l 0 17 = av q := by
     rw [win0]
     exact ds_top (fun i hi => dg_ge (by rw [A16.l_len]; exact hi)) (by omega)
    rw [hU, hq, hVs] at us
    have hR0 : 0 ≤ win u.l 0 (m + 2) := win_nonneg uin _ _
    have hrs : win u.l 0 (m + 2) = (av a - av q * av b) * 2 ^ s := by
     have e1 : (av a - av q * av b) * 2 ^ s = av a * 2 ^ s - av q * (av b * 2 ^ s) := by grind
     omega
    have hdiv : win u.l 0 (m + 2) / 2 ^ s = av a - av q * av b := by rw [hrs, Int.mul_ediv_cancel _ (by omega)]
    have hr0 : 0 ≤ av a - av q * av b := by rw [← hdiv]; exact Int.ediv_nonneg hR0 (by omega)
    have hr1 : av a - av q * av b < av b := by
     rw [hrs, hVs] at ult
     exact Int.lt_of_mul_lt_mul_right ult (by omega)
    obtain ⟨d1, d2⟩ := div_mod_of' (A := av a) (B := av b) (q := av q) (r := av a - av q * av b) (by omega) hr0 hr1
    show Yld (Option.bind (w_down_S F (a16 u) (s : Int)) _) _
    refine Yld.bindE (down_y (by omega) hain hs31) (Yld.some ?_)
    rw [hav, hdiv, d1, d2, toA_av qin]
end Go.Proofs.YtcbbilehdaaffaaGreatDoor

namespace Go.Proofs.YtcbbilehdaaffaaGreatDoor
open Go Go.Sk
set_option linter.unusedSimpArgs false
set_option linter.unusedVariables false
theorem divided_y {F : Nat} (hF : 18446744073709551616 < F) {x y : Big} (hx : inB x) (hy : inB y) : w_divided_S F x y = some (two quoO x y, two remO x y) := by
 refine Yld.eq ?_
 unfold w_divided_S two
 refine Yld.bindE (good2 (by omega) x y) ?_
 cases ha : iv x with
 | none => simp only [iv_none ha, Bool.false_and, Bool.not_false, Bool.not_true]; exact Yld.g0 rfl (Yld.ift (by simp) (Yld.bindE (Bad_y F) (Yld.bindE (Bad_y F) (Yld.some rfl))))
 | some a =>
  cases hb : iv y with
  | none => simp only [iv_none hb, Bool.and_false, Bool.not_false, Bool.not_true]; exact Yld.g0 rfl (Yld.ift (by simp) (Yld.bindE (Bad_y F) (Yld.bindE (Bad_y F) (Yld.some rfl))))
  | some b =>
   obtain ⟨ga, rfl, ra⟩ := iv_some hx ha
   obtain ⟨gb, rfl, rb⟩ := iv_some hy hb
   obtain ⟨wa, na⟩ := sv_big_W ra
   obtain ⟨wb, nb⟩ := sv_big_W rb
   have hsb : w_Sign_S F (big b) = some (sgn b) := by rw [Sign_y (by omega) (big_in b), hb]
   simp only [ga, gb, Bool.and_self, Bool.not_true, Bool.not_false]
   refine Yld.g1 rfl (Yld.bindE hsb ?_)
   have hsg : sgn b = 0 ↔ b = 0 := by unfold sgn; split <;> (try split) <;> omega
   rw [Bool.false_or]
   refine Yld.ite (fun h => ?_) (fun h => ?_)
   ·have hz : b = 0 := hsg.1 (of_decide_eq_true h)
    refine Yld.bindE (Bad_y F) (Yld.bindE (Bad_y F) (Yld.some ?_))
    simp only [quoO, remO, hz, if_true, toB]
   ·have hz : b ≠ 0 := fun e => (of_decide_eq_false h) (hsg.2 e)
    clear h
    simp only [quoO, remO, hz, if_false, toB]
    obtain ⟨t1, t2⟩ := tq a hz
    have hB := absZ_pos hz
    have hm0 := Int.emod_nonneg (absZ a) (show absZ b ≠ 0 by omega)
    have hm1 := Int.emod_lt_of_pos (absZ a) hB
    have hq0 : 0 ≤ absZ a / absZ b := Int.ediv_nonneg (absZ_nonneg a) (by omega)
    have hq1 : absZ a / absZ b ≤ absZ a := Int.ediv_le_self _ (absZ_nonneg a)
    have hsa : w_Small_S F (big a) = some (if -9223372036854775808 ≤ a ∧ a ≤ 9223372036854775807 then (a, true) else (0, false)) := by rw [Small_y (by omega) (big_in a), ha]
    have hsb2 : w_Small_S F (big b) = some (if -9223372036854775808 ≤ b ∧ b ≤ 9223372036854775807 then (b, true) else (0, false)) := by rw [Small_y (by omega) (big_in b), hb]
    refine Yld.bind (P := fun r => match r with | .inl _ => True | .inr z => z = (big (fq a b), big (fr a b))) ?_ ?_
    ·refine Yld.bindE hsa ?_
     by_cases h1 : -9223372036854775808 ≤ a ∧ a ≤ 9223372036854775807
     ·rw [if_pos h1]
      dsimp only [un2]
      refine Yld.ite (fun h => ?_) (fun h => ?_)
      ·have h2 : a ≠ -9223372036854775808 := by simpa using h
       refine Yld.bindE hsb2 ?_
       by_cases h3 : -9223372036854775808 ≤ b ∧ b ≤ 9223372036854775807
       ·rw [if_pos h3]
        dsimp only [un2]
        refine Yld.ite (fun h => ?_) (fun h => ?_)
        ·have h4 : b ≠ -9223372036854775808 := by simpa using h
         have habs : absZ a ≤ 9223372036854775807 := by unfold absZ; split <;> omega
         have hbbs : absZ b ≤ 9223372036854775807 := by unfold absZ; split <;> omega
         refine Yld.quo hz (Yld.rem hz ?_)
         have hw : IntKind.i64.wrap (Int.tdiv a b) = Int.tdiv a b := by rw [t1]; split <;> rw [wi64' (by omega) (by omega)]
         rw [hw]
         have hf1 := fq_abs (a := a) hz
         have hf2 := (fr_range (a := a) hz).1
         refine Yld.bind (P := fun p => p = (fq a b, fr a b)) (Yld.ln ?_) ?_
         ·unfold fq fr
          dsimp only
          rw [t1, t2]
          generalize absZ a / absZ b = q at *
          generalize absZ a % absZ b = r at *
          refine Yld.ite (fun h => ?_) (fun h => ?_)
          ·simp only [Bool.and_eq_true, decide_eq_true_eq] at h
           obtain ⟨g1, g2⟩ := h
           have hr0 : r ≠ 0 := by split at g1 <;> omega
           have e1 : decide ((if a < 0 then -r else r) < 0) = decide (a < 0) := by rw [decide_eq_decide]; split <;> omega
           rw [e1] at g2
           refine Yld.some ?_
           rw [g2, if_pos rfl, if_pos rfl, if_neg hr0]
           have e2 : (true && !decide (r = 0)) = true := by simp [hr0]
           rw [if_pos e2]
           by_cases hla : a < 0
           ·have hlb : ¬ b < 0 := fun hlb => by simp [hla, hlb] at g2
            have eb : absZ b = b := if_neg hlb
            rw [if_pos hla, if_neg hlb, wi64' (by omega) (by omega), wi64' (by omega) (by omega)]
            simp only [Prod.mk.injEq]
            omega
           ·have hlb : b < 0 := by
             by_cases hlb : b < 0
             ·exact hlb
             ·simp [hla, hlb] at g2
            have eb : absZ b = -b := if_pos hlb
            rw [if_neg hla, if_pos hlb, wi64' (by omega) (by omega), wi64' (by omega) (by omega)]
            simp only [Prod.mk.injEq]
            omega
          ·refine Yld.some ?_
           by_cases hr0 : r = 0
           ·subst hr0
            have e3 : (if a < 0 then -(0 : Int) else 0) = 0 := by split <;> rfl
            rw [e3]
            simp
           ·have e1 : decide ((if a < 0 then -r else r) < 0) = decide (a < 0) := by rw [decide_eq_decide]; split <;> omega
            have e4 : decide ((if a < 0 then -r else r) ≠ 0) = true := decide_eq_true (by split <;> omega)
            rw [e1, e4, Bool.true_and] at h
            have hab : decide (a < 0) = decide (b < 0) := by simpa using h
            have hab2 : (a < 0) = (b < 0) := propext (decide_eq_decide.1 hab)
            rw [h]
            simp only [Bool.false_eq_true, if_false, Bool.false_and, hab2]
         ·rintro ⟨q, r⟩ he
          cases he
          dsimp only [un2]
          have hA : -9223372036854775807 ≤ fq a b ∧ fq a b ≤ 9223372036854775807 := by unfold absZ at hf1 habs; split at hf1 <;> (split at habs <;> omega)
          have hA2 : -9223372036854775807 ≤ fr a b ∧ fr a b ≤ 9223372036854775807 := by unfold absZ at hf2 hbbs; split at hf2 <;> (split at hbbs <;> omega)
          exact Yld.bindE (Of_y F (by omega) (by omega)) (Yld.bindE (Of_y F (by omega) (by omega)) (Yld.some rfl))
        ·exact Yld.some trivial
       ·rw [if_neg h3]
        exact Yld.iff rfl (Yld.some trivial)
      ·exact Yld.some trivial
     ·rw [if_neg h1]
      exact Yld.iff rfl (Yld.some trivial)
    ·rintro (u | z) hz2
     ·clear hz2 hsa hsb2
      have hW0 : av (big b).W ≠ 0 := by rw [wb]; show absZ b ≠ 0; omega
      refine Yld.bindE (quotient_y hF (big_in a) (big_in b) hW0) ?_
      have wa' : av (big a).W = absZ a := wa
      have wb' : av (big b).W = absZ b := wb
      rw [wa', wb', na, nb]
      dsimp only [un2]
      have hla := absZ_lt ra
      have hlb := absZ_lt rb
      refine Yld.bindE (signed_y F _ (toA_in _)) ?_
      have hqm : absZ a / absZ b % MM = absZ a / absZ b := Int.emod_eq_of_lt hq0 (by omega)
      have hrm : absZ a % absZ b % MM = absZ a % absZ b := Int.emod_eq_of_lt hm0 (by omega)
      rw [av_toA, hqm]
      have hrz : decide (toA (absZ a % absZ b) ≠ A16.zero) = !decide (absZ a % absZ b = 0) := by
       rw [Bool.eq_iff_iff]
       simp only [decide_eq_true_eq, Bool.not_eq_true', decide_eq_false_iff_not]
       exact not_congr (toA_zero_iff hm0 (by omega))
      rw [hrz]
      refine Yld.bind (P := fun p => p = (toA (if ((decide (a < 0) != decide (b < 0)) && !decide (absZ a % absZ b = 0)) = true then absZ b - absZ a % absZ b else absZ a % absZ b), big (fq a b))) ?_ ?_
      ·unfold fq
       generalize hQ : absZ a / absZ b = q at *
       generalize hR : absZ a % absZ b = r at *
       refine Yld.ite (fun h => ?_) (fun h => ?_)
       ·simp only [Bool.and_eq_true, Bool.not_eq_true', decide_eq_false_iff_not] at h
        obtain ⟨g1, g2⟩ := h
        rw [g2, if_pos rfl, if_pos rfl, if_neg g1]
        have e2 : (true && !decide (r = 0)) = true := by simp [g1]
        rw [if_pos e2]
        refine Yld.bindE (Of_y F (by decide) (by decide)) ?_
        have hs1 : w_Sub_S F (big (-q)) (big 1) = some (big (-q - 1)) := by
         rw [Sub_y (by omega) (big_in _) (big_in _), two_big (by omega) (by have := MM_big; omega)]; rfl
        refine Yld.bindE hs1 ?_
        have hmin : w_minus_S F (big b).W (toA r) = some (toA (absZ b - r)) := by
         rw [minus_y (by omega) (big_in b) (toA_in r) (by rw [av_toA, hrm, wb']; omega), av_toA, hrm, wb']
        refine Yld.bindE hmin (Yld.some ?_)
        have e5 : -q - 1 = -(q + 1) := by omega
        rw [e5]
       ·refine Yld.some ?_
        cases hs : (decide (a < 0) != decide (b < 0)) with
        | false => simp
        | true =>
         have hr0 : r = 0 := by rw [hs] at h; simpa using h
         subst hr0
         simp
      ·rintro ⟨r', q'⟩ he
       cases he
       dsimp only [un2]
       refine Yld.bindE (signed_y F _ (toA_in _)) (Yld.some ?_)
       have hrr : 0 ≤ (if ((decide (a < 0) != decide (b < 0)) && !decide (absZ a % absZ b = 0)) = true then absZ b - absZ a % absZ b else absZ a % absZ b) ∧ (if ((decide (a < 0) != decide (b < 0)) && !decide (absZ a % absZ b = 0)) = true then absZ b - absZ a % absZ b else absZ a % absZ b) < MM := by split <;> omega
       rw [av_toA, Int.emod_eq_of_lt hrr.1 hrr.2]
       simp only [fr, decide_eq_true_eq]
     ·exact Yld.some hz2
theorem Quo_y {F : Nat} (hF : 18446744073709551616 < F) {x y : Big} (hx : inB x) (hy : inB y) : w_Quo_S F x y = some (two quoO x y) := by
 unfold w_Quo_S
 rw [divided_y hF hx hy]
 rfl
end Go.Proofs.YtcbbilehdaaffaaGreatDoor

namespace Go.Sk
set_option linter.unusedSimpArgs false
set_option linter.unusedVariables false
theorem absZ_nat (a : Int) : absZ a = (a.natAbs : Int) := by unfold absZ; split <;> omega
theorem gcd_step (X Y : Nat) : Nat.gcd X Y = Nat.gcd Y (X % Y) := by rw [Nat.gcd_comm X Y, Nat.gcd_rec Y X, Nat.gcd_comm]
theorem val2 {w : A16} (h : ∀ i, 2 ≤ i → i < 16 → dg w.l i = 0) : av w = w.a0 + w.a1 * 4294967296 := by
 have e : av w = ds 4294967296 (dg w.l) 2 := ds_ext (by omega) fun i h1 h2 => h i h1 h2
 rw [e]
 simp [ds]
 rfl
end Go.Sk
namespace Go.Proofs.YtcbbilehdaaffaaGreatDoor
open Go Go.Sk
set_option linter.unusedSimpArgs false
set_option linter.unusedVariables false
theorem gcdR_y {F : Nat} (hF : 18446744073709551616 < F) : ∀ (n : Nat) {a b : Int}, -MM < a ∧ a < MM → -MM < b ∧ b < MM → b.natAbs < n → w_Gcd_R F n (big a) (big b) = some (big (Nat.gcd a.natAbs b.natAbs : Nat))
 | 0, a, b, _, _, h => absurd h (Nat.not_lt_zero _)
 | n + 1, a, b, ra, rb, hn => by
  refine Yld.eq ?_
  unfold w_Gcd_R
  obtain ⟨wa, na⟩ := sv_big_W ra
  obtain ⟨wb, nb⟩ := sv_big_W rb
  have wa' : av (big a).W = absZ a := wa
  have wb' : av (big b).W = absZ b := wb
  have ia := big_in a
  have ib := big_in b
  have hla := absZ_lt ra
  have hlb := absZ_lt rb
  refine Yld.bindE (good2 (by omega) _ _) ?_
  rw [goodB_big ra, goodB_big rb]
  refine Yld.iff rfl ?_
  refine Yld.bind (P := fun r => match r with | .inl _ => True | .inr z => z = big (Nat.gcd a.natAbs b.natAbs : Nat)) ?_ ?_
  ·refine Yld.bind (size_y (by omega)) ?_
   rintro sa ⟨sa0, sa1, saz, _⟩
   by_cases h1 : sa ≤ 2
   ·rw [decide_eq_true h1]
    refine Yld.g1 rfl (Yld.bind (size_y (by omega)) ?_)
    rintro sb ⟨sb0, sb1, sbz, _⟩
    refine Yld.ite (fun h => ?_) (fun h => Yld.some trivial)
    have h2 : sb ≤ 2 := by simpa using h
    have va := val2 (w := (big a).W) fun i g1 g2 => saz i (by omega) g2
    have vb := val2 (w := (big b).W) fun i g1 g2 => sbz i (by omega) g2
    rw [wa'] at va
    rw [wb'] at vb
    have a0 := ia 0
    have a1 := ia 1
    have b0 := ib 0
    have b1 := ib 1
    generalize (big a).W = A at *
    generalize (big b).W = B at *
    have e0 : dg A.l 0 = A.a0 := rfl
    have e1 : dg A.l 1 = A.a1 := rfl
    have e2 : dg B.l 0 = B.a0 := rfl
    have e3 : dg B.l 1 = B.a1 := rfl
    rw [e0] at a0
    rw [e1] at a1
    rw [e2] at b0
    rw [e3] at b1
    have wr : ∀ x y : Int, 0 ≤ x ∧ x < 4294967296 → 0 ≤ y ∧ y < 4294967296 → ior .u64 (IntKind.u64.wrap ((IntKind.u64.wrap y) * 4294967296)) (IntKind.u64.wrap x) = x + y * 4294967296 := fun x y hx hy => by
     have q1 : IntKind.u64.wrap ((IntKind.u64.wrap y) * 4294967296) = y * 4294967296 := by simp only [wu64]; omega
     have q2 : IntKind.u64.wrap x = x := by rw [wu64]; omega
     rw [q1, q2, ior_add 32 (by omega) (by omega) (by rw [p32]; omega) hx.1 (by rw [p32]; omega) (by omega)]
     omega
    rw [wr _ _ a0 a1, wr _ _ b0 b1, ← va, ← vb]
    have la : absZ a < 18446744073709551616 := by omega
    have lb : absZ b < 18446744073709551616 := by omega
    rw [absZ_nat] at la lb ⊢
    rw [absZ_nat b]
    refine Yld.bind (P := fun x => x = ((Nat.gcd a.natAbs b.natAbs : Nat) : Int)) (Yld.loop (fun (s : Int × Int) => ∃ X Y : Nat, s = ((X : Int), (Y : Int)) ∧ Nat.gcd X Y = Nat.gcd a.natAbs b.natAbs ∧ Y < 18446744073709551616) (fun s => s.2.toNat) ⟨_, _, rfl, rfl, by omega⟩ (by dsimp only; omega) ?_) ?_
    ·rintro s ⟨X, Y, rfl, hg, hY⟩
     dsimp only [un2]
     refine Yld.ite (fun h => ?_) (fun h => ?_)
     ·have hy : (Y : Int) ≠ 0 := of_decide_eq_true h
      refine Yld.rem hy ?_
      rw [tmod_pos (by omega)]
      have hm : X % Y < Y := Nat.mod_lt _ (by omega)
      refine Yld.some (.inl ⟨_, rfl, ⟨Y, X % Y, by rw [Int.natCast_emod], ?_, by omega⟩, ?_⟩)
      ·rw [← hg, ← gcd_step]
      ·dsimp only
       rw [← Int.natCast_emod]; omega
     ·have hy : (Y : Int) = 0 := by have := of_decide_eq_false h; omega
      have hy0 : Y = 0 := by omega
      subst hy0
      refine Yld.some (.inr ⟨_, rfl, ?_⟩)
      rw [← hg, Nat.gcd_zero_right]
    ·rintro x rfl
     have hgl : Nat.gcd a.natAbs b.natAbs < 18446744073709551616 := by
      by_cases e : a.natAbs = 0
      ·rw [e, Nat.gcd_zero_left]; omega
      ·have := Nat.gcd_le_left b.natAbs (show 0 < a.natAbs by omega); omega
     generalize Nat.gcd a.natAbs b.natAbs = G at *
     have g1 : IntKind.u32.wrap (G : Int) = (G : Int) % 4294967296 := wu32 _
     have g2 : IntKind.u32.wrap ((G : Int) / 4294967296) = (G : Int) / 4294967296 := by rw [wu32]; omega
     rw [g1, g2]
     refine Yld.ln (Yld.bindE (signed_y F _ (in_two (by omega) (by omega))) (Yld.some ?_))
     rw [av_two]
     simp only [Bool.false_eq_true, if_false]
     congr 1
     omega
   ·rw [decide_eq_false h1]
    exact Yld.g0 rfl (Yld.iff rfl (Yld.some trivial))
  ·rintro (u | z) hz
   ·have hz0 : decide ((big b).W ≠ A16.zero) = !decide (b = 0) := by
     rw [Bool.eq_iff_iff]
     simp only [decide_eq_true_eq, Bool.not_eq_true', decide_eq_false_iff_not]
     have := zero_iff ib
     rw [wb', absZ_zero] at this
     exact not_congr this
    show Yld (if decide ((big b).W ≠ A16.zero) = true then _ else _) _
    rw [hz0]
    refine Yld.ite (fun h => ?_) (fun h => ?_)
    ·have hb0 : b ≠ 0 := by simpa using h
     have hB := absZ_pos hb0
     have hm0 := Int.emod_nonneg (absZ a) (show absZ b ≠ 0 by omega)
     have hm1 := Int.emod_lt_of_pos (absZ a) hB
     refine Yld.bindE (quotient_y hF ia ib (by rw [wb']; omega)) ?_
     dsimp only [un2]
     refine Yld.bindE (signed_y F _ ib) (Yld.bindE (signed_y F _ (toA_in _)) ?_)
     simp only [Bool.false_eq_true, if_false, wa', wb', av_toA]
     rw [Int.emod_eq_of_lt hm0 (by omega)]
     have hrec := gcdR_y hF n (a := absZ b) (b := absZ a % absZ b) (by omega) (by omega) (by rw [absZ_nat b] at *; omega)
     refine Yld.bindE hrec (Yld.some ?_)
     have e1 : (absZ b).natAbs = b.natAbs := by rw [absZ_nat]; omega
     have e2 : (absZ a % absZ b).natAbs = a.natAbs % b.natAbs := by rw [absZ_nat, absZ_nat, ← Int.natCast_emod]; omega
     rw [e1, e2, ← gcd_step]
    ·have hb0 : b = 0 := by simpa using h
     subst hb0
     have habs : w_Abs_S F (big a) = some (big (absZ a)) := by rw [Abs_y (by omega) ia, one_big ra]; rfl
     refine Yld.bindE habs (Yld.some ?_)
     rw [absZ_nat]
     simp
   ·exact Yld.some hz
theorem Gcd_y {F : Nat} (hF : 18446744073709551616 < F) {a b : Int} (ra : -MM < a ∧ a < MM) (rb : -MM < b ∧ b < MM) (hb : b.natAbs < F) : w_Gcd_S F (big a) (big b) = some (big (Nat.gcd a.natAbs b.natAbs : Nat)) := gcdR_y hF F ra rb hb
end Go.Proofs.YtcbbilehdaaffaaGreatDoor

namespace Go.Sk
def decK : Nat → Nat → Str
 | 0, _ => []
 | f + 1, u => if u < 10 then [UInt8.ofNat (48 + u)] else decK f (u / 10) ++ [UInt8.ofNat (48 + u % 10)]
theorem decK_eq : ∀ (f u : Nat), u < f → decK f u = Lib.decDigits u
 | 0, u, h => absurd h (Nat.not_lt_zero u)
 | f + 1, u, h => by
  rw [Lib.decDigits]
  unfold decK
  split
  ·rfl
  ·rw [decK_eq f (u / 10) (by omega)]
def itoaK (n : Int) : Str := if n < 0 then 45 :: decK (n.natAbs + 1) n.natAbs else decK (n.toNat + 1) n.toNat
theorem itoaK_eq (n : Int) : Lib.itoa n = itoaK n := by
 unfold itoaK Lib.itoa
 rw [decK_eq _ _ (Nat.lt_succ_self _), decK_eq _ _ (Nat.lt_succ_self _)]
def itoaK? (n : Int) : Option Str := if (itoaK n).length ≤ 1000000000 then some (itoaK n) else none
theorem itoaK?_eq : itoa? = itoaK? := by
 funext n
 unfold itoa? itoaK?
 rw [itoaK_eq]
end Go.Sk
namespace Go.Proofs.YtcbbilehdaaffaaGreatDoor
open Go Go.Sk
set_option maxRecDepth 100000
def FF : Nat := 13407807929942597099574024998205846127479365820592393377723561443721764030073546976801874298166903427690031858186486050853753882811946569946433649006084097
theorem FF1 : 100 < FF := by decide +kernel
theorem FF2 : 100000 < FF := by decide +kernel
theorem itoa_S_K : strconv_Itoa_S = fun _ n => itoaK? n := by
 funext F n
 unfold strconv_Itoa_S
 rw [itoaK?_eq]
end Go.Proofs.YtcbbilehdaaffaaGreatDoor

namespace Go.Proofs.YtcbbilehdaaffaaGreatDoor
open Go Go.Sk
set_option linter.unusedSimpArgs false
set_option linter.unusedVariables false
theorem FFb : 18446744073709551616 < FF := by decide +kernel
theorem FF_MM : MM < FF := by rw [MM_eq]; decide +kernel
abbrev InM (a : Int) : Prop := -MM < a ∧ a < MM
theorem Mul_v {a b : Int} (ra : InM a) (rb : InM b) : w_Mul_S FF (big a) (big b) = some (big (a * b)) := by rw [Mul_y FF1 (big_in a) (big_in b), two_big ra rb]; rfl
theorem Sign_v {a : Int} (ra : InM a) : w_Sign_S FF (big a) = some (sgn a) := by rw [Sign_y FF1 (big_in a), iv_big ra]
theorem Quo_v {a b : Int} (ra : InM a) (rb : InM b) (h : b ≠ 0) : w_Quo_S FF (big a) (big b) = some (big (fq a b)) := by rw [Quo_y FFb (big_in a) (big_in b), two_big ra rb]; simp only [quoO, h, if_false]; rfl
theorem Gcd_v {a b : Int} (ra : InM a) (rb : InM b) : w_Gcd_S FF (big a) (big b) = some (big (Nat.gcd a.natAbs b.natAbs : Nat)) := Gcd_y FFb ra rb (by have := FF_MM; omega)
theorem Of_v {n : Int} (h0 : -9223372036854775808 ≤ n) (h1 : n ≤ 9223372036854775807) : w_Of_S FF n = some (big n) := Of_y FF h0 h1
theorem one_InM : InM 1 := by have := MM_big; constructor <;> omega
theorem zero_InM : InM 0 := by have := MM_big; constructor <;> omega
end Go.Proofs.YtcbbilehdaaffaaGreatDoor

namespace Go.Proofs.YtcbbilehdaaffaaGreatDoor
open Go Go.Sk
set_option linter.unusedSimpArgs false
set_option linter.unusedVariables false
theorem gcd_tmod (n m : Int) : Nat.gcd n.natAbs m.natAbs = Nat.gcd m.natAbs (n.tmod m).natAbs := by
 rw [Int.natAbs_tmod]; exact gcd_step _ _
theorem tmod_lt {n m : Int} (h : m ≠ 0) : (n.tmod m).natAbs < m.natAbs := by
 rw [Int.natAbs_tmod]; exact Nat.mod_lt _ (by omega)
theorem rGcd_v {a b : Int} (ra : InM a) (rb : InM b) : r3_Gcd_S FF (big a) (big b) = some (big (Nat.gcd a.natAbs b.natAbs : Nat)) := by
 have hF := FF2
 have hFb := FFb
 refine Yld.eq ?_
 unfold r3_Gcd_S
 refine Yld.bindE (word_y' hF (big_in a)) ?_
 rw [iv_big ra]
 generalize hp : wd (some a) = wx
 obtain ⟨p, p'⟩ := wx
 refine Yld.bindE (word_y' hF (big_in b)) ?_
 rw [iv_big rb]
 generalize hq : wd (some b) = wy
 obtain ⟨q, q'⟩ := wy
 dsimp only [un2]
 refine Yld.bind (P := fun o => o = .inr (big (Nat.gcd a.natAbs b.natAbs : Nat)) ∨ o = .inl ()) (Yld.ite (fun h => ?_) (fun h => ?_)) ?_
 ·simp only [Bool.and_eq_true] at h
  obtain ⟨rfl, rfl⟩ := h
  obtain ⟨ea, la⟩ := wd_true hp
  obtain ⟨eb, lb⟩ := wd_true hq
  cases ea; cases eb
  have la' : a.natAbs < 4611686018427387904 := by unfold absZ at la; split at la <;> omega
  have lb' : b.natAbs < 4611686018427387904 := by unfold absZ at lb; split at lb <;> omega
  refine Yld.bind (P := fun z : Int => z.natAbs = Nat.gcd a.natAbs b.natAbs ∧ z.natAbs < 4611686018427387904) (Yld.loop (fun s : Int × Int => Nat.gcd s.1.natAbs s.2.natAbs = Nat.gcd a.natAbs b.natAbs ∧ s.1.natAbs < 4611686018427387904 ∧ s.2.natAbs < 4611686018427387904) (fun s => s.2.natAbs) ⟨rfl, la', lb'⟩ (by dsimp only; omega) ?_) ?_
  ·rintro ⟨n, m⟩ ⟨h1, h2, h3⟩
   dsimp only at h1 h2 h3
   dsimp only [un2]
   refine Yld.ite (fun h => ?_) (fun h => ?_)
   ·have hm : m ≠ 0 := of_decide_eq_true h
    have := tmod_lt (n := n) hm
    refine Yld.rem hm (Yld.some (.inl ⟨_, rfl, ⟨by dsimp only; rw [← gcd_tmod]; exact h1, h3, by dsimp only; omega⟩, this⟩))
   ·have hm : m = 0 := by have := of_decide_eq_false h; omega
    subst hm
    refine Yld.some (.inr ⟨_, rfl, ?_, h2⟩)
    simpa using h1
  ·rintro z ⟨hz, hl⟩
   refine Yld.bindE (rOf_y hF (by omega) (by omega)) (Yld.bindE (x := big (Nat.gcd a.natAbs b.natAbs : Nat)) ?_ (Yld.some (.inl rfl)))
   rw [rAbs_y hF (big_in z), one_big (by have := MM_big; constructor <;> omega), ← hz]
   unfold absZ toB
   dsimp only
   congr 2
   split <;> omega
 ·exact Yld.some (.inr rfl)
 ·rintro o (rfl | rfl)
  ·exact Yld.some rfl
  ·dsimp only [alt2]
   refine Yld.bindE (rGood_y hF (big_in a)) ?_
   rw [goodB_big ra]
   refine Yld.g1 rfl (Yld.bindE (rGood_y hF (big_in b)) ?_)
   rw [goodB_big rb]
   refine Yld.iff rfl (Yld.bind (dig_y hF ra) ?_)
   rintro c ⟨c1, c2, c3, c4⟩
   refine Yld.bind (dig_y hF rb) ?_
   rintro d ⟨d1, d2, d3, d4⟩
   have hm : (lv d).toNat < FF := by
    have h1 := (absZ_lt rb).2
    have h2 := FF_MM
    rw [d3]; omega
   refine Yld.bind (P := fun x : List Int => inD 65536 x ∧ x.length ≤ 99 ∧ lv x = (Nat.gcd a.natAbs b.natAbs : Nat)) (Yld.loop (fun s : List Int × List Int => (inD 65536 s.1 ∧ s.1.length ≤ 99) ∧ (inD 65536 s.2 ∧ Tight s.2 ∧ s.2.length ≤ 99) ∧ Nat.gcd (lv s.1).natAbs (lv s.2).natAbs = Nat.gcd a.natAbs b.natAbs) (fun s => (lv s.2).toNat) ⟨⟨c1, by dsimp only; omega⟩, ⟨d1, d2, by dsimp only; omega⟩, by dsimp only; rw [c3, d3, absZ_nat, absZ_nat]; rfl⟩ hm ?_) ?_
   ·rintro ⟨x, y⟩ ⟨⟨x1, x2⟩, ⟨y1, y2, y3⟩, hg⟩
    dsimp only at x1 x2 y1 y2 y3 hg
    dsimp only [un2]
    have hy := len_pos y1 y2
    have ny := lv_nonneg y1
    have nx := lv_nonneg x1
    refine Yld.ite (fun h => ?_) (fun h => ?_)
    ·have h' := of_decide_eq_true h
     have hl : 0 < y.length := by omega
     refine Yld.bind (divide_y hF x1 y1 y2 hl (by omega) (by omega)) ?_
     rintro ⟨q, r⟩ ⟨⟨q1, q2, q3⟩, ⟨r1, r2, r3⟩, e1, e2⟩
     dsimp only at q1 q2 q3 r1 r2 r3 e1 e2
     dsimp only [un2]
     have nr := lv_nonneg r1
     obtain ⟨m1, m2⟩ := div_mod_of e1 nr e2
     refine Yld.some (.inl ⟨_, rfl, ⟨⟨y1, y3⟩, ⟨r1, r2, ?_⟩, ?_⟩, ?_⟩)
     ·dsimp only; omega
     ·dsimp only
      rw [← hg, ← m2, gcd_step (lv x).natAbs]
      congr 1
      have := Int.natAbs_emod_of_nonneg (a := lv x) (b := lv y) nx
      omega
     ·dsimp only; omega
    ·have h' := of_decide_eq_false h
     have hz : lv y = 0 := by
      by_cases e : lv y = 0
      ·exact e
      ·have := hy.2 e; omega
     refine Yld.some (.inr ⟨_, rfl, x1, x2, ?_⟩)
     rw [hz] at hg
     simp only [Int.natAbs_zero, Nat.gcd_zero_right] at hg
     omega
   ·rintro x ⟨x1, x2, x3⟩
    refine Yld.bindE (num_y hF _ (by omega) x1) (Yld.some ?_)
    rw [x3]; simp
end Go.Proofs.YtcbbilehdaaffaaGreatDoor

namespace Go.Sk
set_option linter.unusedSimpArgs false
set_option linter.unusedVariables false
theorem red_coprime {n d g : Nat} (hg : g = Nat.gcd n d) (h0 : 0 < g) : Nat.gcd (n / g) (d / g) = 1 := by
 obtain ⟨a, ha⟩ : g ∣ n := hg ▸ Nat.gcd_dvd_left n d
 obtain ⟨b, hb⟩ : g ∣ d := hg ▸ Nat.gcd_dvd_right n d
 have e1 : n / g = a := by rw [ha, Nat.mul_div_cancel_left _ h0]
 have e2 : d / g = b := by rw [hb, Nat.mul_div_cancel_left _ h0]
 rw [e1, e2]
 have e3 := Nat.gcd_mul_left g a b
 rw [← ha, ← hb, ← hg] at e3
 have e4 : g * 1 = g * Nat.gcd a b := by omega
 exact (Nat.eq_of_mul_eq_mul_left h0 e4).symm
theorem den_pos (r : Rat) : (0 : Int) < r.den := by have := r.den_nz; omega
theorem divInt_cop {n d : Int} (h0 : 0 < d) (hc : Nat.gcd n.natAbs d.natAbs = 1) : (Rat.divInt n d).num = n ∧ ((Rat.divInt n d).den : Int) = d := by
 have key := Rat.num_divInt_den ⟨n, d.natAbs, by omega, hc⟩
 have e : ((d.natAbs : Nat) : Int) = d := by omega
 dsimp only at key
 rw [e] at key
 rw [key]
 exact ⟨rfl, e⟩
def gcdS (n d : Int) : Int := if d < 0 then -(Nat.gcd n.natAbs d.natAbs : Nat) else (Nat.gcd n.natAbs d.natAbs : Nat)
theorem red {n d : Int} (hd : d ≠ 0) : gcdS n d ≠ 0 ∧ (Rat.divInt n d).num * gcdS n d = n ∧ ((Rat.divInt n d).den : Int) * gcdS n d = d := by
 have g0 : 0 < Nat.gcd n.natAbs d.natAbs := Nat.gcd_pos_of_pos_right _ (by omega)
 have hc := red_coprime (n := n.natAbs) (d := d.natAbs) rfl g0
 have d1 := Nat.div_mul_cancel (Nat.gcd_dvd_left n.natAbs d.natAbs)
 have d2 := Nat.div_mul_cancel (Nat.gcd_dvd_right n.natAbs d.natAbs)
 generalize hg : Nat.gcd n.natAbs d.natAbs = g at *
 generalize n.natAbs / g = a at *
 generalize hb : d.natAbs / g = b at *
 have b0 : 0 < b := by
  rcases Nat.eq_zero_or_pos b with e | e
  ·subst e; omega
  ·exact e
 have e0 : gcdS n d = if d < 0 then -(g : Int) else g := by unfold gcdS; rw [hg]
 have d1' : (a : Int) * g = n.natAbs := by rw [← d1]; simp
 have d2' : (b : Int) * g = d.natAbs := by rw [← d2]; simp
 obtain ⟨x, hx, hn⟩ : ∃ x : Int, x.natAbs = a ∧ x * gcdS n d = n := by
  rw [e0]
  by_cases h1 : d < 0
  ·by_cases h2 : n < 0
   ·exact ⟨a, by omega, by rw [if_pos h1, Int.mul_neg, d1']; omega⟩
   ·exact ⟨-a, by omega, by rw [if_pos h1, Int.mul_neg, Int.neg_mul, d1']; omega⟩
  ·by_cases h2 : n < 0
   ·exact ⟨-a, by omega, by rw [if_neg h1, Int.neg_mul, d1']; omega⟩
   ·exact ⟨a, by omega, by rw [if_neg h1, d1']; omega⟩
 have hdd : (b : Int) * gcdS n d = d := by
  rw [e0]
  by_cases h1 : d < 0
  ·rw [if_pos h1, Int.mul_neg, d2']; omega
  ·rw [if_neg h1, d2']; omega
 have hgs : gcdS n d ≠ 0 := by rw [e0]; split <;> omega
 have hq : Rat.divInt n d = Rat.divInt x b := by
  rw [Rat.divInt_eq_divInt_iff hd (by omega)]
  generalize gcdS n d = G at *
  subst hn; subst hdd
  rw [Int.mul_assoc, Int.mul_comm G]
 have hcop := divInt_cop (n := x) (d := b) (by omega) (by rw [hx]; exact hc)
 rw [hq, hcop.1, hcop.2]
 exact ⟨hgs, hn, hdd⟩
theorem divInt_q (n d : Int) : Rat.divInt n d = (n : Rat) / (d : Rat) := Rat.divInt_eq_div n d
theorem rat_q (r : Rat) : r = (r.num : Rat) / (r.den : Int) := by
 have := Rat.num_divInt_den r
 rw [divInt_q] at this
 exact this.symm
theorem prod_q (r s : Rat) : (r * s).num = (Rat.divInt r.num s.den).num * (Rat.divInt s.num r.den).num ∧ (((r * s).den : Nat) : Int) = (Rat.divInt r.num s.den).den * (Rat.divInt s.num r.den).den := by
  have r0 := den_pos r
  have s0 := den_pos s
  obtain ⟨g1, a1, a2⟩ := red (n := r.num) (d := s.den) (by omega)
  obtain ⟨g2, b1, b2⟩ := red (n := s.num) (d := r.den) (by omega)
  have ca := (Rat.divInt r.num s.den).reduced
  have cb := (Rat.divInt s.num r.den).reduced
  have cr := r.reduced
  have cs := s.reduced
  have pa := den_pos (Rat.divInt r.num s.den)
  have pb := den_pos (Rat.divInt s.num r.den)
  have er := rat_q r
  have es := rat_q s
  generalize ha : Rat.divInt r.num s.den = a at *
  generalize hb : Rat.divInt s.num r.den = b at *
  have e : r * s = Rat.divInt (a.num * b.num) (a.den * b.den) := by
    rw [divInt_q, Rat.intCast_mul, Rat.intCast_mul]
    have hab : r * s = a * b := by
      rw [← ha, ← hb, divInt_q, divInt_q]
      have h1 : ((r.den : Int) : Rat) ≠ 0 := by have : (r.den : Int) ≠ 0 := by omega
                                                simpa using this
      have h2 : ((s.den : Int) : Rat) ≠ 0 := by have : (s.den : Int) ≠ 0 := by omega
                                                simpa using this
      generalize ((r.den : Int) : Rat) = D1 at *
      generalize ((s.den : Int) : Rat) = D2 at *
      generalize (r.num : Rat) = N1 at *
      generalize (s.num : Rat) = N2 at *
      rw [er, es]
      grind
    have ea := rat_q a
    have eb := rat_q b
    rw [hab]
    have h1 : ((a.den : Int) : Rat) ≠ 0 := by have : (a.den : Int) ≠ 0 := by omega
                                              simpa using this
    have h2 : ((b.den : Int) : Rat) ≠ 0 := by have : (b.den : Int) ≠ 0 := by omega
                                              simpa using this
    generalize ((a.den : Int) : Rat) = D1 at *
    generalize ((b.den : Int) : Rat) = D2 at *
    generalize (a.num : Rat) = N1 at *
    generalize (b.num : Rat) = N2 at *
    rw [ea, eb]
    grind
  have k1 : Nat.Coprime a.num.natAbs b.den := by
    have hx : a.num.natAbs ∣ r.num.natAbs := Int.natAbs_dvd_natAbs.2 ⟨_, a1.symm⟩
    have hy : b.den ∣ r.den := by
      have : (b.den : Int) ∣ (r.den : Int) := ⟨_, b2.symm⟩
      exact Int.natCast_dvd_natCast.1 this
    exact Nat.Coprime.coprime_dvd_left hx (Nat.Coprime.coprime_dvd_right hy cr)
  have k2 : Nat.Coprime b.num.natAbs a.den := by
    have hx : b.num.natAbs ∣ s.num.natAbs := Int.natAbs_dvd_natAbs.2 ⟨_, b1.symm⟩
    have hy : a.den ∣ s.den := by
      have : (a.den : Int) ∣ (s.den : Int) := ⟨_, a2.symm⟩
      exact Int.natCast_dvd_natCast.1 this
    exact Nat.Coprime.coprime_dvd_left hx (Nat.Coprime.coprime_dvd_right hy cs)
  have hc : Nat.gcd (a.num * b.num).natAbs ((a.den : Int) * b.den).natAbs = 1 := by
    rw [Int.natAbs_mul, Int.natAbs_mul, Int.natAbs_natCast, Int.natAbs_natCast]
    exact Nat.Coprime.mul_left (Nat.Coprime.mul_right ca k1) (Nat.Coprime.mul_right k2 cb)
  rw [e]
  exact divInt_cop (Int.mul_pos pa pb) hc
end Go.Sk

namespace Go.Sk
set_option linter.unusedSimpArgs false
set_option linter.unusedVariables false
def cross (p q r s : Int) : Int := cmpZ (p * s) (r * q)
theorem cross_rest {p q r s : Int} (h : p / q = r / s) : cross p q r s = cmpZ (p % q * s) (r % s * q) := by
 have e1 := Int.mul_ediv_add_emod p q
 have e2 := Int.mul_ediv_add_emod r s
 rw [← h] at e2
 generalize p / q = k at *
 generalize p % q = a at *
 generalize r % s = b at *
 have e3 : p * s = a * s + k * q * s := by rw [← e1]; grind
 have e4 : r * q = b * q + k * q * s := by rw [← e2]; grind
 unfold cross cmpZ
 rw [e3, e4]
 have h1 : (a * s + k * q * s < b * q + k * q * s) = (a * s < b * q) := propext (by omega)
 have h2 : (b * q + k * q * s < a * s + k * q * s) = (b * q < a * s) := propext (by omega)
 simp only [h1, h2]
theorem cross_next {p q r s : Int} (h : p / q = r / s) : cross p q r s = -cross q (p % q) s (r % s) := by
 rw [cross_rest h]
 unfold cross
 rw [Int.mul_comm (p % q), Int.mul_comm (r % s)]
 generalize s * (p % q) = u
 generalize q * (r % s) = v
 unfold cmpZ
 split <;> split <;> (try split) <;> omega
end Go.Sk

namespace Go.Proofs.YtcbbilehdaaffaaGreatDoor
open Go Go.Sk
set_option linter.unusedSimpArgs false
set_option linter.unusedVariables false
def bf : Frc := ⟨bad, big 1⟩
def fits (r : Rat) : Prop := InM r.num ∧ InM r.den
noncomputable instance (r : Rat) : Decidable (fits r) := Classical.propDecidable _
def mk (r : Rat) : Frc := ⟨big r.num, big r.den⟩
noncomputable def ofR (r : Rat) : Frc := if fits r then mk r else bf
abbrev inF (x : Frc) : Prop := inB x.N ∧ inB x.D
def qF (x : Frc) : Option Rat := match iv x.N, iv x.D with
 | some n, some d => if 0 < d ∧ Nat.gcd n.natAbs d.natAbs = 1 then some (Rat.divInt n d) else none
 | _, _ => none
noncomputable def mkB (n d : Big) : Frc := match iv n, iv d with
 | some a, some b => if b = 0 then bf else ofR (Rat.divInt a b)
 | _, _ => bf
theorem in_mk {N D : Big} (h1 : inB N) (h2 : inB D) : inF ⟨N, D⟩ := And.intro h1 h2
theorem bf_in : inF bf := in_mk bad_in (big_in 1)
theorem mk_in (r : Rat) : inF (mk r) := in_mk (big_in _) (big_in _)
theorem ofR_in (r : Rat) : inF (ofR r) := by unfold ofR; split; exact mk_in r; exact bf_in
theorem mkB_in (n d : Big) : inF (mkB n d) := by
 unfold mkB; split
 ·split; exact bf_in; exact ofR_in _
 ·exact bf_in
theorem ofR_fits {r : Rat} (h : fits r) : ofR r = mk r := by unfold ofR; rw [if_pos h]
theorem ofR_not {r : Rat} (h : ¬ fits r) : ofR r = bf := by unfold ofR; rw [if_neg h]
theorem qF_none {N D : Big} (h : iv N = none) : qF ⟨N, D⟩ = none := by
 unfold qF
 dsimp only
 rw [h]
theorem qF_bf : qF bf = none := by
 unfold bf
 exact qF_none iv_bad
theorem qF_of {N D : Big} {n d : Int} (hn : iv N = some n) (hd : iv D = some d) (h0 : 0 < d) (hc : Nat.gcd n.natAbs d.natAbs = 1) : qF ⟨N, D⟩ = some (Rat.divInt n d) := by
 unfold qF
 dsimp only
 rw [hn, hd]
 dsimp only
 rw [if_pos ⟨h0, hc⟩]
theorem qF_mk {r : Rat} (h : fits r) : qF (mk r) = some r := by
 have hc : Nat.gcd r.num.natAbs ((r.den : Int)).natAbs = 1 := by rw [Int.natAbs_natCast]; exact r.reduced
 have := qF_of (iv_big h.1) (iv_big h.2) (den_pos r) hc
 rw [Rat.num_divInt_den] at this
 exact this
theorem qF_some {x : Frc} {r : Rat} (hx : inF x) (h : qF x = some r) : fits r ∧ x = mk r := by
 unfold qF at h
 split at h
 ·next n d hn hd =>
  obtain ⟨_, en, rn⟩ := iv_some hx.1 hn
  obtain ⟨_, ed, rd⟩ := iv_some hx.2 hd
  split at h
  ·next hc =>
   have e := divInt_cop hc.1 hc.2
   cases h
   refine ⟨⟨by rw [e.1]; exact rn, by rw [e.2]; exact rd⟩, ?_⟩
   unfold mk
   rw [e.1, e.2, ← en, ← ed]
  ·cases h
 ·cases h
theorem fq_mul {q g : Int} (h : g ≠ 0) : fq (q * g) g = q := by
 refine (fq_unique h (r := 0) (by rw [Int.mul_comm]; omega) ?_ (.inl rfl)).1.symm
 have := absZ_pos h
 simpa [absZ] using this
theorem red_fits {n d : Int} (hd : d ≠ 0) (rn : InM n) (rd : InM d) : fits (Rat.divInt n d) := by
 obtain ⟨g0, e1, e2⟩ := red (n := n) hd
 have key : ∀ {a g m : Int}, g ≠ 0 → a * g = m → InM m → InM a := fun {a g m} hg e hm => by
  have h1 : a.natAbs * g.natAbs = m.natAbs := by rw [← Int.natAbs_mul, e]
  have h2 : a.natAbs * 1 ≤ a.natAbs * g.natAbs := Nat.mul_le_mul_left _ (by omega)
  constructor <;> have := hm.1 <;> have := hm.2 <;> omega
 exact ⟨key g0 e1 rn, key g0 e2 rd⟩
theorem goodz_y {x : Big} : q_good_S FF x = some (goodB x) := by
 refine Yld.eq ?_
 unfold q_good_S goodB
 cases h : x.Bad with
 | true => exact Yld.g0 rfl (Yld.some (by simp))
 | false => exact Yld.g1 rfl (Yld.bindE (Valid_y FF x) (Yld.some (by simp [h])))
theorem one_y : q_one_S FF = some (big 1) := by
 unfold q_one_S
 rw [Of_v (by decide) (by decide)]; rfl
theorem Bad_f : q_Bad_S FF = some bf := by
 unfold q_Bad_S
 rw [Bad_y, Option.bind_some, one_y]; rfl
theorem sgn_pos {d : Int} : decide (0 < sgn d) = decide (0 < d) := by rw [decide_eq_decide]; unfold sgn; split <;> (try split) <;> omega
theorem sgn_neg {d : Int} : decide (sgn d < 0) = decide (d < 0) := by rw [decide_eq_decide]; unfold sgn; split <;> (try split) <;> omega
theorem sgn_zero {d : Int} : decide (sgn d = 0) = decide (d = 0) := by rw [decide_eq_decide]; unfold sgn; split <;> (try split) <;> omega
theorem Good_f {x : Frc} (hx : inF x) : q_Good_S FF x = some (qF x).isSome := by
 refine Yld.eq ?_
 unfold q_Good_S qF
 refine Yld.bindE goodz_y ?_
 cases hn : iv x.N with
 | none =>
  rw [iv_none hn]
  exact Yld.g0 rfl (Yld.g0 rfl (Yld.g0 rfl (Yld.g0 rfl (Yld.some rfl))))
 | some n =>
  obtain ⟨gn, en, rn⟩ := iv_some hx.1 hn
  rw [gn]
  refine Yld.g1 rfl (Yld.bindE goodz_y ?_)
  cases hd : iv x.D with
  | none =>
   rw [iv_none hd]
   exact Yld.g0 rfl (Yld.g0 rfl (Yld.g0 rfl (Yld.some rfl)))
  | some d =>
   obtain ⟨gd, ed, rd⟩ := iv_some hx.2 hd
   rw [gd, en, ed]
   refine Yld.g1 rfl (Yld.bindE (Sign_v rd) ?_)
   rw [sgn_pos]
   by_cases h0 : 0 < d
   ·rw [decide_eq_true h0]
    refine Yld.g1 rfl (Yld.bindE (Gcd_v rn rd) (Yld.g1 rfl (Yld.bindE one_y (Yld.some ?_))))
    have hg : InM (Nat.gcd n.natAbs d.natAbs : Nat) := by
     have := Nat.gcd_le_right n.natAbs (show 0 < d.natAbs by omega)
     have := rd.1; have := rd.2
     constructor <;> omega
    have e : (big (Nat.gcd n.natAbs d.natAbs : Nat) = big 1) = (Nat.gcd n.natAbs d.natAbs = 1) := by
     rw [eq_iff_iff, big_inj hg one_InM]; omega
    simp only [e]
    by_cases h1 : Nat.gcd n.natAbs d.natAbs = 1
    ·simp [h1, h0]
    ·simp [h1]
   ·rw [decide_eq_false h0]
    refine Yld.g0 rfl (Yld.g0 rfl (Yld.some ?_))
    simp [h0]
theorem Make_f {n d : Big} (hn : inB n) (hd : inB d) : q_Make_S FF n d = some (mkB n d) := by
 refine Yld.eq ?_
 unfold q_Make_S mkB
 refine Yld.bindE goodz_y ?_
 cases ha : iv n with
 | none =>
  rw [iv_none ha]
  exact Yld.g0 rfl (Yld.g0 rfl (Yld.ift rfl (Yld.bindE Bad_f (Yld.some rfl))))
 | some a =>
  obtain ⟨ga, rfl, ra⟩ := iv_some hn ha
  rw [ga]
  refine Yld.g1 rfl (Yld.bindE goodz_y ?_)
  cases hb : iv d with
  | none =>
   rw [iv_none hb]
   exact Yld.g0 rfl (Yld.ift rfl (Yld.bindE Bad_f (Yld.some rfl)))
  | some b =>
   obtain ⟨gb, rfl, rb⟩ := iv_some hd hb
   rw [gb]
   refine Yld.g1 rfl (Yld.bindE (Sign_v rb) ?_)
   rw [sgn_zero]
   by_cases h0 : b = 0
   ·rw [decide_eq_true h0]
    exact Yld.ift rfl (Yld.bindE Bad_f (Yld.some (by simp [h0])))
   ·rw [decide_eq_false h0]
    have hg : InM (Nat.gcd a.natAbs b.natAbs : Nat) := by
     have := Nat.gcd_le_right a.natAbs (show 0 < b.natAbs by omega)
     have := rb.1; have := rb.2
     constructor <;> omega
    have hgs : InM (gcdS a b) := by unfold gcdS; split <;> (have := hg.1; have := hg.2; constructor <;> omega)
    obtain ⟨g0, e1, e2⟩ := red (n := a) h0
    refine Yld.iff rfl (Yld.bindE (Gcd_v ra rb) (Yld.bind (P := fun g => g = big (gcdS a b)) (Yld.bindE (Sign_v rb) ?_) ?_))
    ·rw [sgn_neg]
     unfold gcdS
     refine Yld.ite (fun h => ?_) (fun h => ?_)
     ·rw [if_pos (of_decide_eq_true h), Neg_y FF1 (big_in _), one_big hg]; exact Yld.some rfl
     ·rw [if_neg (of_decide_eq_false h)]; exact Yld.some rfl
    ·rintro g rfl
     refine Yld.bindE (Quo_v ra hgs g0) (Yld.bindE (Quo_v rb hgs g0) (Yld.some ?_))
     dsimp only
     rw [if_neg h0, ofR_fits (red_fits h0 ra rb)]
     unfold mk
     have f1 : fq a (gcdS a b) = (Rat.divInt a b).num := by
      have := fq_mul (q := (Rat.divInt a b).num) g0
      rwa [e1] at this
     have f2 : fq b (gcdS a b) = ((Rat.divInt a b).den : Int) := by
      have := fq_mul (q := ((Rat.divInt a b).den : Int)) g0
      rwa [e2] at this
     rw [f1, f2]
end Go.Proofs.YtcbbilehdaaffaaGreatDoor

