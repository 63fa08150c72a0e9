/- the plain law -/
import Derived.Test.YtcbbilehdaaffaaGreatDoorW3
namespace Go.Sk
set_option linter.unusedSimpArgs false
set_option linter.unusedVariables false
def inD (b : Int) (l : List Int) : Prop := ∀ i, 0 ≤ dg l i ∧ dg l i < b
def MM : Int := 4294967296 ^ 16
theorem MM_eq : MM = 13407807929942597099574024998205846127479365820592393377723561443721764030073546976801874298166903427690031858186486050853753882811946569946433649006084096 := by decide +kernel
theorem MM_pos : 0 < MM := by rw [MM_eq]; decide
def av (w : A16) : Int := ds 4294967296 (dg w.l) 16
def toA (z : Int) : A16 := .of ((List.range 16).map fun i => nd 4294967296 z i)
theorem toA_l (z : Int) : (toA z).l = (List.range 16).map fun i => nd 4294967296 z i := A16.l_of (by simp)
theorem toA_dg (z : Int) {i : Nat} (h : i < 16) : dg (toA z).l i = nd 4294967296 z i := by
 rw [toA_l]
 unfold dg
 rw [List.getD_eq_getElem?_getD, List.getElem?_map, List.getElem?_range h]
 rfl
theorem nd_range (b z : Int) (hb : 0 < b) (i : Nat) : 0 ≤ nd b z i ∧ nd b z i < b := ⟨Int.emod_nonneg _ (by omega), Int.emod_lt_of_pos _ hb⟩
theorem toA_in (z : Int) : inD 4294967296 (toA z).l := fun i => by
 by_cases h : i < 16
 ·rw [toA_dg z h]; exact nd_range _ _ (by decide) i
 ·rw [dg_ge (by rw [A16.l_len]; omega)]; decide
theorem av_toA (z : Int) : av (toA z) = z % MM := by
 unfold av
 rw [ds_congr (g := nd 4294967296 z) fun i hi => toA_dg z hi, ds_nd (by decide)]
 rfl
theorem av_range {w : A16} (h : inD 4294967296 w.l) : 0 ≤ av w ∧ av w < MM := ⟨ds_nonneg (by decide) fun i _ => (h i).1, ds_lt (by decide) fun i _ => h i⟩
theorem av_inj {v w : A16} (hv : inD 4294967296 v.l) (hw : inD 4294967296 w.l) (h : av v = av w) : v = w := by
 rw [← A16.l_inj]
 refine dg_ext rfl fun i hi => ?_
 exact ds_inj (by decide) (fun i _ => hv i) (fun i _ => hw i) h i hi
theorem toA_av {w : A16} (h : inD 4294967296 w.l) : toA (av w) = w := by
 refine av_inj (toA_in _) h ?_
 rw [av_toA]
 exact Int.emod_eq_of_lt (av_range h).1 (av_range h).2
theorem eq_toA {w : A16} {z : Int} (h : inD 4294967296 w.l) (hz : av w = z) : w = toA z := by rw [← hz, toA_av h]
theorem eq_toA' {w : A16} {z : Int} (h : inD 4294967296 w.l) (hz : av w = z % MM) : w = toA z := av_inj h (toA_in z) (by rw [hz, av_toA])
theorem zero_in : inD 4294967296 A16.zero.l := fun i => by
 have : A16.zero.l = List.replicate 16 0 := rfl
 rw [this, dg_replicate]; decide
theorem av_zero : av A16.zero = 0 := ds_zero fun i _ => by
 have : A16.zero.l = List.replicate 16 0 := rfl
 rw [this, dg_replicate]
theorem zero_eq : A16.zero = toA 0 := eq_toA zero_in av_zero
theorem zero_iff {w : A16} (h : inD 4294967296 w.l) : w = A16.zero ↔ av w = 0 := ⟨fun e => by rw [e, av_zero], fun e => av_inj h zero_in (by rw [e, av_zero])⟩
theorem set_in {w : A16} {i x : Int} (h : inD 4294967296 w.l) (h0 : 0 ≤ i) (h1 : i < 16) (hx : 0 ≤ x ∧ x < 4294967296) : inD 4294967296 (w.set i x).l := fun j => by
 rw [A16.set_l, dg_set (by rw [A16.l_len]; omega)]
 split
 ·exact hx
 ·exact h j
theorem set_dg {w : A16} {i x : Int} (h0 : 0 ≤ i) (h1 : i < 16) (j : Nat) : dg (w.set i x).l j = if j = i.toNat then x else dg w.l j := by
 rw [A16.set_l, dg_set (by rw [A16.l_len]; omega)]
theorem ds_upd {b x : Int} {f g : Nat → Int} {k : Nat} (h : ∀ i, g i = if i = k then x else f i) : ds b g (k + 1) = ds b f k + x * b ^ k := by
 show ds b g k + g k * b ^ k = _
 rw [ds_congr (g := f) fun i hi => by rw [h i, if_neg (by omega)], h k, if_pos rfl]
theorem A16.ds_set {b : Int} {w : A16} {k : Nat} {x : Int} (h : k < 16) : ds b (dg (w.set (k : Int) x).l) (k + 1) = ds b (dg w.l) k + x * b ^ k := ds_upd fun i => by rw [set_dg (by omega) (by omega), Int.toNat_natCast]
theorem carry_step {b A Bb O c x c' ak bk : Int} {k : Nat} (h : A + Bb = O + c * b ^ k) (e : c + ak + bk = x + c' * b) : (A + ak * b ^ k) + (Bb + bk * b ^ k) = (O + x * b ^ k) + c' * b ^ (k + 1) := by
 rw [Int.pow_succ]
 grind
theorem borrow_step {b A Bb O c x c' ak bk : Int} {k : Nat} (h : A + c * b ^ k = Bb + O) (e : ak - bk - c = x - c' * b) : (A + ak * b ^ k) + c' * b ^ (k + 1) = (Bb + bk * b ^ k) + (O + x * b ^ k) := by
 rw [Int.pow_succ]
 grind
theorem ds_hi {b : Int} (hb : 0 < b) {f : Nat → Int} {n m : Nat} (hf : ∀ i, 0 ≤ f i ∧ f i < b) : ds b f (n + m) / b ^ n = ds b (fun i => f (n + i)) m := by
 have h1 := ds_nonneg hb (f := f) (n := n) fun i _ => (hf i).1
 have h2 := ds_lt hb (f := f) (n := n) fun i _ => hf i
 rw [ds_split, Int.add_mul_ediv_left _ _ (by have hp : 0 < b ^ n := Int.pow_pos hb; omega), Int.ediv_eq_zero_of_lt h1 h2, Int.zero_add]
theorem ds_dig {b : Int} (hb : 0 < b) {f : Nat → Int} {n i : Nat} (hi : i < n) (hf : ∀ i, 0 ≤ f i ∧ f i < b) : nd b (ds b f n) i = f i := by
 obtain ⟨m, rfl⟩ : ∃ m, n = i + (m + 1) := ⟨n - i - 1, by omega⟩
 unfold nd
 rw [ds_hi hb hf, ds_succ']
 have h0 := hf (i + 0)
 rw [Int.add_mul_emod_self_left, Int.emod_eq_of_lt h0.1 h0.2]
 rfl
theorem pow_mono {b : Int} (hb : 1 ≤ b) {i j : Nat} (h : i ≤ j) : b ^ i ≤ b ^ j := by
 obtain ⟨d, rfl⟩ : ∃ d, j = i + d := ⟨j - i, by omega⟩
 have h1 : 0 < b ^ d := Int.pow_pos (by omega)
 have h2 : 0 < b ^ i := Int.pow_pos (by omega)
 rw [Int.pow_add]
 have h3 : b ^ i * 1 ≤ b ^ i * b ^ d := Int.mul_le_mul_of_nonneg_left (by omega) (by omega)
 omega
end Go.Sk
namespace Go.Proofs.YtcbbilehdaaffaaGreatDoor
open Go Go.Sk
set_option linter.unusedSimpArgs false
set_option linter.unusedVariables false
theorem plus_y {F : Nat} (hF : 100 < F) {a b : A16} (ha : inD 4294967296 a.l) (hb : inD 4294967296 b.l) : w_plus_S F a b = some (toA (av a + av b), decide (av a + av b < MM)) := by
 refine Yld.eq ?_
 unfold w_plus_S
 refine Yld.bind (P := fun r => inD 4294967296 r.1.l ∧ 0 ≤ r.2 ∧ r.2 ≤ 1 ∧ av a + av b = av r.1 + r.2 * MM) (Yld.rounds 16 (fun k s => s.2.2 = (k : Int) ∧ inD 4294967296 s.1.l ∧ 0 ≤ s.2.1 ∧ s.2.1 ≤ 1 ∧ ds 4294967296 (dg a.l) k + ds 4294967296 (dg b.l) k = ds 4294967296 (dg s.1.l) k + s.2.1 * 4294967296 ^ k) (by omega) ⟨rfl, zero_in, by decide, by decide, rfl⟩ ?_) ?_
 ·rintro k ⟨out, c, i⟩ hk ⟨rfl, hin, hc0, hc1, hs⟩
  dsimp only at hin hc0 hc1 hs
  dsimp only [un3]
  refine Yld.ite (fun h => ?_) (fun h => ?_)
  ·have hk' : k < 16 := by have := of_decide_eq_true h; omega
   refine Yld.idx (by omega) (by rw [A16.l_len]; omega) (Yld.idx (by omega) (by rw [A16.l_len]; omega) (Yld.ln (Yld.idx (by omega) (by rw [A16.l_len]; omega) (Yld.ln (Yld.some (.inl ⟨_, rfl, ?_, hk'⟩))))))
   have h1 := ha k
   have h2 := hb k
   simp only [idx_dg, Int.toNat_natCast, wu64, wu32, wi64]
   refine ⟨by omega, set_in hin (by omega) (by omega) (by constructor <;> omega), by omega, by omega, ?_⟩
   rw [ds_succ, ds_succ, A16.ds_set hk']
   exact carry_step hs (by omega)
  ·have hk' : k = 16 := by have := of_decide_eq_false h; omega
   subst hk'
   exact Yld.some (.inr ⟨_, rfl, hin, hc0, hc1, hs⟩)
 ·rintro ⟨out, c⟩ ⟨hin, hc0, hc1, hs⟩
  dsimp only at hin hc0 hc1 hs
  have hr := av_range hin
  refine Yld.some ?_
  have e1 : out = toA (av a + av b) := eq_toA' hin (by rw [hs, Int.add_mul_emod_self_right, Int.emod_eq_of_lt hr.1 hr.2])
  rw [← e1]
  congr 1
  rw [decide_eq_decide]
  rw [MM_eq] at *
  omega
theorem minus_y {F : Nat} (hF : 100 < F) {a b : A16} (ha : inD 4294967296 a.l) (hb : inD 4294967296 b.l) (hle : av b ≤ av a) : w_minus_S F a b = some (toA (av a - av b)) := by
 refine Yld.eq ?_
 unfold w_minus_S
 refine Yld.bind (P := fun r => inD 4294967296 r.l ∧ ∃ c : Int, 0 ≤ c ∧ c ≤ 1 ∧ av a + c * MM = av b + av r) (Yld.rounds 16 (fun k s => s.2.2 = (k : Int) ∧ inD 4294967296 s.1.l ∧ 0 ≤ s.2.1 ∧ s.2.1 ≤ 1 ∧ ds 4294967296 (dg a.l) k + s.2.1 * 4294967296 ^ k = ds 4294967296 (dg b.l) k + ds 4294967296 (dg s.1.l) k) (by omega) ⟨rfl, zero_in, by decide, by decide, rfl⟩ ?_) ?_
 ·rintro k ⟨out, c, i⟩ hk ⟨rfl, hin, hc0, hc1, hs⟩
  dsimp only at hin hc0 hc1 hs
  dsimp only [un3]
  refine Yld.ite (fun h => ?_) (fun h => ?_)
  ·have hk' : k < 16 := by have := of_decide_eq_true h; omega
   refine Yld.idx (by omega) (by rw [A16.l_len]; omega) (Yld.idx (by omega) (by rw [A16.l_len]; omega) (Yld.ln (Yld.idx (by omega) (by rw [A16.l_len]; omega) (Yld.ln (Yld.some (.inl ⟨_, rfl, ?_, hk'⟩))))))
   have h1 := ha k
   have h2 := hb k
   simp only [idx_dg, Int.toNat_natCast, wu64, wu32, wi64]
   refine ⟨by omega, set_in hin (by omega) (by omega) (by constructor <;> omega), by omega, by omega, ?_⟩
   rw [ds_succ, ds_succ, A16.ds_set hk']
   exact borrow_step hs (by omega)
  ·have hk' : k = 16 := by have := of_decide_eq_false h; omega
   subst hk'
   exact Yld.some (.inr ⟨_, rfl, hin, _, hc0, hc1, hs⟩)
 ·rintro out ⟨hin, c, hc0, hc1, hs⟩
  have hr := av_range hin
  have ra := av_range ha
  have rb := av_range hb
  refine Yld.some (eq_toA hin ?_)
  have : c = 0 := by
   rcases (by omega : c = 0 ∨ c = 1) with h | h
   ·exact h
   ·subst h; omega
  subst this
  omega
theorem ds_lt_of {b : Int} (hb : 0 < b) {f g : Nat → Int} {n k : Nat} (hk : k < n) (hf : ∀ i, 0 ≤ f i ∧ f i < b) (hg : ∀ i, 0 ≤ g i ∧ g i < b) (he : ∀ i, k < i → i < n → f i = g i) (hl : f k < g k) : ds b f n < ds b g n := by
 have e : n = (k + 1) + (n - (k + 1)) := by omega
 rw [e, ds_split, ds_split b g]
 have h1 : ds b (fun i => f (k + 1 + i)) (n - (k + 1)) = ds b (fun i => g (k + 1 + i)) (n - (k + 1)) := ds_congr fun i hi => he _ (by omega) (by omega)
 rw [h1]
 have h2 : ds b f (k + 1) < ds b g (k + 1) := by
  rw [ds_succ, ds_succ]
  have h3 := ds_lt hb (n := k) fun i _ => hf i
  have h4 := ds_nonneg hb (n := k) fun i _ => (hg i).1
  have h5 : (f k + 1) * b ^ k ≤ g k * b ^ k := Int.mul_le_mul_of_nonneg_right hl (Int.le_of_lt (Int.pow_pos hb))
  rw [Int.add_mul, Int.one_mul] at h5
  omega
 omega
theorem compare_y (F : Nat) (x y : Int) : cmp_Compare_S F x y = some (if x < y then -1 else if y < x then 1 else 0) := by
 unfold cmp_Compare_S cmp_isNaN_S
 simp
 split
 ·rfl
 ·split <;> rfl
theorem order_y {F : Nat} (hF : 100 < F) {a b : A16} (ha : inD 4294967296 a.l) (hb : inD 4294967296 b.l) : w_order_S F a b = some (if av a < av b then -1 else if av b < av a then 1 else 0) := by
 refine Yld.eq ?_
 unfold w_order_S
 refine Yld.bind (P := fun r => match r with | .inl _ => a = b | .inr y => y = if av a < av b then -1 else if av b < av a then 1 else 0) (Yld.rounds 16 (fun k s => s = 15 - (k : Int) ∧ ∀ i, 15 < i + k → i < 16 → dg a.l i = dg b.l i) (by omega) ⟨rfl, fun i h1 h2 => by omega⟩ ?_) ?_
 ·rintro k i hk ⟨rfl, he⟩
  refine Yld.ite (fun h => ?_) (fun h => ?_)
  ·have hk' : k < 16 := by have := of_decide_eq_true h; omega
   have et : (15 - (k : Int)).toNat = 15 - k := by omega
   refine Yld.idx (by omega) (by rw [A16.l_len]; omega) (Yld.idx (by omega) (by rw [A16.l_len]; omega) (Yld.ite (fun hne => ?_) (fun heq => ?_)))
   ·refine Yld.idx (by omega) (by rw [A16.l_len]; omega) (Yld.idx (by omega) (by rw [A16.l_len]; omega) (Yld.bindE (compare_y _ _ _) (Yld.some (.inr ⟨_, rfl, ?_⟩))))
    have hne' := of_decide_eq_true hne
    simp only [idx_dg, et] at hne' ⊢
    rcases Int.lt_trichotomy (dg a.l (15 - k)) (dg b.l (15 - k)) with h1 | h1 | h1
    ·have := ds_lt_of (b := 4294967296) (n := 16) (k := 15 - k) (by decide) (by omega) ha hb (fun i h2 h3 => he i (by omega) h3) h1
     have h' : av a < av b := this
     rw [if_pos h1, if_pos h']
    ·exact absurd h1 hne'
    ·have := ds_lt_of (b := 4294967296) (n := 16) (k := 15 - k) (by decide) (by omega) hb ha (fun i h2 h3 => (he i (by omega) h3).symm) h1
     have h' : av b < av a := this
     rw [if_neg (by omega), if_pos h1, if_neg (by omega), if_pos h']
   ·have heq' : idx a.l (15 - (k : Int)) = idx b.l (15 - (k : Int)) := by simpa using heq
    simp only [idx_dg, et] at heq'
    refine Yld.some (.inl ⟨_, rfl, ⟨by rw [wi64]; omega, fun i h1 h2 => ?_⟩, hk'⟩)
    by_cases e : i = 15 - k
    ·rw [e]; exact heq'
    ·exact he i (by omega) h2
  ·have hk' : k = 16 := by have := of_decide_eq_false h; omega
   subst hk'
   refine Yld.some (.inr ⟨_, rfl, ?_⟩)
   show a = b
   rw [← A16.l_inj]
   exact dg_ext rfl fun i hi => he i (by omega) hi
 ·rintro (u | y) h
  ·have h' : a = b := h
   subst h'
   exact Yld.some (by simp)
  ·exact Yld.some h
theorem size_y {F : Nat} (hF : 100 < F) {w : A16} : Yld (w_size_S F w) fun n => 0 ≤ n ∧ n ≤ 16 ∧ (∀ i, n.toNat ≤ i → i < 16 → dg w.l i = 0) ∧ (0 < n → dg w.l (n.toNat - 1) ≠ 0) := by
 unfold w_size_S
 refine Yld.bind (P := fun n => 0 ≤ n ∧ n ≤ 16 ∧ (∀ i, n.toNat ≤ i → i < 16 → dg w.l i = 0) ∧ (0 < n → dg w.l (n.toNat - 1) ≠ 0)) (Yld.rounds 16 (fun k s => s = 16 - (k : Int) ∧ ∀ i, 16 - k ≤ i → i < 16 → dg w.l i = 0) (by omega) ⟨rfl, fun i h1 h2 => by omega⟩ ?_) (fun x h => Yld.some h)
 rintro k n hk ⟨rfl, he⟩
 by_cases hk' : k < 16
 ·have hw : IntKind.i64.wrap (16 - (k : Int) - 1) = 15 - (k : Int) := by rw [wi64]; omega
  have et : (15 - (k : Int)).toNat = 15 - k := by omega
  have hd : decide (0 < 16 - (k : Int)) = true := decide_eq_true (by omega)
  refine Yld.g1 hd (Yld.idx (by rw [hw]; omega) (by rw [hw, A16.l_len]; omega) ?_)
  rw [hw, hd]
  simp only [idx_dg, et, Bool.true_and]
  refine Yld.ite (fun h => ?_) (fun h => ?_)
  ·have h' := of_decide_eq_true h
   refine Yld.some (.inl ⟨_, rfl, ⟨by omega, fun i h1 h2 => ?_⟩, hk'⟩)
   by_cases e : i = 15 - k
   ·rw [e]; exact h'
   ·exact he i (by omega) h2
  ·have h' := of_decide_eq_false h
   refine Yld.some (.inr ⟨_, rfl, by omega, by omega, fun i h1 h2 => he i (by omega) h2, fun _ => ?_⟩)
   have : (16 - (k : Int)).toNat - 1 = 15 - k := by omega
   rw [this]; exact h'
 ·have hk2 : k = 16 := by omega
  subst hk2
  refine Yld.g0 (by decide) ?_
  refine Yld.iff (by simp) (Yld.some (.inr ⟨_, rfl, by decide, by decide, fun i _ h2 => he i (by omega) h2, fun h => by simp at h⟩))
end Go.Proofs.YtcbbilehdaaffaaGreatDoor

namespace Go.Sk
set_option linter.unusedSimpArgs false
set_option linter.unusedVariables false
def bad : Big := ⟨true, false, A16.zero⟩
def big (z : Int) : Big := if -MM < z ∧ z < MM then ⟨false, decide (z < 0), toA (if z < 0 then -z else z)⟩ else bad
def toB : Option Int → Big
 | some z => big z
 | none => bad
def inB (x : Big) : Prop := inD 4294967296 x.W.l
def goodB (x : Big) : Bool := !x.Bad && (!decide (x.W = A16.zero) || !x.Neg)
def sv (x : Big) : Int := if x.Neg = true then -av x.W else av x.W
def iv (x : Big) : Option Int := if goodB x = true then some (sv x) else none
theorem bad_in : inB bad := zero_in
theorem big_in (z : Int) : inB (big z) := by
 unfold big; split
 ·exact toA_in _
 ·exact bad_in
theorem iv_bad : iv bad = none := rfl
theorem toA_zero_iff {m : Int} (h0 : 0 ≤ m) (h1 : m < MM) : toA m = A16.zero ↔ m = 0 := by
 rw [zero_iff (toA_in _), av_toA, Int.emod_eq_of_lt h0 h1]
theorem goodB_big {z : Int} (h : -MM < z ∧ z < MM) : goodB (big z) = true := by
 unfold big
 rw [if_pos h]
 by_cases hz : z < 0
 ·have : ¬ toA (-z) = A16.zero := by rw [toA_zero_iff (by omega) (by omega)]; omega
  simp [goodB, hz, this]
 ·simp [goodB, hz]
theorem iv_big {z : Int} (h : -MM < z ∧ z < MM) : iv (big z) = some z := by
 unfold iv
 rw [if_pos (goodB_big h)]
 unfold big sv
 rw [if_pos h]
 by_cases hz : z < 0
 ·simp only [hz, decide_true, if_true]
  rw [av_toA, Int.emod_eq_of_lt (by omega) (by omega)]; simp
 ·simp only [hz, decide_false, if_false]
  rw [av_toA, Int.emod_eq_of_lt (by omega) (by omega)]; simp
theorem big_out {z : Int} (h : ¬ (-MM < z ∧ z < MM)) : big z = bad := if_neg h
theorem sv_range {x : Big} (h : inB x) : -MM < sv x ∧ sv x < MM := by
 have := av_range h
 unfold sv
 split <;> omega
theorem big_sv {x : Big} (h : inB x) (hg : goodB x = true) : x = big (sv x) := by
 have hr := sv_range h
 have ha := av_range h
 unfold big
 rw [if_pos hr]
 simp only [goodB, Bool.and_eq_true, Bool.not_eq_true', Bool.or_eq_true, decide_eq_false_iff_not] at hg
 obtain ⟨hb, hz⟩ := hg
 cases x with
 | mk B N W =>
  dsimp only [sv] at *
  subst hb
  cases N with
  | false =>
   have h1 : ¬ av W < 0 := by omega
   simp only [Bool.false_eq_true, if_false, h1, decide_false]
   rw [toA_av h]
  | true =>
   have hw : ¬ W = A16.zero := by simpa using hz
   have h2 : av W ≠ 0 := fun e => hw ((zero_iff h).2 e)
   have h1 : -av W < 0 := by omega
   simp only [if_true, h1, decide_true]
   rw [Int.neg_neg, toA_av h]
theorem iv_some {x : Big} {z : Int} (h : inB x) (hz : iv x = some z) : goodB x = true ∧ x = big z ∧ -MM < z ∧ z < MM := by
 unfold iv at hz
 split at hz
 ·next hg =>
  cases hz
  exact ⟨hg, big_sv h hg, sv_range h⟩
 ·simp at hz
theorem iv_none {x : Big} (hz : iv x = none) : goodB x = false := by
 unfold iv at hz
 split at hz
 ·simp at hz
 ·next hg => simpa using hg
theorem big_Bad {z : Int} : (big z).Bad = !decide (-MM < z ∧ z < MM) := by
 unfold big
 split
 ·next h => simp [h]
 ·next h => simp [h, bad]
theorem toB_in (o : Option Int) : inB (toB o) := by cases o; exact bad_in; exact big_in _
theorem big_inj {a b : Int} (ha : -MM < a ∧ a < MM) (hb : -MM < b ∧ b < MM) : big a = big b ↔ a = b := ⟨fun h => by
 have := congrArg iv h
 rw [iv_big ha, iv_big hb] at this
 exact Option.some.inj this, fun h => by rw [h]⟩
end Go.Sk
namespace Go.Proofs.YtcbbilehdaaffaaGreatDoor
open Go Go.Sk
set_option linter.unusedSimpArgs false
set_option linter.unusedVariables false
theorem Valid_y (F : Nat) (x : Big) : w_Valid_S F x = some (if x.Bad = true then decide (x.W = A16.zero) && !x.Neg else !decide (x.W = A16.zero) || !x.Neg) := by
 unfold w_Valid_S
 split <;> rfl
theorem good_y {F : Nat} (l : List Big) (hF : l.length < F) (hl : l.length ≤ 1000) : w_good_S F l = some (l.all goodB) := by
 refine Yld.eq ?_
 unfold w_good_S
 refine Yld.bind (P := fun r => match r with | .inl _ => l.all goodB = true | .inr y => y = false ∧ l.all goodB = false) (Yld.rounds l.length (fun k s => s = (k : Int) ∧ (l.take k).all goodB = true) hF ⟨rfl, by simp⟩ ?_) ?_
 ·rintro k i hk ⟨rfl, he⟩
  refine Yld.ite (fun h => ?_) (fun h => ?_)
  ·have hk' : k < l.length := by have := of_decide_eq_true h; omega
   refine Yld.idx (by omega) (by omega) ?_
   have hx : idx l (k : Int) = l[k] := by
    have := idx_eq (xs := l) (i := (k : Int)) (by omega) (by omega)
    rw [Int.toNat_natCast, List.getElem?_eq_getElem hk'] at this
    exact (Option.some.inj this).symm
   rw [hx]
   have hstep : (l.take (k + 1)).all goodB = ((l.take k).all goodB && goodB l[k]) := by
    rw [List.take_add_one, List.getElem?_eq_getElem hk', List.all_append]; simp
   have hall : goodB l[k] = false → l.all goodB = false := fun hg => by
    rw [List.all_eq_false]; exact ⟨l[k], List.getElem_mem hk', by simp [hg]⟩
   cases hb : l[k].Bad with
   | true =>
    refine Yld.g0 (by rfl) (Yld.ift (by simp) (Yld.some (.inr ⟨_, rfl, rfl, hall (by simp [goodB, hb])⟩)))
   | false =>
    refine Yld.g1 (by rfl) (Yld.bindE (Valid_y _ _) ?_)
    have hg : goodB l[k] = (!decide (l[k].W = A16.zero) || !l[k].Neg) := by simp [goodB, hb]
    simp only [hb, Bool.false_eq_true, if_false, ← hg]
    refine Yld.ite (fun h => ?_) (fun h => ?_)
    ·exact Yld.some (.inr ⟨_, rfl, rfl, hall (by simpa using h)⟩)
    ·refine Yld.some (.inl ⟨_, rfl, ⟨by rw [wi64]; omega, ?_⟩, hk'⟩)
     rw [hstep, he]; simpa using h
  ·have hk' : k = l.length := by have := of_decide_eq_false h; omega
   subst hk'
   rw [List.take_length] at he
   exact Yld.some (.inr ⟨_, rfl, he⟩)
 ·rintro (u | y) h
  ·exact Yld.some h.symm
  ·exact Yld.some (by rw [h.1, h.2])
theorem good1 {F : Nat} (hF : 100 < F) (x : Big) : w_good_S F [x] = some (goodB x) := by rw [good_y _ (by simp; omega) (by simp)]; simp
theorem good2 {F : Nat} (hF : 100 < F) (x y : Big) : w_good_S F [x, y] = some (goodB x && goodB y) := by rw [good_y _ (by simp; omega) (by simp)]; simp
theorem Bad_y (F : Nat) : w_Bad_S F = some bad := rfl
theorem signed_y (F : Nat) (neg : Bool) {w : A16} (h : inD 4294967296 w.l) : w_signed_S F neg w = some (big (if neg = true then -av w else av w)) := by
 have hr := av_range h
 unfold w_signed_S big
 have hz := zero_iff h
 cases neg with
 | false =>
  have h1 : ¬ av w < 0 := by omega
  simp only [Bool.false_eq_true, if_false, h1, decide_false, Bool.false_and]
  rw [if_pos (by omega), toA_av h]
 | true =>
  simp only [if_true, Bool.true_and]
  rw [if_pos (by omega)]
  by_cases e : av w = 0
  ·have hw := hz.2 e
   rw [e]
   simp [hw, zero_eq]
  ·have hw : ¬ w = A16.zero := fun h => e (hz.1 h)
   have h1 : -av w < 0 := by omega
   simp only [h1, decide_true, if_true, Int.neg_neg, toA_av h]
   simp [hw]
theorem sv_big_W {z : Int} (h : -MM < z ∧ z < MM) : av (big z).W = (if z < 0 then -z else z) ∧ (big z).Neg = decide (z < 0) := by
 unfold big
 rw [if_pos h]
 refine ⟨?_, rfl⟩
 dsimp only
 rw [av_toA, Int.emod_eq_of_lt] <;> split <;> omega
def two (f : Int → Int → Option Int) (x y : Big) : Big := match iv x, iv y with
 | some a, some b => toB (f a b)
 | _, _ => bad
def one (f : Int → Option Int) (x : Big) : Big := match iv x with
 | some a => toB (f a)
 | none => bad
theorem two_big {f : Int → Int → Option Int} {a b : Int} (ha : -MM < a ∧ a < MM) (hb : -MM < b ∧ b < MM) : two f (big a) (big b) = toB (f a b) := by simp only [two, iv_big ha, iv_big hb]
theorem one_big {f : Int → Option Int} {a : Int} (ha : -MM < a ∧ a < MM) : one f (big a) = toB (f a) := by simp only [one, iv_big ha]
theorem Add_y {F : Nat} (hF : 100 < F) {x y : Big} (hx : inB x) (hy : inB y) : w_Add_S F x y = some (two (fun a b => some (a + b)) x y) := by
 refine Yld.eq ?_
 unfold w_Add_S two
 refine Yld.bindE (good2 hF x y) ?_
 cases ha : iv x with
 | none => simp only [iv_none ha, Bool.false_and, Bool.not_false, if_true]; exact Yld.bindE (Bad_y F) (Yld.some rfl)
 | some a =>
  cases hb : iv y with
  | none => simp only [iv_none hb, Bool.and_false, Bool.not_false, if_true]; exact Yld.bindE (Bad_y F) (Yld.some rfl)
  | some b =>
   obtain ⟨ga, rfl, ra⟩ := iv_some hx ha
   obtain ⟨gb, rfl, rb⟩ := iv_some hy hb
   obtain ⟨wa, na⟩ := sv_big_W ra
   obtain ⟨wb, nb⟩ := sv_big_W rb
   simp only [ga, gb, Bool.and_self, Bool.not_true, Bool.false_eq_true, if_false, toB]
   refine Yld.ite (fun hn => ?_) (fun hn => ?_)
   ·have hn' : (a < 0) = (b < 0) := by
     rw [na, nb] at hn
     exact propext (decide_eq_decide.1 (eq_of_beq hn))
    refine Yld.bindE (plus_y hF (big_in a) (big_in b)) ?_
    dsimp only [un2]
    rw [wa, wb]
    have hs : (if a < 0 then -a else a) + (if b < 0 then -b else b) = if a + b < 0 then -(a + b) else a + b := by
     by_cases h1 : a < 0
     ·have h2 : b < 0 := by rw [← hn']; exact h1
      rw [if_pos h1, if_pos h2, if_pos (by omega)]; omega
     ·have h2 : ¬ b < 0 := by rw [← hn']; exact h1
      rw [if_neg h1, if_neg h2, if_neg (by omega)]
    rw [hs]
    refine Yld.ite (fun h => ?_) (fun h => ?_)
    ·refine Yld.bindE (Bad_y F) (Yld.some ?_)
     have h' : ¬ (if a + b < 0 then -(a + b) else a + b) < MM := by simpa using h
     exact (big_out (by split at h' <;> omega)).symm
    ·have h' : (if a + b < 0 then -(a + b) else a + b) < MM := by simpa using h
     refine Yld.bindE (signed_y F _ (toA_in _)) (Yld.some ?_)
     rw [av_toA, Int.emod_eq_of_lt (by split <;> omega) h', na]
     congr 1
     by_cases h1 : a < 0
     ·have h2 : b < 0 := by rw [← hn']; exact h1
      simp only [h1, decide_true, if_true]; rw [if_pos (by omega)]; omega
     ·have h2 : ¬ b < 0 := by rw [← hn']; exact h1
      simp only [h1, decide_false, Bool.false_eq_true, if_false]; rw [if_neg (by omega)]
   ·have hn' : (a < 0) ≠ (b < 0) := by
     rw [na, nb] at hn
     intro e
     have : decide (a < 0) = decide (b < 0) := decide_eq_decide.2 (Iff.of_eq e)
     rw [this] at hn; simp at hn
    have hcase : (a < 0 ∧ ¬ b < 0) ∨ (¬ a < 0 ∧ b < 0) := by
     by_cases h1 : a < 0
     ·by_cases h2 : b < 0
      ·exact absurd (propext ⟨fun _ => h2, fun _ => h1⟩) hn'
      ·exact .inl ⟨h1, h2⟩
     ·by_cases h2 : b < 0
      ·exact .inr ⟨h1, h2⟩
      ·exact absurd (propext ⟨fun h => absurd h h1, fun h => absurd h h2⟩) hn'
    refine Yld.bindE (order_y hF (big_in a) (big_in b)) ?_
    rw [wa, wb]
    refine Yld.ite (fun h => ?_) (fun h => ?_)
    ·have h' := of_decide_eq_true h
     have hle : (if b < 0 then -b else b) ≤ (if a < 0 then -a else a) := by
      by_cases h3 : (if a < 0 then -a else a) < (if b < 0 then -b else b)
      ·rw [if_pos h3] at h'; omega
      ·omega
     refine Yld.bindE (minus_y hF (big_in a) (big_in b) (by rw [wa, wb]; exact hle)) (Yld.bindE (signed_y F _ (toA_in _)) (Yld.some ?_))
     rw [wa, wb, av_toA, Int.emod_eq_of_lt (by omega) (by split <;> split <;> omega), na]
     congr 1
     rcases hcase with ⟨h1, h2⟩ | ⟨h1, h2⟩
     ·simp only [h1, h2, if_true, if_false, decide_true]; omega
     ·simp only [h1, h2, if_true, if_false, decide_false, Bool.false_eq_true]; omega
    ·have h' := of_decide_eq_false h
     have hle : (if a < 0 then -a else a) ≤ (if b < 0 then -b else b) := by
      by_cases h3 : (if a < 0 then -a else a) < (if b < 0 then -b else b)
      ·omega
      ·rw [if_neg h3] at h'; split at h' <;> omega
     refine Yld.bindE (minus_y hF (big_in b) (big_in a) (by rw [wa, wb]; exact hle)) (Yld.bindE (signed_y F _ (toA_in _)) (Yld.some ?_))
     rw [wa, wb, av_toA, Int.emod_eq_of_lt (by omega) (by split <;> split <;> omega), nb]
     congr 1
     rcases hcase with ⟨h1, h2⟩ | ⟨h1, h2⟩
     ·simp only [h1, h2, if_true, if_false, decide_false, Bool.false_eq_true]; omega
     ·simp only [h1, h2, if_true, if_false, decide_true]; omega
end Go.Proofs.YtcbbilehdaaffaaGreatDoor

namespace Go.Sk
set_option linter.unusedSimpArgs false
set_option linter.unusedVariables false
theorem pow2_le {i j : Nat} (h : i ≤ j) : (2 : Int) ^ i ≤ 2 ^ j := by
 have := Nat.pow_le_pow_right (n := 2) (by decide) h
 exact_mod_cast this
def blen (m : Int) : Int := if m ≤ 0 then 0 else (Nat.log2 m.toNat : Int) + 1
theorem blen_spec {m : Int} (h : 0 < m) : 1 ≤ blen m ∧ 2 ^ ((blen m).toNat - 1) ≤ m ∧ m < 2 ^ (blen m).toNat := by
 obtain ⟨k, rfl⟩ : ∃ k : Nat, m = k := ⟨m.toNat, by omega⟩
 have hk : k ≠ 0 := by omega
 have e : blen (k : Int) = (Nat.log2 k : Int) + 1 := by unfold blen; rw [if_neg (by omega), Int.toNat_natCast]
 rw [e]
 have e1 : ((Nat.log2 k : Int) + 1).toNat = Nat.log2 k + 1 := by omega
 rw [e1, Nat.add_sub_cancel]
 refine ⟨by omega, ?_, ?_⟩
 ·have := Nat.log2_self_le hk
  exact_mod_cast this
 ·have := @Nat.lt_log2_self k
  exact_mod_cast this
theorem blen_unique {m n : Int} (hn : 1 ≤ n) (h1 : 2 ^ (n.toNat - 1) ≤ m) (h2 : m < 2 ^ n.toNat) : blen m = n := by
 have hm : 0 < m := Int.lt_of_lt_of_le (Int.pow_pos (by decide)) h1
 obtain ⟨k, rfl⟩ : ∃ k : Nat, m = k := ⟨m.toNat, by omega⟩
 have hk : k ≠ 0 := by omega
 unfold blen
 rw [if_neg (by omega), Int.toNat_natCast]
 have a1 : 2 ^ (n.toNat - 1) ≤ k := by exact_mod_cast h1
 have a2 : k < 2 ^ n.toNat := by exact_mod_cast h2
 have b1 := (Nat.le_log2 hk).2 a1
 have b2 := (Nat.log2_lt hk).2 a2
 omega
theorem blen_zero {m : Int} (h : m ≤ 0) : blen m = 0 := if_pos h
theorem blen_nonneg (m : Int) : 0 ≤ blen m := by unfold blen; split <;> omega
theorem blen_le {m : Int} {k : Nat} (h : m < 2 ^ k) : blen m ≤ k := by
 by_cases h0 : m ≤ 0
 ·rw [blen_zero h0]; omega
 ·have h1 := blen_spec (by omega : 0 < m)
  rcases (by omega : (k : Int) < blen m ∨ blen m ≤ k) with h2 | h2
  ·have h3 : (2 : Int) ^ k ≤ 2 ^ ((blen m).toNat - 1) := pow2_le (by omega)
   omega
  ·exact h2
theorem lt_blen {m : Int} : m < 2 ^ (blen m).toNat := by
 by_cases h0 : m ≤ 0
 ·have : (0 : Int) < 2 ^ (blen m).toNat := Int.pow_pos (by decide)
  omega
 ·exact (blen_spec (by omega)).2.2
theorem blen_hi {x v : Int} {k : Nat} (hv : x / 2 ^ k = v) (h0 : 0 < v) : blen x = k + blen v := by
 have hp : (0 : Int) < 2 ^ k := Int.pow_pos (by decide)
 obtain ⟨h1, h2, h3⟩ := blen_spec h0
 have hx1 : v * 2 ^ k ≤ x := by rw [← hv]; exact Int.ediv_mul_le _ (by omega)
 have hx2 : x < (v + 1) * 2 ^ k := by rw [← hv]; exact Int.lt_ediv_add_one_mul_self _ hp
 refine blen_unique (by omega) ?_ ?_
 ·have e : (k + blen v).toNat - 1 = ((blen v).toNat - 1) + k := by omega
  rw [e, Int.pow_add]
  exact Int.le_trans (Int.mul_le_mul_of_nonneg_right h2 (by omega)) hx1
 ·have e : (k + blen v).toNat = (blen v).toNat + k := by omega
  rw [e, Int.pow_add]
  exact Int.lt_of_lt_of_le hx2 (Int.mul_le_mul_of_nonneg_right (by omega) (by omega))
theorem ior_nat (x y : Nat) (hx : x < 2 ^ 64) (hy : y < 2 ^ 64) : ior .u64 (x : Int) (y : Int) = ((x ||| y : Nat) : Int) := by
 have h : x ||| y < 2 ^ 64 := Nat.or_lt_two_pow hx hy
 unfold ior
 have e1 : (BitVec.ofInt 64 (x : Int)).toNat = x := by simp [BitVec.toNat_ofInt]; omega
 have e2 : (BitVec.ofInt 64 (y : Int)).toNat = y := by simp [BitVec.toNat_ofInt]; omega
 show IntKind.u64.wrap ((BitVec.ofInt 64 (x : Int) ||| BitVec.ofInt 64 (y : Int)).toNat : Int) = _
 rw [BitVec.toNat_or, e1, e2, wu64]
 omega
theorem ior_add {a b : Int} (k : Nat) (ha : 0 ≤ a) (ha' : a < 18446744073709551616) (hk : a % 2 ^ k = 0) (hb : 0 ≤ b) (hb' : b < 2 ^ k) (hb2 : b < 18446744073709551616) : ior .u64 a b = a + b := by
 obtain ⟨x, rfl⟩ : ∃ x : Nat, a = x := ⟨a.toNat, by omega⟩
 obtain ⟨y, rfl⟩ : ∃ y : Nat, b = y := ⟨b.toNat, by omega⟩
 rw [ior_nat x y (by omega) (by omega)]
 have hy : y < 2 ^ k := by exact_mod_cast hb'
 have hx : x % 2 ^ k = 0 := by exact_mod_cast hk
 have e : x = 2 ^ k * (x / 2 ^ k) := by have := Nat.div_add_mod x (2 ^ k); omega
 rw [e, ← Nat.two_pow_add_eq_or_of_lt hy]
 exact Int.natCast_add _ _
theorem ior_comm (a b : Int) : ior .u64 a b = ior .u64 b a := by
 unfold ior
 rw [BitVec.or_comm]
theorem av_two {a b : Int} : av ⟨a, b, 0, 0, 0, 0, 0, 0, 0, 0, 0, 0, 0, 0, 0, 0⟩ = a + b * 4294967296 := by
 simp [av, ds, dg, A16.l]
theorem in_two {a b : Int} (ha : 0 ≤ a ∧ a < 4294967296) (hb : 0 ≤ b ∧ b < 4294967296) : inD 4294967296 (A16.l ⟨a, b, 0, 0, 0, 0, 0, 0, 0, 0, 0, 0, 0, 0, 0, 0⟩) := fun i => by
 match i with
 | 0 => exact ha
 | 1 => exact hb
 | n + 2 =>
  have : dg (A16.l ⟨a, b, 0, 0, 0, 0, 0, 0, 0, 0, 0, 0, 0, 0, 0, 0⟩) (n + 2) = dg (List.replicate 14 0) n := rfl
  rw [this, dg_replicate]; decide
def sgn (z : Int) : Int := if z = 0 then 0 else if z < 0 then -1 else 1
def cmpZ (a b : Int) : Int := if a < b then -1 else if b < a then 1 else 0
def absZ (z : Int) : Int := if z < 0 then -z else z
theorem MM_big : 18446744073709551616 < MM := by rw [MM_eq]; decide
end Go.Sk
namespace Go.Proofs.YtcbbilehdaaffaaGreatDoor
open Go Go.Sk
set_option linter.unusedSimpArgs false
set_option linter.unusedVariables false
theorem Neg_y {F : Nat} (hF : 100 < F) {x : Big} (hx : inB x) : w_Neg_S F x = some (one (fun a => some (-a)) x) := by
 refine Yld.eq ?_
 unfold w_Neg_S one
 refine Yld.bindE (good1 hF x) ?_
 cases ha : iv x with
 | none => simp only [iv_none ha, Bool.not_false, if_true]; exact Yld.bindE (Bad_y F) (Yld.some rfl)
 | some a =>
  obtain ⟨ga, rfl, ra⟩ := iv_some hx ha
  obtain ⟨wa, na⟩ := sv_big_W ra
  simp only [ga, Bool.not_true, Bool.false_eq_true, if_false, toB]
  refine Yld.bindE (signed_y F _ (big_in a)) (Yld.some ?_)
  rw [wa, na]
  congr 1
  by_cases h : a < 0
  ·simp [h]
  ·simp [h]
theorem Abs_y {F : Nat} (hF : 100 < F) {x : Big} (hx : inB x) : w_Abs_S F x = some (one (fun a => some (absZ a)) x) := by
 refine Yld.eq ?_
 unfold w_Abs_S one
 refine Yld.bindE (good1 hF x) ?_
 cases ha : iv x with
 | none => simp only [iv_none ha, Bool.not_false, if_true]; exact Yld.bindE (Bad_y F) (Yld.some rfl)
 | some a =>
  obtain ⟨ga, rfl, ra⟩ := iv_some hx ha
  obtain ⟨wa, na⟩ := sv_big_W ra
  simp only [ga, Bool.not_true, Bool.false_eq_true, if_false, toB]
  refine Yld.bindE (signed_y F _ (big_in a)) (Yld.some ?_)
  simp only [wa, Bool.false_eq_true, if_false]
  rfl
theorem one_in (f : Int → Option Int) (x : Big) : inB (one f x) := by unfold one; split; exact toB_in _; exact bad_in
theorem two_in (f : Int → Int → Option Int) (x y : Big) : inB (two f x y) := by unfold two; split; exact toB_in _; exact bad_in
theorem Sub_y {F : Nat} (hF : 100 < F) {x y : Big} (hx : inB x) (hy : inB y) : w_Sub_S F x y = some (two (fun a b => some (a - b)) x y) := by
 refine Yld.eq ?_
 unfold w_Sub_S
 refine Yld.bindE (Neg_y hF hy) (Yld.bindE (Add_y hF hx (one_in _ _)) (Yld.some ?_))
 unfold two
 cases hb : iv y with
 | none =>
  have : one (fun a => some (-a)) y = bad := by simp only [one, hb]
  rw [this, iv_bad]
  cases iv x <;> rfl
 | some b =>
  obtain ⟨gb, rfl, rb⟩ := iv_some hy hb
  rw [one_big rb]
  simp only [toB]
  rw [iv_big (by omega)]
  cases iv x with
  | none => rfl
  | some a => simp only [toB, Int.sub_eq_add_neg]
theorem Sign_y {F : Nat} (hF : 100 < F) {x : Big} (hx : inB x) : w_Sign_S F x = some (match iv x with | some a => sgn a | none => 0) := by
 refine Yld.eq ?_
 unfold w_Sign_S
 refine Yld.bindE (good1 hF x) ?_
 cases ha : iv x with
 | none => simp only [iv_none ha, Bool.not_false, Bool.true_or, if_true]; exact Yld.some rfl
 | some a =>
  obtain ⟨ga, rfl, ra⟩ := iv_some hx ha
  obtain ⟨wa, na⟩ := sv_big_W ra
  simp only [ga, Bool.not_true, Bool.false_or, zero_iff (big_in a), wa, na]
  refine Yld.ite (fun h => ?_) (fun h => ?_)
  ·have h' := of_decide_eq_true h
   have : a = 0 := by split at h' <;> omega
   subst this
   exact Yld.some rfl
  ·have h' := of_decide_eq_false h
   have h0 : a ≠ 0 := fun e => h' (by rw [e]; rfl)
   unfold sgn
   refine Yld.ite (fun h => ?_) (fun h => ?_)
   ·have := of_decide_eq_true h; exact Yld.some (by rw [if_neg h0, if_pos this])
   ·have := of_decide_eq_false h; exact Yld.some (by rw [if_neg h0, if_neg this])
end Go.Proofs.YtcbbilehdaaffaaGreatDoor

namespace Go.Sk
set_option linter.unusedSimpArgs false
set_option linter.unusedVariables false
def len8 : Str := [0, 1, 2, 2, 3, 3, 3, 3, 4, 4, 4, 4, 4, 4, 4, 4, 5, 5, 5, 5, 5, 5, 5, 5, 5, 5, 5, 5, 5, 5, 5, 5, 6, 6, 6, 6, 6, 6, 6, 6, 6, 6, 6, 6, 6, 6, 6, 6, 6, 6, 6, 6, 6, 6, 6, 6, 6, 6, 6, 6, 6, 6, 6, 6, 7, 7, 7, 7, 7, 7, 7, 7, 7, 7, 7, 7, 7, 7, 7, 7, 7, 7, 7, 7, 7, 7, 7, 7, 7, 7, 7, 7, 7, 7, 7, 7, 7, 7, 7, 7, 7, 7, 7, 7, 7, 7, 7, 7, 7, 7, 7, 7, 7, 7, 7, 7, 7, 7, 7, 7, 7, 7, 7, 7, 7, 7, 7, 7, 8, 8, 8, 8, 8, 8, 8, 8, 8, 8, 8, 8, 8, 8, 8, 8, 8, 8, 8, 8, 8, 8, 8, 8, 8, 8, 8, 8, 8, 8, 8, 8, 8, 8, 8, 8, 8, 8, 8, 8, 8, 8, 8, 8, 8, 8, 8, 8, 8, 8, 8, 8, 8, 8, 8, 8, 8, 8, 8, 8, 8, 8, 8, 8, 8, 8, 8, 8, 8, 8, 8, 8, 8, 8, 8, 8, 8, 8, 8, 8, 8, 8, 8, 8, 8, 8, 8, 8, 8, 8, 8, 8, 8, 8, 8, 8, 8, 8, 8, 8, 8, 8, 8, 8, 8, 8, 8, 8, 8, 8, 8, 8, 8, 8, 8, 8, 8, 8, 8, 8, 8, 8, 8, 8, 8, 8, 8, 8]
theorem len8_fin : ∀ v : _root_.Fin 256, ((len8.getD v.val 0).toNat : Int) = blen v.val := by decide +kernel
theorem len8_at {v : Int} (h0 : 0 ≤ v) (h1 : v < 256) : ((idx len8 v).toNat : Int) = blen v := by
 obtain ⟨k, rfl⟩ : ∃ k : Nat, v = k := ⟨v.toNat, by omega⟩
 exact len8_fin ⟨k, by omega⟩
theorem len8_len : len8.length = 256 := by decide +kernel
theorem p8 : (2 : Int) ^ 8 = 256 := by decide
theorem p32 : (2 : Int) ^ 32 = 4294967296 := by decide
theorem p64 : (2 : Int) ^ 64 = 18446744073709551616 := by decide
theorem pow32 (m : Nat) : (4294967296 : Int) ^ m = 2 ^ (32 * m) := by rw [Int.pow_mul]; rfl
theorem A32.set_dg {w : A32} {i x : Int} (h0 : 0 ≤ i) (h1 : i < 32) (j : Nat) : dg (w.set i x).l j = if j = i.toNat then x else dg w.l j := by
 rw [A32.set_l, dg_set (by rw [A32.l_len]; omega)]
theorem A32.ds_set {b : Int} {w : A32} {k : Nat} {x : Int} (h : k < 32) : ds b (dg (w.set (k : Int) x).l) (k + 1) = ds b (dg w.l) k + x * b ^ k := ds_upd fun i => by rw [A32.set_dg (by omega) (by omega), Int.toNat_natCast]
theorem A32.set_in {w : A32} {i x : Int} (h : inD 4294967296 w.l) (h0 : 0 ≤ i) (h1 : i < 32) (hx : 0 ≤ x ∧ x < 4294967296) : inD 4294967296 (w.set i x).l := fun j => by
 rw [A32.set_dg h0 h1]
 split
 ·exact hx
 ·exact h j
theorem A32.zero_in : inD 4294967296 A32.zero.l := fun i => by
 have : A32.zero.l = List.replicate 32 0 := rfl
 rw [this, dg_replicate]; decide
theorem A32.zero_dg (i : Nat) : dg A32.zero.l i = 0 := by
 have : A32.zero.l = List.replicate 32 0 := rfl
 rw [this, dg_replicate]
theorem mul_bound {a b m : Int} (ha : 0 ≤ a ∧ a < m) (hb : 0 ≤ b ∧ b < m) : 0 ≤ a * b ∧ a * b ≤ (m - 1) * (m - 1) := ⟨Int.mul_nonneg ha.1 hb.1, Int.mul_le_mul (by omega) (by omega) hb.1 (by omega)⟩
theorem mul_step {b O0 O c x c' ai bk ok V : Int} {i k : Nat} (h : O + c * b ^ (i + k) = O0 + ai * b ^ i * V) (e : c + ai * bk + ok = x + c' * b) : (O + x * b ^ (i + k)) + c' * b ^ (i + k + 1) = (O0 + ok * b ^ (i + k)) + ai * b ^ i * (V + bk * b ^ k) := by
 rw [Int.pow_succ]
 have e1 : b ^ (i + k) = b ^ i * b ^ k := Int.pow_add _ _ _
 rw [e1] at *
 grind
end Go.Sk
namespace Go.Proofs.YtcbbilehdaaffaaGreatDoor
open Go Go.Sk
set_option linter.unusedSimpArgs false
set_option linter.unusedVariables false
theorem Len32_y (F : Nat) {x : Int} (h0 : 0 ≤ x) (h1 : x < 4294967296) : bits_Len32_S F x = some (blen x) := by
 refine Yld.eq ?_
 unfold bits_Len32_S
 refine Yld.bind (P := fun r => 0 ≤ r.1 ∧ r.1 < 65536 ∧ 0 ≤ r.2 ∧ r.2 ≤ 16 ∧ blen x = r.2 + blen r.1) ?_ ?_
 ·refine Yld.ite (fun h => ?_) (fun h => ?_)
  ·have := of_decide_eq_true h
   refine Yld.some ⟨by omega, by omega, by omega, by omega, ?_⟩
   exact blen_hi (k := 16) rfl (by omega)
  ·have := of_decide_eq_false h
   exact Yld.some ⟨by omega, by omega, by omega, by omega, by dsimp only; omega⟩
 ·rintro ⟨y, n⟩ ⟨y0, y1, n0, n1, e⟩
  dsimp only at y0 y1 n0 n1 e
  refine Yld.bind (P := fun r => 0 ≤ r.1 ∧ r.1 < 256 ∧ 0 ≤ r.2 ∧ r.2 ≤ 24 ∧ blen x = r.2 + blen r.1) ?_ ?_
  ·refine Yld.ite (fun h => ?_) (fun h => ?_)
   ·have := of_decide_eq_true h
    have e2 := blen_hi (x := y) (v := y / 256) (k := 8) rfl (by omega)
    refine Yld.some ⟨by omega, by omega, ?_, ?_, ?_⟩ <;> dsimp only <;> rw [wi64] <;> omega
   ·have := of_decide_eq_false h
    exact Yld.some ⟨by omega, by omega, by omega, by omega, by dsimp only; omega⟩
  ·rintro ⟨z, m⟩ ⟨z0, z1, m0, m1, e2⟩
   dsimp only at z0 z1 m0 m1 e2
   have hw : IntKind.u8.wrap z = z := by rw [wu8]; omega
   dsimp only [un2]
   rw [hw]
   refine Yld.idx (l := len8) z0 (by rw [len8_len]; omega) (Yld.ln (Yld.some ?_))
   rw [len8_at z0 z1]
   have hb := blen_le (m := z) (k := 8) (by rw [p8]; omega)
   have hb0 := blen_nonneg z
   rw [wi64' (z := blen z) (by omega) (by omega), wi64] 
   omega
theorem bits_fin {m : Nat} {v : Int} (hm : m ≤ 15) (h0 : 0 ≤ v) (h1 : v ≤ ((32 : Nat) : Int)) : IntKind.i64.wrap (IntKind.i64.wrap (32 * (m : Int)) + v) = ((32 * m : Nat) : Int) + v := by
 simp only [wi64]
 omega
theorem Bits_y {F : Nat} (hF : 100 < F) {x : Big} (hx : inB x) : w_Bits_S F x = some (match iv x with | some a => blen (absZ a) | none => 0) := by
 refine Yld.eq ?_
 unfold w_Bits_S
 refine Yld.bind (size_y hF) fun n hn => ?_
 obtain ⟨n0, n1, nz, nt⟩ := hn
 refine Yld.bindE (good1 hF x) ?_
 cases ha : iv x with
 | none => simp only [iv_none ha, Bool.not_false, Bool.true_or, if_true]; exact Yld.some rfl
 | some a =>
  obtain ⟨ga, rfl, ra⟩ := iv_some hx ha
  obtain ⟨wa, na⟩ := sv_big_W ra
  have hval : absZ a = ds 4294967296 (dg (big a).W.l) n.toNat := by
   have h1 : absZ a = av (big a).W := by rw [wa]; rfl
   rw [h1]
   exact ds_ext (by omega) nz
  simp only [ga, Bool.not_true, Bool.false_or]
  refine Yld.ite (fun h => ?_) (fun h => ?_)
  ·have h' := of_decide_eq_true h
   subst h'
   refine Yld.some ?_
   rw [hval]; rfl
  ·have h' := of_decide_eq_false h
   have hm : n.toNat = (n.toNat - 1) + 1 := by omega
   have hw : IntKind.i64.wrap (n - 1) = ((n.toNat - 1 : Nat) : Int) := by rw [wi64]; omega
   rw [hw]
   have hd := big_in a (n.toNat - 1)
   have hd0 := nt (by omega)
   refine Yld.ln (Yld.idx (by omega) (by rw [A16.l_len]; omega) ?_)
   rw [idx_dg, Int.toNat_natCast]
   refine Yld.bindE (Len32_y F hd.1 hd.2) (Yld.some ?_)
   have hb := blen_le (m := dg (big a).W.l (n.toNat - 1)) (k := 32) (by rw [p32]; omega)
   have hb0 := blen_nonneg (dg (big a).W.l (n.toNat - 1))
   have key : blen (absZ a) = ((32 * (n.toNat - 1) : Nat) : Int) + blen (dg (big a).W.l (n.toNat - 1)) := by
    refine blen_hi ?_ (by omega)
    have hp : (0 : Int) < 2 ^ (32 * (n.toNat - 1)) := Int.pow_pos (by decide)
    have hlo := ds_lt (b := 4294967296) (by decide) (f := dg (big a).W.l) (n := n.toNat - 1) fun i _ => big_in a i
    have hlo0 := ds_nonneg (b := 4294967296) (by decide) (f := dg (big a).W.l) (n := n.toNat - 1) fun i _ => (big_in a i).1
    rw [hval, hm, ds_succ, pow32, Nat.add_sub_cancel]
    rw [pow32] at hlo
    rw [Int.add_mul_ediv_right _ _ (by omega), Int.ediv_eq_zero_of_lt hlo0 hlo, Int.zero_add]
   show IntKind.i64.wrap (IntKind.i64.wrap (32 * ((n.toNat - 1 : Nat) : Int)) + blen (dg (big a).W.l (n.toNat - 1))) = blen (absZ a)
   rw [key]
   exact bits_fin (by omega) hb0 hb
theorem Of_y (F : Nat) {n : Int} (h0 : -9223372036854775808 ≤ n) (h1 : n ≤ 9223372036854775807) : w_Of_S F n = some (big n) := by
 refine Yld.eq ?_
 unfold w_Of_S
 refine Yld.bind (P := fun u => u = absZ n) ?_ ?_
 ·unfold absZ
  refine Yld.ite (fun h => ?_) (fun h => ?_)
  ·have := of_decide_eq_true h
   refine Yld.ln (Yld.some ?_)
   rw [if_pos this]
   simp only [wu64]; omega
  ·have := of_decide_eq_false h
   refine Yld.some ?_
   rw [if_neg this]
   simp only [wu64]; omega
 ·rintro u rfl
  have hu : 0 ≤ absZ n ∧ absZ n ≤ 9223372036854775808 := by unfold absZ; split <;> omega
  refine Yld.ln ?_
  refine Yld.bindE (signed_y F _ (in_two (by simp only [wu32]; omega) (by simp only [wu32]; omega))) (Yld.some ?_)
  rw [av_two]
  simp only [wu32]
  congr 1
  unfold absZ at *
  by_cases h : n < 0
  ·simp only [h, decide_true, if_true] at *; omega
  ·simp only [h, decide_false, Bool.false_eq_true, if_false] at *; omega
theorem small_val {w : A16} (h : inD 4294967296 w.l) (hv : av w < 18446744073709551616) : w.a0 + w.a1 * 4294967296 = av w := by
 have e := ds_split 4294967296 (dg w.l) 2 14
 have h2 : ds 4294967296 (dg w.l) 2 = w.a0 + w.a1 * 4294967296 := by simp [ds, dg, A16.l]
 have h3 := ds_nonneg (b := 4294967296) (by decide) (f := fun i => dg w.l (2 + i)) (n := 14) fun i _ => (h (2 + i)).1
 have a0 := h 0
 have a1 := h 1
 have e0 : dg w.l 0 = w.a0 := rfl
 have e1 : dg w.l 1 = w.a1 := rfl
 rw [e0] at a0
 rw [e1] at a1
 have hav : av w = ds 4294967296 (dg w.l) (2 + 14) := rfl
 rw [hav] at hv ⊢
 rw [e, h2] at hv ⊢
 have hp : (4294967296 : Int) ^ 2 = 18446744073709551616 := by decide
 rw [hp] at hv ⊢
 omega
theorem Small_y {F : Nat} (hF : 100 < F) {x : Big} (hx : inB x) : w_Small_S F x = some (match iv x with | some a => if -9223372036854775808 ≤ a ∧ a ≤ 9223372036854775807 then (a, true) else (0, false) | none => (0, false)) := by
 refine Yld.eq ?_
 unfold w_Small_S
 refine Yld.bindE (good1 hF x) ?_
 cases ha : iv x with
 | none =>
  simp only [iv_none ha]
  exact Yld.g0 (by rfl) (Yld.ift (by rfl) (Yld.some rfl))
 | some a =>
  obtain ⟨ga, rfl, ra⟩ := iv_some hx ha
  obtain ⟨wa, na⟩ := sv_big_W ra
  simp only [ga]
  refine Yld.g1 (by rfl) (Yld.bindE (Bits_y hF (big_in a)) ?_)
  rw [iv_big ra]
  simp only [Bool.not_true, Bool.false_or]
  refine Yld.ite (fun h => ?_) (fun h => ?_)
  ·have h' := of_decide_eq_true h
   refine Yld.some ?_
   rw [if_neg]
   intro hh
   have := blen_le (m := absZ a) (k := 64) (by rw [p64]; unfold absZ; split <;> omega)
   omega
  ·have h' := of_decide_eq_false h
   have hlt : absZ a < 18446744073709551616 := by
    have h2 := lt_blen (m := absZ a)
    have h3 : (2 : Int) ^ (blen (absZ a)).toNat ≤ 2 ^ 64 := pow2_le (by omega)
    rw [p64] at h3
    omega
   have hs := small_val (big_in a) (by rw [wa]; exact hlt)
   rw [wa] at hs
   have b0 := big_in a 0
   have b1 := big_in a 1
   have e0 : dg (big a).W.l 0 = (big a).W.a0 := rfl
   have e1 : dg (big a).W.l 1 = (big a).W.a1 := rfl
   rw [e0] at b0
   rw [e1] at b1
   have habs : absZ a = if a < 0 then -a else a := rfl
   rw [← habs] at hs
   have habs0 : 0 ≤ absZ a := by unfold absZ; split <;> omega
   refine Yld.lnE ((big a).W.a1 * 4294967296) (by simp only [wu64]; omega) (Yld.lnE (absZ a) ?_ ?_)
   ·have e2 : IntKind.u64.wrap (big a).W.a0 = (big a).W.a0 := by rw [wu64]; omega
    rw [e2, ior_add 32 (by omega) (by omega) (by rw [p32]; omega) b0.1 (by rw [p32]; omega) (by omega)]
    omega
   ·rw [na]
    refine Yld.ite (fun h => ?_) (fun h => ?_)
    ·simp only [Bool.and_eq_true, decide_eq_true_eq] at h
     rw [if_pos h.1] at habs
     refine Yld.ln (Yld.some ?_)
     rw [if_pos (by omega)]
     simp only [wu64, wi64]
     congr 1
     omega
    ·refine Yld.ite (fun h2 => ?_) (fun h2 => ?_)
     ·simp only [Bool.and_eq_true, Bool.not_eq_true', decide_eq_true_eq, decide_eq_false_iff_not] at h2
      rw [if_neg h2.1] at habs
      refine Yld.some ?_
      rw [if_pos (by omega), wi64]
      congr 1
      omega
     ·refine Yld.some ?_
      rw [if_neg]
      intro hh
      by_cases h3 : a < 0
      ·rw [if_pos h3] at habs
       simp only [h3, decide_true, Bool.true_and, decide_eq_false_iff_not] at h
       omega
      ·rw [if_neg h3] at habs
       simp only [h3, decide_false, Bool.not_false, Bool.true_and, decide_eq_false_iff_not] at h2
       omega
end Go.Proofs.YtcbbilehdaaffaaGreatDoor

namespace Go.Proofs.YtcbbilehdaaffaaGreatDoor
open Go Go.Sk
set_option linter.unusedSimpArgs false
set_option linter.unusedVariables false
end Go.Proofs.YtcbbilehdaaffaaGreatDoor

namespace Go.Sk
set_option linter.unusedSimpArgs false
set_option linter.unusedVariables false
theorem mulfin {c ai bk ok : Int} (h1 : 0 ≤ c ∧ c < 4294967296) (h2 : 0 ≤ ai * bk ∧ ai * bk ≤ 18446744065119617025) (h3 : 0 ≤ ok ∧ ok < 4294967296) (ha : 0 ≤ ai ∧ ai < 4294967296) (hb : 0 ≤ bk ∧ bk < 4294967296) :
  IntKind.u64.wrap (c + IntKind.u64.wrap (IntKind.u64.wrap (IntKind.u64.wrap ai * IntKind.u64.wrap bk) + IntKind.u64.wrap ok)) = c + ai * bk + ok := by
 have e1 : IntKind.u64.wrap ai = ai := by rw [wu64]; omega
 have e2 : IntKind.u64.wrap bk = bk := by rw [wu64]; omega
 rw [e1, e2]
 generalize ai * bk = p at *
 simp only [wu64]
 omega
def lo16 (o : A32) : A16 := ⟨o.a0, o.a1, o.a2, o.a3, o.a4, o.a5, o.a6, o.a7, o.a8, o.a9, o.a10, o.a11, o.a12, o.a13, o.a14, o.a15⟩
def hi16 (o : A32) : A16 := ⟨o.a16, o.a17, o.a18, o.a19, o.a20, o.a21, o.a22, o.a23, o.a24, o.a25, o.a26, o.a27, o.a28, o.a29, o.a30, o.a31⟩
theorem lo16_l (o : A32) : (lo16 o).l = o.l.take 16 := rfl
theorem hi16_l (o : A32) : (hi16 o).l = o.l.drop 16 := rfl
theorem lo16_in {o : A32} (h : inD 4294967296 o.l) : inD 4294967296 (lo16 o).l := fun i => by
 rw [lo16_l, dg_take]; split
 ·exact h i
 ·decide
theorem hi16_in {o : A32} (h : inD 4294967296 o.l) : inD 4294967296 (hi16 o).l := fun i => by
 rw [hi16_l, dg_drop]; exact h _
theorem halves (o : A32) : ds 4294967296 (dg o.l) 32 = av (lo16 o) + MM * av (hi16 o) := by
 rw [show (32 : Nat) = 16 + 16 from rfl, ds_split]
 have e1 : ds 4294967296 (dg o.l) 16 = av (lo16 o) := ds_congr fun i hi => by rw [lo16_l, dg_take, if_pos hi]
 have e2 : ds 4294967296 (fun i => dg o.l (16 + i)) 16 = av (hi16 o) := ds_congr fun i _ => by rw [hi16_l, dg_drop]
 rw [e1, e2]
 rfl
theorem absZ_mul (a b : Int) : absZ (a * b) = absZ a * absZ b := by
 unfold absZ
 by_cases ha : a < 0
 ·by_cases hb : b < 0
  ·rw [if_pos ha, if_pos hb, if_neg (by have := Int.mul_pos_of_neg_of_neg ha hb; omega), Int.neg_mul_neg]
  ·rw [if_pos ha, if_neg hb]
   have := Int.mul_nonpos_of_nonpos_of_nonneg (Int.le_of_lt ha) (by omega : 0 ≤ b)
   by_cases h0 : a * b < 0
   ·rw [if_pos h0, Int.neg_mul]
   ·rw [if_neg h0, Int.neg_mul]; omega
 ·by_cases hb : b < 0
  ·rw [if_neg ha, if_pos hb]
   have := Int.mul_nonpos_of_nonneg_of_nonpos (by omega : 0 ≤ a) (Int.le_of_lt hb)
   by_cases h0 : a * b < 0
   ·rw [if_pos h0, Int.mul_neg]
   ·rw [if_neg h0, Int.mul_neg]; omega
  ·rw [if_neg ha, if_neg hb, if_neg (by have := Int.mul_nonneg (by omega : 0 ≤ a) (by omega : 0 ≤ b); omega)]
theorem sgn_mul {a b : Int} (h : (decide (a < 0) != decide (b < 0)) = true) : a * b = -(absZ a * absZ b) := by
 rw [← absZ_mul]
 unfold absZ
 by_cases ha : a < 0
 ·have hb : ¬ b < 0 := fun hb => by simp [ha, hb] at h
  have := Int.mul_nonpos_of_nonpos_of_nonneg (Int.le_of_lt ha) (by omega : 0 ≤ b)
  split <;> omega
 ·by_cases hb : b < 0
  ·have := Int.mul_nonpos_of_nonneg_of_nonpos (by omega : 0 ≤ a) (Int.le_of_lt hb)
   split <;> omega
  ·simp [ha, hb] at h
theorem sgn_mul' {a b : Int} (h : (decide (a < 0) != decide (b < 0)) = false) : a * b = absZ a * absZ b := by
 rw [← absZ_mul]
 unfold absZ
 by_cases ha : a < 0
 ·by_cases hb : b < 0
  ·have := Int.mul_pos_of_neg_of_neg ha hb
   rw [if_neg (by omega)]
  ·simp [ha, hb] at h
 ·have hb : ¬ b < 0 := fun hb => by simp [ha, hb] at h
  have := Int.mul_nonneg (by omega : 0 ≤ a) (by omega : 0 ≤ b)
  rw [if_neg (by omega)]
theorem absZ_lt {a : Int} (h : -MM < a ∧ a < MM) : 0 ≤ absZ a ∧ absZ a < MM := by unfold absZ; split <;> omega
theorem absZ_in {a : Int} : (-MM < a ∧ a < MM) ↔ absZ a < MM := by unfold absZ; split <;> omega
end Go.Sk
namespace Go.Proofs.YtcbbilehdaaffaaGreatDoor
open Go Go.Sk
set_option linter.unusedSimpArgs false
set_option linter.unusedVariables false
theorem Mul_y {F : Nat} (hF : 100 < F) {x y : Big} (hx : inB x) (hy : inB y) : w_Mul_S F x y = some (two (fun a b => some (a * b)) x y) := by
  refine Yld.eq ?_
  unfold w_Mul_S two
  refine Yld.bindE (good2 hF x y) ?_
  cases ha : iv x with
  | none => simp only [iv_none ha, Bool.false_and, Bool.not_false, if_true]; exact Yld.bindE (Bad_y F) (Yld.some rfl)
  | some a =>
    cases hb : iv y with
    | none => simp only [iv_none hb, Bool.and_false, Bool.not_false, if_true]; exact Yld.bindE (Bad_y F) (Yld.some rfl)
    | some b =>
      obtain ⟨ga, rfl, ra⟩ := iv_some hx ha
      obtain ⟨gb, rfl, rb⟩ := iv_some hy hb
      obtain ⟨wa, na⟩ := sv_big_W ra
      obtain ⟨wb, nb⟩ := sv_big_W rb
      have ia : inD 4294967296 (big a).W.l := big_in a
      have ib : inD 4294967296 (big b).W.l := big_in b
      have habs : av (big a).W = absZ a := wa
      have hbbs : av (big b).W = absZ b := wb
      clear wa wb ha hb hx hy
      simp only [ga, gb, Bool.and_self, Bool.not_true, Bool.false_eq_true, if_false, toB, na, nb]
      generalize (big a).W = A at *
      generalize (big b).W = B at *
      refine Yld.bind (size_y hF) fun n hn => Yld.bind (size_y hF) fun m hm => ?_
      obtain ⟨n0, n1, nz, _⟩ := hn
      obtain ⟨m0, m1, mz, _⟩ := hm
      obtain ⟨N, rfl⟩ : ∃ N : Nat, n = N := ⟨n.toNat, by omega⟩
      obtain ⟨M, rfl⟩ : ∃ M : Nat, m = M := ⟨m.toNat, by omega⟩
      simp only [Int.toNat_natCast] at nz mz
      have hA : absZ a = ds 4294967296 (dg A.l) N := by rw [← habs]; exact ds_ext (by omega) nz
      have hB : absZ b = ds 4294967296 (dg B.l) M := by rw [← hbbs]; exact ds_ext (by omega) mz
      refine Yld.bind (P := fun out => inD 4294967296 out.l ∧ ds 4294967296 (dg out.l) 32 = absZ a * absZ b) (Yld.rounds N (fun i s => s.2 = (i : Int) ∧ inD 4294967296 s.1.l ∧ (∀ j, i + M ≤ j → dg s.1.l j = 0) ∧ ds 4294967296 (dg s.1.l) (i + M) = ds 4294967296 (dg A.l) i * absZ b) (by omega) ⟨rfl, A32.zero_in, fun j _ => A32.zero_dg j, ?_⟩ ?_) ?_
      · show ds 4294967296 (dg A32.zero.l) (0 + M) = 0 * absZ b
        rw [Int.zero_mul]
        exact ds_zero fun j _ => A32.zero_dg j
      · rintro i ⟨o0, ix⟩ hi ⟨rfl, oin, oz, os⟩
        dsimp only at oin oz os
        dsimp only [un2]
        refine Yld.ite (fun h => ?_) (fun h => ?_)
        · have hi' : i < N := by have := of_decide_eq_true h; omega
          have hai := ia i
          refine Yld.bind (P := fun o1 => inD 4294967296 o1.l ∧ (∀ j, i + 1 + M ≤ j → dg o1.l j = 0) ∧ ds 4294967296 (dg o1.l) (i + 1 + M) = ds 4294967296 (dg A.l) (i + 1) * absZ b) ?_ ?_
          · refine Yld.bind (P := fun r => inD 4294967296 r.1.l ∧ 0 ≤ r.2 ∧ r.2 < 4294967296 ∧ (∀ j, i + M ≤ j → dg r.1.l j = dg o0.l j) ∧ ds 4294967296 (dg r.1.l) (i + M) + r.2 * 4294967296 ^ (i + M) = ds 4294967296 (dg o0.l) (i + M) + dg A.l i * 4294967296 ^ i * ds 4294967296 (dg B.l) M)
              (Yld.rounds M (fun k s => s.2.2 = (k : Int) ∧ inD 4294967296 s.1.l ∧ 0 ≤ s.2.1 ∧ s.2.1 < 4294967296 ∧ (∀ j, i + k ≤ j → dg s.1.l j = dg o0.l j) ∧ ds 4294967296 (dg s.1.l) (i + k) + s.2.1 * 4294967296 ^ (i + k) = ds 4294967296 (dg o0.l) (i + k) + dg A.l i * 4294967296 ^ i * ds 4294967296 (dg B.l) k) (by omega) ⟨rfl, oin, Int.le_refl _, (by decide : (0 : Int) < 4294967296), fun _ _ => rfl, ?_⟩ ?_) ?_
            · show ds 4294967296 (dg o0.l) (i + 0) + 0 * 4294967296 ^ (i + 0) = ds 4294967296 (dg o0.l) (i + 0) + dg A.l i * 4294967296 ^ i * 0
              rw [Int.zero_mul, Int.mul_zero]
            · rintro k ⟨o, c, kx⟩ hk ⟨rfl, pin, c0, c1, pk, ps⟩
              dsimp only at pin c0 c1 pk ps
              dsimp only [un3]
              refine Yld.ite (fun h2 => ?_) (fun h2 => ?_)
              · have hk' : k < M := by have := of_decide_eq_true h2; omega
                have hw : IntKind.i64.wrap ((i : Int) + (k : Int)) = ((i + k : Nat) : Int) := by rw [wi64]; omega
                have hbk := ib k
                have hok := pin (i + k)
                rw [hw]
                have hmb := mul_bound hai hbk
                have hfin := mulfin ⟨c0, c1⟩ (by have e : ((4294967296 : Int) - 1) * (4294967296 - 1) = 18446744065119617025 := by decide
                                                 rw [e] at hmb; exact hmb) hok hai hbk
                have hlt : c + dg A.l i * dg B.l k + dg o.l (i + k) ≤ 18446744073709551615 := by
                  have e : ((4294967296 : Int) - 1) * (4294967296 - 1) = 18446744065119617025 := by decide
                  rw [e] at hmb
                  omega
                refine Yld.idx (by omega) (by rw [A16.l_len]; omega) (Yld.idx (by omega) (by rw [A16.l_len]; omega) (Yld.idx (by omega) (by rw [A32.l_len]; omega) (Yld.ln (Yld.idx (by omega) (by rw [A32.l_len]; omega) (Yld.ln (Yld.some (.inl ⟨_, rfl, ?_, hk'⟩)))))))
                simp only [idx_dg, Int.toNat_natCast]
                rw [hfin]
                generalize hp : dg A.l i * dg B.l k = p at *
                have hmb0 := hmb.1
                clear hfin hmb
                refine ⟨by rw [wi64]; omega, A32.set_in pin (by omega) (by omega) (by rw [wu32]; omega), by omega, by omega, fun j hj => ?_, ?_⟩
                · rw [A32.set_dg (by omega) (by omega), Int.toNat_natCast, if_neg (by omega)]
                  exact pk j (by omega)
                · have hok0 := pk (i + k) (Nat.le_refl _)
                  show ds 4294967296 (dg (A32.set o ((i + k : Nat) : Int) _).l) (i + k + 1) + _ * 4294967296 ^ (i + k + 1) = ds 4294967296 (dg o0.l) (i + k + 1) + dg A.l i * 4294967296 ^ i * ds 4294967296 (dg B.l) (k + 1)
                  rw [A32.ds_set (by omega), ds_succ 4294967296 (dg o0.l), ds_succ 4294967296 (dg B.l), ← hok0]
                  refine mul_step ps ?_
                  rw [hp, wu32]
                  omega
              · have hk' : k = M := by have := of_decide_eq_false h2; omega
                subst hk'
                exact Yld.some (.inr ⟨_, rfl, pin, c0, c1, pk, ps⟩)
            · rintro ⟨o, c⟩ ⟨pin, c0, c1, pk, ps⟩
              dsimp only at pin c0 c1 pk ps
              dsimp only [un2]
              have hw : IntKind.i64.wrap ((i : Int) + (M : Int)) = ((i + M : Nat) : Int) := by rw [wi64]; omega
              rw [hw]
              refine Yld.idx (by omega) (by rw [A32.l_len]; omega) (Yld.some ?_)
              have hwc : IntKind.u32.wrap c = c := by rw [wu32]; omega
              rw [hwc]
              refine ⟨A32.set_in pin (by omega) (by omega) ⟨c0, c1⟩, fun j hj => ?_, ?_⟩
              · rw [A32.set_dg (by omega) (by omega), Int.toNat_natCast, if_neg (by omega), pk j (by omega), oz j (by omega)]
              · have e : i + 1 + M = i + M + 1 := by omega
                rw [e, A32.ds_set (by omega), ps, os, ds_succ, ← hB, Int.add_mul]
          · rintro o1 ⟨h1, h2, h3⟩
            exact Yld.some (.inl ⟨_, rfl, ⟨by rw [wi64]; omega, h1, h2, h3⟩, hi'⟩)
        · have hi' : i = N := by have := of_decide_eq_false h; omega
          subst hi'
          refine Yld.some (.inr ⟨_, rfl, oin, ?_⟩)
          rw [hA, ← os]
          exact ds_ext (by omega) fun j h1 _ => oz j h1
      · rintro out ⟨oin, os⟩
        rw [halves] at os
        have rl := av_range (lo16_in oin)
        have rh := av_range (hi16_in oin)
        refine Yld.ln ?_
        show Yld (if decide (hi16 out ≠ A16.zero) = true then _ else _) _
        refine Yld.ite (fun h => ?_) (fun h => ?_)
        · have h' := of_decide_eq_true h
          have h1 : av (hi16 out) ≠ 0 := fun e => h' ((zero_iff (hi16_in oin)).2 e)
          refine Yld.bindE (Bad_y F) (Yld.some ?_)
          refine (big_out ?_).symm
          rw [absZ_in, absZ_mul, ← os]
          have h2 : MM * 1 ≤ MM * av (hi16 out) := Int.mul_le_mul_of_nonneg_left (by omega) (Int.le_of_lt MM_pos)
          omega
        · have h' : hi16 out = A16.zero := by simpa using h
          have h1 : av (hi16 out) = 0 := by rw [h', av_zero]
          rw [h1, Int.mul_zero, Int.add_zero] at os
          show Yld (Option.bind (w_signed_S F (decide (a < 0) != decide (b < 0)) (lo16 out)) _) _
          refine Yld.bindE (signed_y F _ (lo16_in oin)) (Yld.some ?_)
          rw [os]
          congr 1
          cases hs : (decide (a < 0) != decide (b < 0)) with
          | true => rw [if_pos rfl, sgn_mul hs]
          | false => rw [if_neg (by simp), sgn_mul' hs]
end Go.Proofs.YtcbbilehdaaffaaGreatDoor

namespace Go.Sk
set_option linter.unusedSimpArgs false
set_option linter.unusedVariables false
end Go.Sk
namespace Go.Proofs.YtcbbilehdaaffaaGreatDoor
open Go Go.Sk
set_option linter.unusedSimpArgs false
set_option linter.unusedVariables false
end Go.Proofs.YtcbbilehdaaffaaGreatDoor

namespace Go.Sk
set_option linter.unusedSimpArgs false
set_option linter.unusedVariables false
end Go.Sk
namespace Go.Proofs.YtcbbilehdaaffaaGreatDoor
open Go Go.Sk
set_option linter.unusedSimpArgs false
set_option linter.unusedVariables false
end Go.Proofs.YtcbbilehdaaffaaGreatDoor

namespace Go.Sk
set_option linter.unusedSimpArgs false
set_option linter.unusedVariables false
end Go.Sk
namespace Go.Proofs.YtcbbilehdaaffaaGreatDoor
open Go Go.Sk
set_option linter.unusedSimpArgs false
set_option linter.unusedVariables false
end Go.Proofs.YtcbbilehdaaffaaGreatDoor

namespace Go.Proofs.YtcbbilehdaaffaaGreatDoor
open Go Go.Sk
set_option linter.unusedSimpArgs false
set_option linter.unusedVariables false
end Go.Proofs.YtcbbilehdaaffaaGreatDoor

namespace Go.Sk
set_option linter.unusedSimpArgs false
set_option linter.unusedVariables false
end Go.Sk
namespace Go.Proofs.YtcbbilehdaaffaaGreatDoor
open Go Go.Sk
set_option linter.unusedSimpArgs false
set_option linter.unusedVariables false
end Go.Proofs.YtcbbilehdaaffaaGreatDoor

namespace Go.Sk
set_option linter.unusedSimpArgs false
set_option linter.unusedVariables false
end Go.Sk
namespace Go.Proofs.YtcbbilehdaaffaaGreatDoor
open Go Go.Sk
set_option linter.unusedSimpArgs false
set_option linter.unusedVariables false
end Go.Proofs.YtcbbilehdaaffaaGreatDoor

namespace Go.Sk
set_option linter.unusedSimpArgs false
set_option linter.unusedVariables false
end Go.Sk
namespace Go.Proofs.YtcbbilehdaaffaaGreatDoor
open Go Go.Sk
set_option linter.unusedSimpArgs false
set_option linter.unusedVariables false
end Go.Proofs.YtcbbilehdaaffaaGreatDoor

namespace Go.Sk
set_option linter.unusedSimpArgs false
set_option linter.unusedVariables false
def fq (a b : Int) : Int := if decide (a < 0) != decide (b < 0) then -(absZ a / absZ b + if absZ a % absZ b = 0 then 0 else 1) else absZ a / absZ b
def fr (a b : Int) : Int :=
 let r := absZ a % absZ b
 let r' := if (decide (a < 0) != decide (b < 0)) && !decide (r = 0) then absZ b - r else r
 if b < 0 then -r' else r'
def quoO (a b : Int) : Option Int := if b = 0 then none else some (fq a b)
def remO (a b : Int) : Option Int := if b = 0 then none else some (fr a b)
theorem absZ_pos {b : Int} (h : b ≠ 0) : 0 < absZ b := by unfold absZ; split <;> omega
theorem absZ_nonneg (b : Int) : 0 ≤ absZ b := by unfold absZ; split <;> omega
theorem fq_fr {a b : Int} (h : b ≠ 0) : a = b * fq a b + fr a b := by
 have hp := absZ_pos h
 have hd := Int.mul_ediv_add_emod (absZ a) (absZ b)
 have h0 := Int.emod_nonneg (absZ a) (show absZ b ≠ 0 by omega)
 unfold fq fr
 dsimp only
 generalize absZ a / absZ b = q at *
 generalize absZ a % absZ b = r at *
 by_cases ha : a < 0
 ·have ea : absZ a = -a := if_pos ha
  by_cases hb : b < 0
  ·have eb : absZ b = -b := if_pos hb
   simp only [ha, hb, decide_true, bne_self_eq_false, Bool.false_eq_true, if_false, Bool.false_and, if_true]
   rw [ea, eb] at hd
   grind
  ·have eb : absZ b = b := if_neg hb
   have hx : (true != false) = true := rfl
   simp only [ha, hb, decide_true, decide_false, hx, if_true, Bool.true_and, if_false]
   rw [ea, eb] at hd
   by_cases hr : r = 0
   ·subst hr; simp; grind
   ·simp [hr]; grind
 ·have ea : absZ a = a := if_neg ha
  by_cases hb : b < 0
  ·have eb : absZ b = -b := if_pos hb
   have hx : (false != true) = true := rfl
   simp only [ha, hb, decide_true, decide_false, hx, if_true, Bool.true_and]
   rw [ea, eb] at hd
   by_cases hr : r = 0
   ·subst hr; simp; grind
   ·simp [hr]; grind
  ·have eb : absZ b = b := if_neg hb
   simp only [ha, hb, decide_false, bne_self_eq_false, Bool.false_eq_true, if_false, Bool.false_and]
   rw [ea, eb] at hd
   omega
theorem fr_range {a b : Int} (h : b ≠ 0) : absZ (fr a b) < absZ b ∧ (fr a b = 0 ∨ (decide (fr a b < 0) = decide (b < 0))) := by
 have hp := absZ_pos h
 have h0 := Int.emod_nonneg (absZ a) (show absZ b ≠ 0 by omega)
 have h1 := Int.emod_lt_of_pos (absZ a) hp
 unfold fr
 dsimp only
 generalize absZ a % absZ b = r at *
 have h2 : ∀ r', 0 ≤ r' → r' < absZ b → absZ (if b < 0 then -r' else r') < absZ b ∧ ((if b < 0 then -r' else r') = 0 ∨ decide ((if b < 0 then -r' else r') < 0) = decide (b < 0)) := fun r' g0 g1 => by
  by_cases hb : b < 0
  ·simp only [hb, if_true]
   refine ⟨by unfold absZ at *; split <;> omega, ?_⟩
   rcases (by omega : r' = 0 ∨ 0 < r') with e | e
   ·left; omega
   ·right; rw [decide_eq_decide]; simp; omega
  ·simp only [hb, if_false]
   refine ⟨by unfold absZ at *; split <;> omega, ?_⟩
   right; rw [decide_eq_decide]; simp; omega
 refine h2 _ ?_ ?_
 ·split <;> omega
 ·split
  ·next hc =>
   simp only [Bool.and_eq_true, Bool.not_eq_true', decide_eq_false_iff_not] at hc
   omega
  ·omega
theorem fq_unique {a b q r : Int} (h : b ≠ 0) (e : a = b * q + r) (h1 : absZ r < absZ b) (h2 : r = 0 ∨ decide (r < 0) = decide (b < 0)) : q = fq a b ∧ r = fr a b := by
 have e2 := fq_fr (a := a) h
 obtain ⟨g1, g2⟩ := fr_range (a := a) h
 generalize fq a b = Q at *
 generalize fr a b = S at *
 have e3 : b * (q - Q) = S - r := by rw [Int.mul_sub]; omega
 have h3 : absZ (S - r) < absZ b := by
  rw [decide_eq_decide] at h2 g2
  unfold absZ at *
  split at h1 <;> split at g1 <;> split <;> split at h1 <;> omega
 have h4 : q = Q := by
  rw [← e3, absZ_mul] at h3
  have hb := absZ_pos h
  rcases (by have := absZ_nonneg (q - Q); omega : absZ (q - Q) = 0 ∨ 1 ≤ absZ (q - Q)) with g | g
  ·unfold absZ at g; split at g <;> omega
  ·have := Int.mul_le_mul_of_nonneg_left g (Int.le_of_lt hb)
   omega
 refine ⟨h4, ?_⟩
 rw [h4, Int.sub_self, Int.mul_zero] at e3
 omega
theorem absZ_zero {b : Int} : absZ b = 0 ↔ b = 0 := by unfold absZ; split <;> omega
set_option linter.unusedVariables false
theorem tq (n : Int) {m : Int} (hm : m ≠ 0) : Int.tdiv n m = (if decide (n < 0) != decide (m < 0) then -(absZ n / absZ m) else absZ n / absZ m) ∧ Int.tmod n m = (if n < 0 then -(absZ n % absZ m) else absZ n % absZ m) := by
  have e : Int.tmod n m = if n < 0 then -(absZ n % absZ m) else absZ n % absZ m := by
   by_cases h1 : n < 0
   ·have e1 : absZ n = -n := if_pos h1
    have e2 : n = -(-n) := by omega
    rw [if_pos h1, e1]
    conv => lhs; rw [e2]
    rw [Int.neg_tmod, tmod_pos (by omega)]
    congr 1
    by_cases h2 : m < 0
    ·rw [show absZ m = -m from if_pos h2, Int.emod_neg]
    ·rw [show absZ m = m from if_neg h2]
   ·have e1 : absZ n = n := if_neg h1
    rw [if_neg h1, e1, tmod_pos (by omega)]
    by_cases h2 : m < 0
    ·rw [show absZ m = -m from if_pos h2, Int.emod_neg]
    ·rw [show absZ m = m from if_neg h2]
  refine ⟨?_, e⟩
  by_cases h1 : n < 0
  ·have e1 : absZ n = -n := if_pos h1
   have e2 : n = -(-n) := by omega
   by_cases h2 : m < 0
   ·rw [show absZ m = -m from if_pos h2, e1]
    simp only [h1, h2, decide_true, bne_self_eq_false, Bool.false_eq_true, if_false]
    conv => lhs; rw [e2]
    rw [Int.neg_tdiv, ← Int.tdiv_neg, tdiv_pos (by omega)]
   ·rw [show absZ m = m from if_neg h2, e1]
    have hx : (true != false) = true := rfl
    simp only [h1, h2, decide_true, decide_false, hx, if_true]
    conv => lhs; rw [e2]
    rw [Int.neg_tdiv, tdiv_pos (by omega)]
  ·have e1 : absZ n = n := if_neg h1
   by_cases h2 : m < 0
   ·rw [show absZ m = -m from if_pos h2, e1]
    have hx : (false != true) = true := rfl
    simp only [h1, h2, decide_true, decide_false, hx, if_true]
    rw [← Int.neg_neg m, Int.tdiv_neg, tdiv_pos (by omega), Int.neg_neg]
   ·rw [show absZ m = m from if_neg h2, e1]
    simp only [h1, h2, decide_false, bne_self_eq_false, Bool.false_eq_true, if_false]
    rw [tdiv_pos (by omega)]
theorem fq_abs {a b : Int} (h : b ≠ 0) : absZ (fq a b) ≤ absZ a := by
 have hp := absZ_pos h
 have hd := Int.mul_ediv_add_emod (absZ a) (absZ b)
 have h0 := Int.emod_nonneg (absZ a) (show absZ b ≠ 0 by omega)
 have h1 := Int.emod_lt_of_pos (absZ a) hp
 have hq0 : 0 ≤ absZ a / absZ b := Int.ediv_nonneg (absZ_nonneg a) (by omega)
 have hq1 : absZ a / absZ b ≤ absZ a := Int.ediv_le_self _ (absZ_nonneg a)
 have ha := absZ_nonneg a
 unfold fq
 generalize absZ a / absZ b = q at *
 generalize absZ a % absZ b = r at *
 by_cases hr : r = 0
 ·rw [if_pos hr]
  split <;> unfold absZ at * <;> split <;> omega
 ·rw [if_neg hr]
  have := Int.mul_le_mul_of_nonneg_right (show 2 ≤ absZ b by omega) hq0
  split
  ·have e : absZ (-(q + 1)) = q + 1 := by unfold absZ; rw [if_pos (by omega)]; omega
   omega
  ·have e : absZ q = q := by unfold absZ; rw [if_neg (by omega)]
   omega
end Go.Sk

namespace Go.Sk
set_option linter.unusedSimpArgs false
set_option linter.unusedVariables false
end Go.Sk
namespace Go.Proofs.YtcbbilehdaaffaaGreatDoor
open Go Go.Sk
set_option linter.unusedSimpArgs false
set_option linter.unusedVariables false
end Go.Proofs.YtcbbilehdaaffaaGreatDoor

namespace Go.Sk
end Go.Sk
namespace Go.Proofs.YtcbbilehdaaffaaGreatDoor
open Go Go.Sk
set_option linter.unusedSimpArgs false
set_option linter.unusedVariables false
end Go.Proofs.YtcbbilehdaaffaaGreatDoor

namespace Go.Sk
set_option linter.unusedSimpArgs false
set_option linter.unusedVariables false
theorem ds_top {b : Int} {f : Nat → Int} {n k : Nat} (h : ∀ i, n ≤ i → f i = 0) (hk : n ≤ k) : ds b f k = ds b f n := ds_ext hk fun i h1 _ => h i h1
theorem pow2_pos (n : Nat) : (0 : Int) < 2 ^ n := Int.pow_pos (by decide)
theorem pow2_31 {n : Nat} (h : n ≤ 31) : (2 : Int) ^ n ≤ 2147483648 := by
 have := pow2_le h
 have e : (2 : Int) ^ 31 = 2147483648 := by decide
 omega
theorem shl_val {x : Int} {n : Nat} (hn : n ≤ 31) (hx : 0 ≤ x ∧ x < 4294967296) : shl? .u64 x (n : Int) = some (x * 2 ^ n) := by
 unfold shl?
 rw [if_neg (by omega)]
 have e4 : min ((n : Int)).toNat IntKind.u64.bits = n := by
  rw [Int.toNat_natCast]
  show min n 64 = _
  omega
 have hp := pow2_pos n
 have hq := pow2_31 hn
 have h1 := Int.mul_nonneg hx.1 (Int.le_of_lt hp)
 have h2 : x * 2 ^ n ≤ 4294967295 * 2147483648 := Int.mul_le_mul (by omega) hq (Int.le_of_lt hp) (by omega)
 rw [e4, wu64]
 congr 1
 omega
theorem mid_of {X : Int} {n : Nat} (hn : n ≤ 32) : X % 18446744073709551616 / 2 ^ n % 4294967296 = X / 2 ^ n % 4294967296 := by
 have hp := pow2_pos n
 have e : (18446744073709551616 : Int) = 2 ^ n * (2 ^ (32 - n) * 4294967296) := by
  have : (18446744073709551616 : Int) = 2 ^ (n + (32 - n) + 32) := by rw [show n + (32 - n) + 32 = 64 by omega]; decide
  rw [this, Int.pow_add, Int.pow_add, Int.mul_assoc]; rfl
 have e2 : X = X % 18446744073709551616 + 2 ^ n * ((2 ^ (32 - n) * 4294967296) * (X / 18446744073709551616)) := by
  rw [← Int.mul_assoc, ← e]; exact (Int.emod_add_mul_ediv X 18446744073709551616).symm
 have e3 : X / 2 ^ n = X % 18446744073709551616 / 2 ^ n + 2 ^ (32 - n) * 4294967296 * (X / 18446744073709551616) := by
  rw [← Int.add_mul_ediv_left (X % 18446744073709551616) _ (by omega : (2 : Int) ^ n ≠ 0), ← e2]
 have e4 : 2 ^ (32 - n) * 4294967296 * (X / 18446744073709551616) = 4294967296 * (2 ^ (32 - n) * (X / 18446744073709551616)) := by grind
 rw [e3, e4, Int.add_mul_emod_self_left]
theorem av_pair {w : A16} (h : inD 4294967296 w.l) (i : Nat) : dg w.l i + dg w.l (i + 1) * 4294967296 = av w / 4294967296 ^ i % 18446744073709551616 := by
 have h1 : av w = ds 4294967296 (dg w.l) (16 + (i + 2)) := (ds_top (fun j hj => dg_ge (by rw [A16.l_len]; exact hj)) (by omega)).symm
 have h2 : 16 + (i + 2) = i + (2 + 16) := by omega
 rw [h1, h2, ds_hi (by decide) h, ds_split]
 have e : ds 4294967296 (fun j => dg w.l (i + j)) 2 = dg w.l i + dg w.l (i + 1) * 4294967296 := by simp [ds]
 have p : (4294967296 : Int) ^ 2 = 18446744073709551616 := by decide
 have a := h i
 have b := h (i + 1)
 rw [e, p, Int.add_mul_emod_self_left]
 omega
theorem toA_ext {w : A16} {z : Int} (h : ∀ i, i < 16 → dg w.l i = nd 4294967296 z i) : w = toA z := by
 have hin : inD 4294967296 w.l := fun i => by
  by_cases hi : i < 16
  ·rw [h i hi]; exact nd_range _ _ (by decide) i
  ·rw [dg_ge (by rw [A16.l_len]; omega)]; decide
 refine eq_toA' hin ?_
 unfold av
 rw [ds_congr h, ds_nd (by decide)]
 rfl
end Go.Sk
namespace Go.Proofs.YtcbbilehdaaffaaGreatDoor
open Go Go.Sk
set_option linter.unusedSimpArgs false
set_option linter.unusedVariables false
theorem up_y {F : Nat} (hF : 100 < F) {w : A16} (hw : inD 4294967296 w.l) {n : Nat} (hn : n ≤ 31) : Yld (w_up_S F w (n : Int)) fun p => inD 4294967296 p.1.l ∧ 0 ≤ p.2 ∧ p.2 < 2 ^ n ∧ av p.1 + p.2 * MM = av w * 2 ^ n := by
 unfold w_up_S
 have hp := pow2_pos n
 have hq := pow2_31 hn
 refine Yld.bind (P := fun p => inD 4294967296 p.1.l ∧ 0 ≤ p.2 ∧ p.2 < 2 ^ n ∧ av p.1 + p.2 * MM = av w * 2 ^ n) (Yld.rounds 16 (fun (k : Nat) (s : A16 × Int × Int) => s.2.2 = (k : Int) ∧ inD 4294967296 s.1.l ∧ 0 ≤ s.2.1 ∧ s.2.1 < 2 ^ n ∧ ds 4294967296 (dg s.1.l) k + s.2.1 * 4294967296 ^ k = ds 4294967296 (dg w.l) k * 2 ^ n) (by omega) ⟨rfl, zero_in, Int.le_refl _, hp, by simp [ds]⟩ ?_) ?_
 ·rintro k ⟨o, c, kx⟩ hk ⟨rfl, oin, c0, c1, os⟩
  dsimp only at oin c0 c1 os
  dsimp only [un3]
  refine Yld.ite (fun h => ?_) (fun h => ?_)
  ·have hk' : k < 16 := by have := of_decide_eq_true h; omega
   have hd := hw k
   refine Yld.idx (by omega) (by rw [A16.l_len]; omega) ?_
   simp only [idx_dg, Int.toNat_natCast]
   have hu : IntKind.u64.wrap (dg w.l k) = dg w.l k := by rw [wu64]; omega
   rw [hu]
   refine Yld.bindE (shl_val hn hd) ?_
   have hv : dg w.l k * 2 ^ n ≤ 4294967295 * 2 ^ n := Int.mul_le_mul_of_nonneg_right (by omega) (by omega)
   have hv0 : 0 ≤ dg w.l k * 2 ^ n := Int.mul_nonneg hd.1 (by omega)
   have hior : ior .u64 c (dg w.l k * 2 ^ n) = dg w.l k * 2 ^ n + c := by
    rw [ior_comm]
    exact ior_add n hv0 (by omega) (Int.mul_emod_left _ _) c0 c1 (by omega)
   rw [hior, wu32]
   refine Yld.ln (Yld.idx (by omega) (by rw [A16.l_len]; omega) (Yld.some (.inl ⟨_, rfl, ⟨by dsimp only; rw [wi64]; omega, set_in oin (by omega) (by omega) (by omega), by dsimp only; omega, by dsimp only; omega, ?_⟩, hk'⟩)))
   dsimp only
   rw [A16.ds_set hk', ds_succ, Int.add_mul, ← os, Int.pow_succ]
   have e2 : dg w.l k * 2 ^ n + c = (dg w.l k * 2 ^ n + c) % 4294967296 + (dg w.l k * 2 ^ n + c) / 4294967296 * 4294967296 := by omega
   generalize (dg w.l k * 2 ^ n + c) % 4294967296 = u at *
   generalize (dg w.l k * 2 ^ n + c) / 4294967296 = v at *
   have e3 : dg w.l k * 2 ^ n = u + v * 4294967296 - c := by omega
   have e4 : dg w.l k * 4294967296 ^ k * 2 ^ n = (dg w.l k * 2 ^ n) * 4294967296 ^ k := by grind
   rw [e4, e3]
   grind
  ·have hk' : k = 16 := by have := of_decide_eq_false h; omega
   subst hk'
   exact Yld.some (.inr ⟨_, rfl, oin, c0, c1, os⟩)
 ·rintro ⟨o, c⟩ ⟨oin, c0, c1, os⟩
  dsimp only at oin c0 c1 os
  dsimp only [un2]
  have hu : IntKind.u32.wrap c = c := by rw [wu32]; omega
  rw [hu]
  exact Yld.some ⟨oin, c0, c1, os⟩
theorem shr_val {x : Int} {n : Nat} (hn : n ≤ 31) : shr? .u64 x (n : Int) = some (x / 2 ^ n) := by
 unfold shr?
 rw [if_neg (by omega)]
 have e4 : min ((n : Int)).toNat IntKind.u64.bits = n := by
  rw [Int.toNat_natCast]
  show min n 64 = _
  omega
 rw [e4]
theorem p32' : (2 : Int) ^ 32 = 4294967296 := by decide
theorem down_y {F : Nat} (hF : 100 < F) {w : A16} (hw : inD 4294967296 w.l) {n : Nat} (hn : n ≤ 31) : w_down_S F w (n : Int) = some (toA (av w / 2 ^ n)) := by
 refine Yld.eq ?_
 unfold w_down_S
 have hp := pow2_pos n
 refine Yld.bind (P := fun o => o = toA (av w / 2 ^ n)) (Yld.rounds 16 (fun (k : Nat) (s : A16 × Int) => s.2 = (k : Int) ∧ ∀ i, i < k → dg s.1.l i = nd 4294967296 (av w / 2 ^ n) i) (by omega) ⟨rfl, fun i h => absurd h (Nat.not_lt_zero i)⟩ ?_) (fun o ho => Yld.some ho)
 rintro k ⟨o, kx⟩ hk ⟨rfl, os⟩
 dsimp only at os
 dsimp only [un2]
 refine Yld.ite (fun h => ?_) (fun h => ?_)
 ·have hk' : k < 16 := by have := of_decide_eq_true h; omega
  have hd := hw k
  have hd1 := hw (k + 1)
  have hw1 : IntKind.i64.wrap ((k : Int) + 1) = ((k + 1 : Nat) : Int) := by rw [wi64]; omega
  rw [hw1]
  refine Yld.bind (P := fun o' => o' = o.set (k : Int) (nd 4294967296 (av w / 2 ^ n) k)) ?_ ?_
  ·refine Yld.bind (P := fun z => z = dg w.l (k + 1)) ?_ ?_
   ·refine Yld.ite (fun h => ?_) (fun h => ?_)
    ·have h' := of_decide_eq_true h
     refine Yld.idx (by omega) (by rw [A16.l_len]; omega) (Yld.some ?_)
     simp only [idx_dg, Int.toNat_natCast]
     rw [wu64]; omega
    ·have h' := of_decide_eq_false h
     exact Yld.some (dg_ge (by rw [A16.l_len]; omega)).symm
   ·rintro z rfl
    refine Yld.lnE (dg w.l (k + 1) * 4294967296) (by rw [wu64]; omega) (Yld.idx (by omega) (by rw [A16.l_len]; omega) ?_)
    simp only [idx_dg, Int.toNat_natCast]
    have hu : IntKind.u64.wrap (dg w.l k) = dg w.l k := by rw [wu64]; omega
    have hior : ior .u64 (dg w.l (k + 1) * 4294967296) (dg w.l k) = dg w.l (k + 1) * 4294967296 + dg w.l k := ior_add 32 (by omega) (by omega) (by rw [p32']; omega) hd.1 (by rw [p32']; omega) (by omega)
    rw [hu, hior]
    refine Yld.bindE (shr_val hn) (Yld.idx (by omega) (by rw [A16.l_len]; omega) (Yld.some ?_))
    congr 1
    have e : dg w.l (k + 1) * 4294967296 + dg w.l k = av w / 4294967296 ^ k % 18446744073709551616 := by rw [← av_pair hw]; omega
    rw [e, wu32, mid_of (by omega)]
    unfold nd
    rw [Int.ediv_ediv_of_nonneg (Int.le_of_lt (Int.pow_pos (by decide))), Int.ediv_ediv_of_nonneg (by omega), Int.mul_comm]
  ·rintro o' rfl
   refine Yld.some (.inl ⟨_, rfl, ⟨rfl, fun i hi => ?_⟩, hk'⟩)
   dsimp only
   rw [set_dg (by omega) (by omega), Int.toNat_natCast]
   split
   ·next e => rw [e]
   ·exact os i (by omega)
 ·have hk' : k = 16 := by have := of_decide_eq_false h; omega
  subst hk'
  exact Yld.some (.inr ⟨_, rfl, toA_ext os⟩)
theorem short_y {F : Nat} (hF : 100 < F) {a : A16} (ha : inD 4294967296 a.l) {b : Int} (hb : 0 < b ∧ b < 4294967296) : w_short_S F a b = some (toA (av a / b), av a % b) := by
 refine Yld.eq ?_
 unfold w_short_S
 have hub : IntKind.u64.wrap b = b := by rw [wu64]; omega
 rw [hub]
 refine Yld.bind (P := fun p => p = (toA (av a / b), av a % b)) (Yld.rounds 16 (fun (k : Nat) (s : A16 × Int × Int) => s.2.2 = 15 - (k : Int) ∧ inD 4294967296 s.1.l ∧ 0 ≤ s.2.1 ∧ s.2.1 < b ∧ ds 4294967296 (fun i => dg a.l (16 - k + i)) k = ds 4294967296 (fun i => dg s.1.l (16 - k + i)) k * b + s.2.1) (by omega) ⟨by decide, zero_in, Int.le_refl _, hb.1, by simp [ds]⟩ ?_) ?_
 ·rintro k ⟨q, r, kx⟩ hk ⟨rfl, qin, r0, r1, hs⟩
  dsimp only at qin r0 r1 hs
  dsimp only [un3]
  refine Yld.ite (fun h => ?_) (fun h => ?_)
  ·have hk' : k < 16 := by have := of_decide_eq_true h; omega
   have et : (15 - (k : Int)).toNat = 15 - k := by omega
   have hd := ha (15 - k)
   refine Yld.idx (by omega) (by rw [A16.l_len]; omega) ?_
   simp only [idx_dg, et]
   have hu : IntKind.u64.wrap (dg a.l (15 - k)) = dg a.l (15 - k) := by rw [wu64]; omega
   have hr : IntKind.u64.wrap (r * 4294967296) = r * 4294967296 := by rw [wu64]; omega
   have hior : ior .u64 (r * 4294967296) (dg a.l (15 - k)) = r * 4294967296 + dg a.l (15 - k) := ior_add 32 (by omega) (by omega) (by rw [p32]; omega) hd.1 (by rw [p32]; omega) (by omega)
   rw [hu, hr, hior]
   obtain ⟨v, hv⟩ : ∃ v, v = r * 4294967296 + dg a.l (15 - k) := ⟨_, rfl⟩
   rw [← hv]
   have hv0 : 0 ≤ v := by omega
   have hd1 := Int.mul_ediv_add_emod v b
   have hm0 := Int.emod_nonneg v (show b ≠ 0 by omega)
   have hm1 := Int.emod_lt_of_pos v hb.1
   have hq0 : 0 ≤ v / b := Int.ediv_nonneg hv0 (by omega)
   have hq1 : v / b < 4294967296 := by rw [Int.ediv_lt_iff_lt_mul hb.1]; omega
   refine Yld.ln (Yld.quo (by omega) (Yld.idx (by omega) (by rw [A16.l_len]; omega) (Yld.rem (by omega) (Yld.some (.inl ⟨_, rfl, ?_, hk'⟩)))))
   rw [tdiv_pos hv0, tmod_pos hv0]
   have e1 : IntKind.u32.wrap (IntKind.u64.wrap (v / b)) = v / b := by simp only [wu32, wu64]; omega
   rw [e1]
   have ei : (15 - (k : Int)) = ((15 - k : Nat) : Int) := by omega
   dsimp only
   refine ⟨by rw [wi64]; omega, by rw [ei]; exact set_in qin (by omega) (by omega) (by omega), hm0, hm1, ?_⟩
   have ea : ∀ (f : Nat → Int), ds 4294967296 (fun i => f (16 - (k + 1) + i)) (k + 1) = f (15 - k) + 4294967296 * ds 4294967296 (fun i => f (16 - k + i)) k := fun f => by
    rw [ds_succ']
    have e1 : 16 - (k + 1) + 0 = 15 - k := by omega
    have e2 : ∀ i, 16 - (k + 1) + (i + 1) = 16 - k + i := fun i => by omega
    simp only [e1, e2]
   rw [ea (dg a.l), ea (dg (q.set (15 - (k : Int)) (v / b)).l), ei]
   have e3 : dg (q.set ((15 - k : Nat) : Int) (v / b)).l (15 - k) = v / b := by rw [set_dg (by omega) (by omega), Int.toNat_natCast, if_pos rfl]
   have e4 : ds 4294967296 (fun i => dg (q.set ((15 - k : Nat) : Int) (v / b)).l (16 - k + i)) k = ds 4294967296 (fun i => dg q.l (16 - k + i)) k := ds_congr fun i _ => by rw [set_dg (by omega) (by omega), Int.toNat_natCast, if_neg (by omega)]
   rw [e3, e4, hs]
   generalize v / b = Q at *
   generalize v % b = M at *
   grind
  ·have hk' : k = 16 := by have := of_decide_eq_false h; omega
   subst hk'
   refine Yld.some (.inr ⟨_, rfl, ?_⟩)
   have e1 : ∀ i, 16 - 16 + i = i := fun i => by omega
   simp only [e1] at hs
   have hs' : av a = av q * b + r := hs
   have hm := Int.emod_emod_of_dvd
   have hB : b ≠ 0 := by omega
   have e : av a = r + b * av q := by rw [hs', Int.mul_comm]; omega
   have q1 : av a / b = av q := by rw [e, Int.add_mul_ediv_left _ _ hB, Int.ediv_eq_zero_of_lt r0 r1, Int.zero_add]
   have q2 : av a % b = r := by rw [e, Int.add_mul_emod_self_left, Int.emod_eq_of_lt r0 r1]
   rw [q1, q2, toA_av qin]
 ·rintro ⟨q, r⟩ he
  dsimp only [un2]
  cases he
  refine Yld.some ?_
  have hm0 := Int.emod_nonneg (av a) (show b ≠ 0 by omega)
  have hm1 := Int.emod_lt_of_pos (av a) hb.1
  have : IntKind.u32.wrap (av a % b) = av a % b := by rw [wu32]; omega
  rw [this]
end Go.Proofs.YtcbbilehdaaffaaGreatDoor

namespace Go.Sk
set_option linter.unusedSimpArgs false
set_option linter.unusedVariables false
theorem A17.set_dg {w : A17} {i x : Int} (h0 : 0 ≤ i) (h1 : i < 17) (j : Nat) : dg (w.set i x).l j = if j = i.toNat then x else dg w.l j := by
 rw [A17.set_l, Go.Sk.dg_set (by rw [A17.l_len]; omega)]
theorem A17.set_in {w : A17} {i x : Int} (h : inD 4294967296 w.l) (h0 : 0 ≤ i) (h1 : i < 17) (hx : 0 ≤ x ∧ x < 4294967296) : inD 4294967296 (w.set i x).l := fun j => by
 rw [A17.set_dg h0 h1]
 split
 ·exact hx
 ·exact h j
def win (l : List Int) (j n : Nat) : Int := ds 4294967296 (fun i => dg l (j + i)) n
theorem win_succ (l : List Int) (j n : Nat) : win l j (n + 1) = win l j n + dg l (j + n) * 4294967296 ^ n := rfl
theorem win_nonneg {l : List Int} (h : inD 4294967296 l) (j n : Nat) : 0 ≤ win l j n := ds_nonneg (by decide) fun i _ => (h _).1
theorem win_lt {l : List Int} (h : inD 4294967296 l) (j n : Nat) : win l j n < 4294967296 ^ n := ds_lt (by decide) fun i _ => h _
theorem win_congr {l m : List Int} {j n : Nat} (h : ∀ i, j ≤ i → i < j + n → dg l i = dg m i) : win l j n = win m j n := ds_congr fun i hi => h _ (by omega) (by omega)
theorem win_div {l : List Int} (h : inD 4294967296 l) (j n k : Nat) : win l j (n + k) / 4294967296 ^ n = win l (j + n) k := by
 unfold win
 rw [ds_hi (by decide) fun i => h _]
 simp only [Nat.add_assoc]
theorem win_cons (l : List Int) (j n : Nat) : win l j (n + 1) = dg l j + 4294967296 * win l (j + 1) n := by
 unfold win
 rw [ds_succ']
 have e : ∀ i, j + (i + 1) = j + 1 + i := fun i => by omega
 have e2 : ds 4294967296 (fun i => dg l (j + (i + 1))) n = ds 4294967296 (fun i => dg l (j + 1 + i)) n := ds_congr fun i _ => by rw [e]
 rw [e2]
 rfl
structure Kn (B P v1 v2 V u2 u0 R t : Int) : Prop where
 P0 : 0 < P
 v10 : 2147483648 ≤ v1
 v11 : v1 < B
 v20 : 0 ≤ v2 ∧ v2 < B
 V0 : (v1 * B + v2) * P ≤ V
 V1 : V < (v1 * B + v2 + 1) * P
 u00 : 0 ≤ u0 ∧ u0 < B
 R0 : (u2 * B + u0) * P ≤ R
 R1 : R < (u2 * B + u0 + 1) * P
 Rt : t * V ≤ R
 tR : R < (t + 1) * V
 t0 : 0 ≤ t
 t1 : t < B
theorem Kn.up {B P v1 v2 V u2 u0 R t : Int} (k : Kn B P v1 v2 V u2 u0 R t) : t * (v1 * B + v2) ≤ u2 * B + u0 := by
 have h1 : t * ((v1 * B + v2) * P) ≤ t * V := Int.mul_le_mul_of_nonneg_left k.V0 k.t0
 have h2 : (t * (v1 * B + v2)) * P < (u2 * B + u0 + 1) * P := by
  have e : t * ((v1 * B + v2) * P) = (t * (v1 * B + v2)) * P := by grind
  rw [e] at h1
  have := k.Rt
  have := k.R1
  omega
 have := Int.lt_of_mul_lt_mul_right h2 (Int.le_of_lt k.P0)
 omega
theorem Kn.up1 {B P v1 v2 V u2 u0 R t : Int} (k : Kn B P v1 v2 V u2 u0 R t) : t * v1 ≤ u2 := by
 have h := k.up
 have h3 : 0 ≤ t * v2 := Int.mul_nonneg k.t0 k.v20.1
 have hB : 0 < B := by have := k.v20; omega
 have h4 : (t * v1) * B < (u2 + 1) * B := by
  have e : t * (v1 * B + v2) = (t * v1) * B + t * v2 := by grind
  rw [e] at h
  have := k.u00
  have e2 : (u2 + 1) * B = u2 * B + B := by grind
  omega
 have := Int.lt_of_mul_lt_mul_right h4 (Int.le_of_lt hB)
 omega
theorem Kn.u2lt {B P v1 v2 V u2 u0 R t : Int} (k : Kn B P v1 v2 V u2 u0 R t) : u2 < v1 * B + B := by
 have hB : 0 < B := by have := k.v20; omega
 have hP := k.P0
 have hV : 0 ≤ V := by
  have h1 : 0 ≤ (v1 * B + v2) * P := Int.mul_nonneg (by have := Int.mul_nonneg (show 0 ≤ v1 by have := k.v10; omega) (Int.le_of_lt hB); have := k.v20; omega) (Int.le_of_lt hP)
  have := k.V0
  omega
 have h1 : (t + 1) * V ≤ B * V := Int.mul_le_mul_of_nonneg_right (by have := k.t1; omega) hV
 have h2 : B * V ≤ B * ((v1 * B + v2 + 1) * P) := Int.mul_le_mul_of_nonneg_left (Int.le_of_lt k.V1) (Int.le_of_lt hB)
 have h3 : (v1 * B + v2 + 1) * P ≤ (v1 * B + B) * P := Int.mul_le_mul_of_nonneg_right (by have := k.v20; omega) (Int.le_of_lt hP)
 have h4 : B * ((v1 * B + v2 + 1) * P) ≤ B * ((v1 * B + B) * P) := Int.mul_le_mul_of_nonneg_left h3 (Int.le_of_lt hB)
 have h5 : u2 * B * P ≤ (u2 * B + u0) * P := Int.mul_le_mul_of_nonneg_right (by have := k.u00; omega) (Int.le_of_lt hP)
 have h6 : u2 * (B * P) < (v1 * B + B) * (B * P) := by
  have e1 : u2 * (B * P) = u2 * B * P := by grind
  have e2 : (v1 * B + B) * (B * P) = B * ((v1 * B + B) * P) := by grind
  rw [e1, e2]
  have := k.R0
  have := k.tR
  omega
 exact Int.lt_of_mul_lt_mul_right h6 (Int.le_of_lt (Int.mul_pos hB hP))
theorem Kn.fin {B P v1 v2 V u2 u0 R t d : Int} (k : Kn B P v1 v2 V u2 u0 R t) (hd0 : 0 ≤ d) (h : d * (v1 * B + v2) ≤ u2 * B + u0) (hd : d < B) : d ≤ t + 1 := by
 rcases (by omega : d ≤ t + 1 ∨ t + 1 ≤ d - 1) with g | g
 ·exact g
 ·have hB : 0 < B := by omega
  have hP := k.P0
  have hv1 := k.v10
  have h5 : B * P ≤ (v1 * B + v2) * P := Int.mul_le_mul_of_nonneg_right (by have h := Int.mul_le_mul_of_nonneg_right (show 1 ≤ v1 by omega) (Int.le_of_lt hB); have := k.v20; omega) (Int.le_of_lt hP)
  have hV0 := k.V0
  have hBP := Int.mul_pos hB hP
  have h1 : (t + 1) * V ≤ (d - 1) * V := Int.mul_le_mul_of_nonneg_right g (by omega)
  have h2 : d * V ≤ d * ((v1 * B + v2 + 1) * P) := Int.mul_le_mul_of_nonneg_left (Int.le_of_lt k.V1) hd0
  have h3 : d * (v1 * B + v2) * P ≤ (u2 * B + u0) * P := Int.mul_le_mul_of_nonneg_right h (Int.le_of_lt hP)
  have e : d * ((v1 * B + v2 + 1) * P) = d * (v1 * B + v2) * P + d * P := by grind
  have h4 : d * P < B * P := Int.mul_lt_mul_of_pos_right hd hP
  have e2 : (d - 1) * V = d * V - V := by grind
  have := k.R0
  have := k.tR
  omega
end Go.Sk
namespace Go.Proofs.YtcbbilehdaaffaaGreatDoor
open Go Go.Sk
set_option linter.unusedSimpArgs false
set_option linter.unusedVariables false
theorem guess_y {F : Nat} (hF : 18446744073709551616 < F) {v : A16} {u : A17} {n j : Nat} (hn : 2 ≤ n ∧ n ≤ 16) (hj : j + n ≤ 16) (hv : inD 4294967296 v.l) (hu : inD 4294967296 u.l) {P V R t : Int}
  (K : Kn 4294967296 P (dg v.l (n - 1)) (dg v.l (n - 2)) V (dg u.l (j + n) * 4294967296 + dg u.l (j + n - 1)) (dg u.l (j + n - 2)) R t) :
  Yld (w_guess_S F v (n : Int) (j : Int) u) fun d => t ≤ d ∧ d ≤ t + 1 ∧ 0 ≤ d ∧ d < 4294967296 := by
 unfold w_guess_S
 have hw0 : IntKind.i64.wrap ((j : Int) + (n : Int)) = ((j + n : Nat) : Int) := by rw [wi64]; omega
 have hw1 : IntKind.i64.wrap (((j + n : Nat) : Int) - 1) = ((j + n - 1 : Nat) : Int) := by rw [wi64]; omega
 have hw2 : IntKind.i64.wrap (((j + n : Nat) : Int) - 2) = ((j + n - 2 : Nat) : Int) := by rw [wi64]; omega
 have hw3 : IntKind.i64.wrap ((n : Int) - 1) = ((n - 1 : Nat) : Int) := by rw [wi64]; omega
 have hw4 : IntKind.i64.wrap ((n : Int) - 2) = ((n - 2 : Nat) : Int) := by rw [wi64]; omega
 simp only [hw0, hw1, hw2, hw3, hw4]
 refine Yld.idx (by omega) (by rw [A17.l_len]; omega) (Yld.idx (by omega) (by rw [A17.l_len]; omega) (Yld.idx (by omega) (by rw [A16.l_len]; omega) ?_))
 simp only [idx_dg, Int.toNat_natCast]
 have a1 := hu (j + n)
 have a2 := hu (j + n - 1)
 have a3 := hu (j + n - 2)
 have b1 := hv (n - 1)
 have b2 := hv (n - 2)
 generalize hx1 : dg u.l (j + n) = x1 at *
 generalize hx2 : dg u.l (j + n - 1) = x2 at *
 generalize hx3 : dg u.l (j + n - 2) = u0 at *
 generalize hy1 : dg v.l (n - 1) = v1 at *
 generalize hy2 : dg v.l (n - 2) = v2 at *
 have e1 : IntKind.u64.wrap ((IntKind.u64.wrap x1) * 4294967296) = x1 * 4294967296 := by simp only [wu64]; omega
 have e2 : IntKind.u64.wrap x2 = x2 := by rw [wu64]; omega
 have e3 : IntKind.u64.wrap v1 = v1 := by rw [wu64]; omega
 have hior : ior .u64 (x1 * 4294967296) x2 = x1 * 4294967296 + x2 := ior_add 32 (by omega) (by omega) (by rw [p32]; omega) a2.1 (by rw [p32]; omega) (by omega)
 rw [e1, e2, e3, hior]
 obtain ⟨u2, hu2⟩ : ∃ u2, u2 = x1 * 4294967296 + x2 := ⟨_, rfl⟩
 rw [← hu2] at K ⊢
 have hv1 := K.v10
 have h20 : 0 ≤ u2 := by omega
 have h21 : u2 < 18446744073709551616 := by omega
 have hup1 := K.up1
 have hup := K.up
 have hlt := K.u2lt
 have ht0 := K.t0
 have ht1 := K.t1
 have hd1 := Int.mul_ediv_add_emod u2 v1
 have hm0 := Int.emod_nonneg u2 (show v1 ≠ 0 by omega)
 have hm1 := Int.emod_lt_of_pos u2 (show 0 < v1 by omega)
 have hq1 : u2 / v1 ≤ u2 := Int.ediv_le_self _ h20
 have hqn : 0 ≤ v1 * (u2 / v1) := Int.mul_nonneg (by omega) (Int.ediv_nonneg h20 (by omega))
 have hqt : t ≤ u2 / v1 := by rw [Int.le_ediv_iff_mul_le (by omega)]; exact hup1
 refine Yld.quo (by omega) (Yld.rem (by omega) ?_)
 rw [tdiv_pos h20, tmod_pos h20]
 have e4 : IntKind.u64.wrap (u2 / v1) = u2 / v1 := by rw [wu64]; omega
 rw [e4]
 refine Yld.bind (P := fun d => t ≤ d ∧ d ≤ t + 1 ∧ 0 ≤ d ∧ d < 4294967296) (Yld.loop (fun (s : Int × Int) => t ≤ s.1 ∧ s.1 ≤ u2 ∧ 0 ≤ s.2 ∧ s.2 ≤ u2 ∧ v1 * s.1 + s.2 = u2) (fun s => s.1.toNat) ⟨hqt, hq1, hm0, by dsimp only; omega, hd1⟩ (by dsimp only; omega) ?_) (fun d hd => Yld.some hd)
 rintro ⟨d, r⟩ ⟨d0, d1, r0, r1, hs⟩
 dsimp only at d0 d1 r0 r1 hs
 dsimp only [un2]
 have hdn : 0 ≤ d := by omega
 have step : t ≤ d - 1 → r < 4294967296 → Yld (letN (IntKind.u64.wrap (r + v1)) fun x_12 => (some (.inl (IntKind.u64.wrap (d - 1), x_12)) : Option ((Int × Int) ⊕ Int))) fun o => (∃ s', o = .inl s' ∧ (t ≤ s'.1 ∧ s'.1 ≤ u2 ∧ 0 ≤ s'.2 ∧ s'.2 ≤ u2 ∧ v1 * s'.1 + s'.2 = u2) ∧ s'.1.toNat < d.toNat) ∨ ∃ t', o = .inr t' ∧ t ≤ t' ∧ t' ≤ t + 1 ∧ 0 ≤ t' ∧ t' < 4294967296 := fun g hr => by
  have e5 : IntKind.u64.wrap (r + v1) = r + v1 := by rw [wu64]; omega
  have e6 : IntKind.u64.wrap (d - 1) = d - 1 := by rw [wu64]; omega
  have e7 : v1 * (d - 1) + (r + v1) = u2 := by rw [Int.mul_sub]; omega
  have e8 : 0 ≤ v1 * (d - 1) := Int.mul_nonneg (by omega) (by omega)
  rw [e5, e6]
  exact Yld.ln (Yld.some (.inl ⟨_, rfl, ⟨g, by dsimp only; omega, by dsimp only; omega, by dsimp only; omega, e7⟩, by dsimp only; omega⟩))
 by_cases hr : r < 4294967296
 ·have hdr : decide (r < 4294967296) = true := decide_eq_true hr
  by_cases hd : 4294967296 ≤ d
  ·have hdd : decide (4294967296 ≤ d) = true := decide_eq_true hd
   rw [hdr, hdd]
   refine Yld.g0 rfl (Yld.g0 rfl (Yld.ift rfl ?_))
   exact step (by omega) hr
  ·have hdd : decide (4294967296 ≤ d) = false := decide_eq_false hd
   rw [hdr, hdd]
   refine Yld.g1 rfl (Yld.idx (by omega) (by rw [A16.l_len]; omega) (Yld.g1 rfl (Yld.idx (by omega) (by rw [A17.l_len]; omega) ?_)))
   simp only [idx_dg, Int.toNat_natCast, hx3, hy2, Bool.true_and, Bool.false_or]
   have e5 : IntKind.u64.wrap (r * 4294967296) = r * 4294967296 := by rw [wu64]; omega
   have e6 : IntKind.u64.wrap u0 = u0 := by rw [wu64]; omega
   have e7 : IntKind.u64.wrap v2 = v2 := by rw [wu64]; omega
   have hm := mul_bound (m := 4294967296) ⟨hdn, by omega⟩ b2
   have e8 : IntKind.u64.wrap (d * v2) = d * v2 := by rw [wu64]; omega
   have hior2 : ior .u64 (r * 4294967296) u0 = r * 4294967296 + u0 := ior_add 32 (by omega) (by omega) (by rw [p32]; omega) a3.1 (by rw [p32]; omega) (by omega)
   rw [e5, e6, e7, e8, hior2]
   have e9 : d * (v1 * 4294967296 + v2) = (v1 * d) * 4294967296 + d * v2 := by grind
   refine Yld.ite (fun h => ?_) (fun h => ?_)
   ·have h' := of_decide_eq_true h
    refine step ?_ hr
    rcases (by omega : d = t ∨ t ≤ d - 1) with e | e
    ·rw [← e, e9] at hup
     omega
    ·exact e
   ·have h' := of_decide_eq_false h
    exact Yld.some (.inr ⟨_, rfl, d0, K.fin hdn (by rw [e9]; omega) (by omega), hdn, by omega⟩)
 ·have hdr : decide (r < 4294967296) = false := decide_eq_false hr
  rw [hdr]
  refine Yld.g0 rfl (Yld.g0 rfl (Yld.iff rfl ?_))
  have hdB : d < 4294967296 := by
   rcases (by omega : d < 4294967296 ∨ 4294967296 ≤ d) with e | e
   ·exact e
   ·have := Int.mul_le_mul_of_nonneg_left e (show 0 ≤ v1 by omega)
    omega
  have hm := mul_bound (m := 4294967296) ⟨hdn, hdB⟩ b2
  have e9 : d * (v1 * 4294967296 + v2) = (v1 * d) * 4294967296 + d * v2 := by grind
  exact Yld.some (.inr ⟨_, rfl, d0, K.fin hdn (by rw [e9]; omega) hdB, hdn, hdB⟩)
theorem win_set {u : A17} {j k : Nat} {x : Int} (h : j + k < 17) : win (u.set ((j + k : Nat) : Int) x).l j (k + 1) = win u.l j k + x * 4294967296 ^ k := by
 rw [win_succ, A17.set_dg (by omega) (by omega), Int.toNat_natCast, if_pos rfl]
 congr 1
 exact win_congr fun i h1 h2 => by rw [A17.set_dg (by omega) (by omega), Int.toNat_natCast, if_neg (by omega)]
def SameOut (u w : A17) (j n : Nat) : Prop := ∀ i, (i < j ∨ j + n < i) → dg w.l i = dg u.l i
theorem take_y {F : Nat} (hF : 100 < F) {v : A16} {u : A17} {n j : Nat} (hn : n ≤ 16) (hj : j + n ≤ 16) (hv : inD 4294967296 v.l) (hu : inD 4294967296 u.l) {d : Int} (hd : 0 ≤ d ∧ d < 4294967296) :
  Yld (w_take_S F v (n : Int) (j : Int) d u) fun p => inD 4294967296 p.2.l ∧ SameOut u p.2 j n ∧ win u.l j (n + 1) + (if p.1 = true then 1 else 0) * 4294967296 ^ (n + 1) = win p.2.l j (n + 1) + d * win v.l 0 n := by
 unfold w_take_S
 have hw0 : IntKind.i64.wrap ((j : Int) + (n : Int)) = ((j + n : Nat) : Int) := by rw [wi64]; omega
 rw [hw0]
 refine Yld.bind (P := fun (p : A17 × Int × Int) => inD 4294967296 p.1.l ∧ (∀ i, (i < j ∨ j + n ≤ i) → dg p.1.l i = dg u.l i) ∧ (0 ≤ p.2.1 ∧ p.2.1 < 4294967296) ∧ (0 ≤ p.2.2 ∧ p.2.2 ≤ 1) ∧ win u.l j n + (p.2.1 + p.2.2) * 4294967296 ^ n = win p.1.l j n + d * win v.l 0 n)
  (Yld.rounds n (fun (k : Nat) (s : A17 × Int × Int × Int) => s.2.2.2 = (k : Int) ∧ inD 4294967296 s.1.l ∧ (∀ i, (i < j ∨ j + k ≤ i) → dg s.1.l i = dg u.l i) ∧ (0 ≤ s.2.1 ∧ s.2.1 < 4294967296) ∧ (0 ≤ s.2.2.1 ∧ s.2.2.1 ≤ 1) ∧ win u.l j k + (s.2.1 + s.2.2.1) * 4294967296 ^ k = win s.1.l j k + d * win v.l 0 k) (by omega) ⟨rfl, hu, fun i _ => rfl, ⟨Int.le_refl _, (by decide : (0 : Int) < 4294967296)⟩, ⟨Int.le_refl _, (by decide : (0 : Int) ≤ 1)⟩, by simp [win, ds]⟩ ?_) ?_
 ·rintro k ⟨w, c, b, kx⟩ hk ⟨rfl, win_, wo, ⟨c0, c1⟩, ⟨b0, b1⟩, hs⟩
  dsimp only at win_ wo c0 c1 b0 b1 hs
  dsimp only [un4]
  refine Yld.ite (fun h => ?_) (fun h => ?_)
  ·have hk' : k < n := by have := of_decide_eq_true h; omega
   have hwk : IntKind.i64.wrap ((j : Int) + (k : Int)) = ((j + k : Nat) : Int) := by rw [wi64]; omega
   rw [hwk]
   have hvk := hv k
   have huk := hu (j + k)
   have hwuk := wo (j + k) (.inr (Nat.le_refl _))
   have hm := mul_bound (m := 4294967296) hd hvk
   refine Yld.idx (by omega) (by rw [A16.l_len]; omega) ?_
   simp only [idx_dg, Int.toNat_natCast]
   refine Yld.lnE (d * dg v.l k) (by simp only [wu64]; rw [Int.emod_eq_of_lt (a := dg v.l k) (by omega) (by omega)]; omega) (Yld.idx (by omega) (by rw [A17.l_len]; omega) ?_)
   simp only [idx_dg, Int.toNat_natCast, hwuk]
   obtain ⟨p, hp⟩ : ∃ p, p = c + d * dg v.l k := ⟨_, rfl⟩
   have hp0 : 0 ≤ p ∧ p < 18446744073709551616 := by omega
   have hpw : IntKind.u64.wrap (c + d * dg v.l k) = p := by rw [wu64]; omega
   rw [hpw]
   generalize hU : dg u.l (j + k) = U at *
   refine Yld.lnE (p % 4294967296) (by rw [wu32]) ?_
   obtain ⟨τ, hτ⟩ : ∃ τ, τ = U - p % 4294967296 - b := ⟨_, rfl⟩
   refine Yld.ln (Yld.lnE (τ % 4294967296) (by simp only [wu32, wu64]; omega) (Yld.idx (by omega) (by rw [A17.l_len]; omega) (Yld.lnE (if τ < 0 then 1 else 0) (by simp only [wu64]; split <;> omega) (Yld.lnE (p / 4294967296) rfl (Yld.some (.inl ⟨_, rfl, ⟨by dsimp only; rw [wi64]; omega, A17.set_in win_ (by omega) (by omega) (by omega), fun i hi => ?_, ⟨by dsimp only; omega, by dsimp only; omega⟩, ⟨by dsimp only; split <;> omega, by dsimp only; split <;> omega⟩, ?_⟩, hk'⟩))))))
   ·dsimp only
    rw [A17.set_dg (by omega) (by omega), Int.toNat_natCast, if_neg (by omega)]
    exact wo i (by omega)
   ·dsimp only
    rw [win_set (by omega), win_succ, win_succ, hU, Nat.zero_add, Int.pow_succ]
    have e1 : d * dg v.l k = p - c := by omega
    have e2 : p = p % 4294967296 + p / 4294967296 * 4294967296 := by omega
    have e3 : U - p % 4294967296 - b = τ % 4294967296 - (if τ < 0 then 1 else 0) * 4294967296 := by rw [← hτ]; split <;> omega
    generalize p % 4294967296 = pl at *
    generalize p / 4294967296 = ph at *
    generalize (if τ < 0 then (1 : Int) else 0) = bo at *
    generalize τ % 4294967296 = tl at *
    have e4 : U = tl - bo * 4294967296 + pl + b := by omega
    have e5 : d * dg v.l k = pl + ph * 4294967296 - c := by omega
    have e6 : d * (win v.l 0 k + dg v.l k * 4294967296 ^ k) = d * win v.l 0 k + (d * dg v.l k) * 4294967296 ^ k := by grind
    rw [e6, e5, e4]
    grind
  ·have hk' : k = n := by have := of_decide_eq_false h; omega
   subst hk'
   exact Yld.some (.inr ⟨_, rfl, win_, wo, ⟨c0, c1⟩, ⟨b0, b1⟩, hs⟩)
 ·rintro ⟨w, c, b⟩ ⟨win_, wo, ⟨c0, c1⟩, ⟨b0, b1⟩, hs⟩
  dsimp only at win_ wo c0 c1 b0 b1 hs
  dsimp only [un3]
  have huk := hu (j + n)
  have hwuk := wo (j + n) (.inr (Nat.le_refl _))
  refine Yld.idx (by omega) (by rw [A17.l_len]; omega) ?_
  simp only [idx_dg, Int.toNat_natCast, hwuk]
  generalize hU : dg u.l (j + n) = U at *
  obtain ⟨τ, hτ⟩ : ∃ τ, τ = U - c - b := ⟨_, rfl⟩
  refine Yld.ln (Yld.lnE (τ % 4294967296) (by simp only [wu32, wu64]; omega) (Yld.idx (by omega) (by rw [A17.l_len]; omega) (Yld.lnE (if τ < 0 then 1 else 0) (by simp only [wu64]; split <;> omega) (Yld.some ⟨A17.set_in win_ (by omega) (by omega) (by omega), fun i hi => ?_, ?_⟩))))
  ·dsimp only
   rw [A17.set_dg (by omega) (by omega), Int.toNat_natCast, if_neg (by omega)]
   exact wo i (by omega)
  ·dsimp only
   rw [win_set (by omega), win_succ, hU, Int.pow_succ]
   have e3 : U - c - b = τ % 4294967296 - (if τ < 0 then 1 else 0) * 4294967296 := by rw [← hτ]; split <;> omega
   have e7 : (if decide ((if τ < 0 then (1 : Int) else 0) = 1) = true then (1 : Int) else 0) = if τ < 0 then 1 else 0 := by
    by_cases h : τ < 0
    ·rw [if_pos h]; rfl
    ·rw [if_neg h]; rfl
   rw [e7]
   generalize (if τ < 0 then (1 : Int) else 0) = bo at *
   generalize τ % 4294967296 = tl at *
   have e4 : U = tl - bo * 4294967296 + c + b := by omega
   rw [e4]
   grind
theorem give_y {F : Nat} (hF : 100 < F) {v : A16} {u : A17} {n j : Nat} (hn : n ≤ 16) (hj : j + n ≤ 16) (hv : inD 4294967296 v.l) (hu : inD 4294967296 u.l) :
  Yld (w_give_S F v (n : Int) (j : Int) u) fun w => inD 4294967296 w.l ∧ SameOut u w j n ∧ win w.l j (n + 1) = (win u.l j (n + 1) + win v.l 0 n) % 4294967296 ^ (n + 1) := by
 unfold w_give_S
 have hw0 : IntKind.i64.wrap ((j : Int) + (n : Int)) = ((j + n : Nat) : Int) := by rw [wi64]; omega
 rw [hw0]
 refine Yld.bind (P := fun (p : A17 × Int) => inD 4294967296 p.1.l ∧ (∀ i, (i < j ∨ j + n ≤ i) → dg p.1.l i = dg u.l i) ∧ (0 ≤ p.2 ∧ p.2 ≤ 1) ∧ win p.1.l j n + p.2 * 4294967296 ^ n = win u.l j n + win v.l 0 n)
  (Yld.rounds n (fun (k : Nat) (s : A17 × Int × Int) => s.2.2 = (k : Int) ∧ inD 4294967296 s.1.l ∧ (∀ i, (i < j ∨ j + k ≤ i) → dg s.1.l i = dg u.l i) ∧ (0 ≤ s.2.1 ∧ s.2.1 ≤ 1) ∧ win s.1.l j k + s.2.1 * 4294967296 ^ k = win u.l j k + win v.l 0 k) (by omega) ⟨rfl, hu, fun i _ => rfl, ⟨Int.le_refl _, (by decide : (0 : Int) ≤ 1)⟩, by simp [win, ds]⟩ ?_) ?_
 ·rintro k ⟨w, c, kx⟩ hk ⟨rfl, win_, wo, ⟨c0, c1⟩, hs⟩
  dsimp only at win_ wo c0 c1 hs
  dsimp only [un3]
  refine Yld.ite (fun h => ?_) (fun h => ?_)
  ·have hk' : k < n := by have := of_decide_eq_true h; omega
   have hwk : IntKind.i64.wrap ((j : Int) + (k : Int)) = ((j + k : Nat) : Int) := by rw [wi64]; omega
   rw [hwk]
   have hvk := hv k
   have huk := hu (j + k)
   have hwuk := wo (j + k) (.inr (Nat.le_refl _))
   refine Yld.idx (by omega) (by rw [A17.l_len]; omega) (Yld.idx (by omega) (by rw [A16.l_len]; omega) ?_)
   simp only [idx_dg, Int.toNat_natCast, hwuk]
   generalize hU : dg u.l (j + k) = U at *
   generalize hV : dg v.l k = V at *
   have e0 : IntKind.u64.wrap (c + (IntKind.u64.wrap ((IntKind.u64.wrap U) + (IntKind.u64.wrap V)))) = c + (U + V) := by simp only [wu64]; omega
   obtain ⟨p, hp⟩ : ∃ p, p = c + (U + V) := ⟨_, rfl⟩
   refine Yld.lnE p (by rw [e0, hp]) (Yld.idx (by omega) (by rw [A17.l_len]; omega) (Yld.lnE p (by rw [e0, hp]) ?_))
   rw [wu32]
   refine Yld.some (.inl ⟨_, rfl, ⟨by dsimp only; rw [wi64]; omega, A17.set_in win_ (by omega) (by omega) (by omega), fun i hi => ?_, ⟨by dsimp only; omega, by dsimp only; omega⟩, ?_⟩, hk'⟩)
   ·dsimp only
    rw [A17.set_dg (by omega) (by omega), Int.toNat_natCast, if_neg (by omega)]
    exact wo i (by omega)
   ·dsimp only
    rw [win_set (by omega), win_succ, win_succ, hU, Nat.zero_add, hV, Int.pow_succ]
    have e2 : p = p % 4294967296 + p / 4294967296 * 4294967296 := by omega
    generalize p % 4294967296 = pl at *
    generalize p / 4294967296 = ph at *
    have e4 : U = pl + ph * 4294967296 - c - V := by omega
    rw [e4]
    grind
  ·have hk' : k = n := by have := of_decide_eq_false h; omega
   subst hk'
   exact Yld.some (.inr ⟨_, rfl, win_, wo, ⟨c0, c1⟩, hs⟩)
 ·rintro ⟨w, c⟩ ⟨win_, wo, ⟨c0, c1⟩, hs⟩
  dsimp only at win_ wo c0 c1 hs
  dsimp only [un2]
  have huk := hu (j + n)
  have hwuk := wo (j + n) (.inr (Nat.le_refl _))
  refine Yld.idx (by omega) (by rw [A17.l_len]; omega) (Yld.idx (by omega) (by rw [A17.l_len]; omega) ?_)
  simp only [idx_dg, Int.toNat_natCast, hwuk]
  generalize hU : dg u.l (j + n) = U at *
  have e0 : IntKind.u32.wrap (U + IntKind.u32.wrap c) = (U + c) % 4294967296 := by simp only [wu32]; omega
  rw [e0]
  refine Yld.some ⟨A17.set_in win_ (by omega) (by omega) (by omega), fun i hi => ?_, ?_⟩
  ·rw [A17.set_dg (by omega) (by omega), Int.toNat_natCast, if_neg (by omega)]
   exact wo i (by omega)
  ·rw [win_set (by omega), win_succ, hU, Int.pow_succ]
   have e2 : U + c = (U + c) % 4294967296 + (U + c) / 4294967296 * 4294967296 := by omega
   have hpw : (0 : Int) < 4294967296 ^ n := Int.pow_pos (by decide)
   have hlo := win_nonneg win_ j n
   have hhi := win_lt win_ j n
   have hx0 : 0 ≤ (U + c) % 4294967296 ∧ (U + c) % 4294967296 < 4294967296 := by omega
   generalize (U + c) % 4294967296 = x at *
   generalize (U + c) / 4294967296 = y at *
   have e3 : win u.l j n + U * 4294967296 ^ n + win v.l 0 n = (win w.l j n + x * 4294967296 ^ n) + 4294967296 ^ n * 4294967296 * y := by
    have e4 : U = x + y * 4294967296 - c := by omega
    rw [e4]
    grind
   have h1 : x * 4294967296 ^ n ≤ 4294967295 * 4294967296 ^ n := Int.mul_le_mul_of_nonneg_right (by omega) (by omega)
   have h2 : 0 ≤ x * 4294967296 ^ n := Int.mul_nonneg hx0.1 (by omega)
   rw [e3, Int.add_mul_emod_self_left, Int.emod_eq_of_lt (by omega) (by omega)]
end Go.Proofs.YtcbbilehdaaffaaGreatDoor

namespace Go.Sk
set_option linter.unusedSimpArgs false
set_option linter.unusedVariables false
theorem one_inD' {x : Int} (h : 0 ≤ x ∧ x < 4294967296) : inD 4294967296 [x] := fun i => by
 cases i with
 | zero => exact h
 | succ i => exact ⟨Int.le_refl _, (by decide : (0 : Int) < 4294967296)⟩
theorem div_mod_of' {A B q r : Int} (h : A = q * B + r) (h0 : 0 ≤ r) (h1 : r < B) : A / B = q ∧ A % B = r := by
 have hB : B ≠ 0 := by omega
 have e : A = r + B * q := by rw [h, Int.mul_comm]; omega
 constructor
 ·rw [e, Int.add_mul_ediv_left _ _ hB, Int.ediv_eq_zero_of_lt h0 h1, Int.zero_add]
 ·rw [e, Int.add_mul_emod_self_left, Int.emod_eq_of_lt h0 h1]
def a17 (w : A16) (x : Int) : A17 := ⟨w.a0, w.a1, w.a2, w.a3, w.a4, w.a5, w.a6, w.a7, w.a8, w.a9, w.a10, w.a11, w.a12, w.a13, w.a14, w.a15, x⟩
def a16 (u : A17) : A16 := ⟨u.a0, u.a1, u.a2, u.a3, u.a4, u.a5, u.a6, u.a7, u.a8, u.a9, u.a10, u.a11, u.a12, u.a13, u.a14, u.a15⟩
theorem a17_l (w : A16) (x : Int) : (a17 w x).l = w.l ++ [x] := rfl
theorem a16_l (u : A17) : (a16 u).l = u.l.take 16 := rfl
theorem win0 (l : List Int) (n : Nat) : win l 0 n = ds 4294967296 (dg l) n := ds_congr fun i _ => by rw [Nat.zero_add]
theorem win_top {l : List Int} {j n k : Nat} (h : ∀ i, j + n ≤ i → dg l i = 0) (hk : n ≤ k) : win l j k = win l j n := ds_top (fun i hi => h _ (by omega)) hk
theorem win_dig {l : List Int} (h : inD 4294967296 l) {n i : Nat} (hl : l.length ≤ n) : dg l i = win l 0 n / 4294967296 ^ i % 4294967296 := by
 have e : win l 0 n = win l 0 (n + (i + 1)) := (win_top (fun k hk => dg_ge (by omega)) (by omega)).symm
 rw [e, win0]
 exact (ds_dig (b := 4294967296) (by decide) (by omega) h).symm
theorem win_zero {l : List Int} (h : inD 4294967296 l) {n k i : Nat} (hl : l.length ≤ n) (hv : win l 0 n < 4294967296 ^ k) (hi : k ≤ i) : dg l i = 0 := by
 have h1 := win_nonneg h 0 n
 have h2 := pow_mono (b := 4294967296) (by decide) hi
 rw [win_dig h hl, Int.ediv_eq_zero_of_lt h1 (by omega)]
 rfl
theorem win3 (l : List Int) (j m : Nat) : win l j (m + 3) = win l j m + (dg l (j + m) + 4294967296 * (dg l (j + m + 1) + 4294967296 * dg l (j + m + 2))) * 4294967296 ^ m := by
 rw [win_succ, win_succ, win_succ]
 have e1 : (4294967296 : Int) ^ (m + 1) = 4294967296 ^ m * 4294967296 := Int.pow_succ _ _
 have e2 : (4294967296 : Int) ^ (m + 1 + 1) = 4294967296 ^ m * 4294967296 * 4294967296 := by rw [Int.pow_succ, e1]
 rw [show m + 2 = m + 1 + 1 from rfl, e1, e2]
 show win l j m + dg l (j + m) * 4294967296 ^ m + dg l (j + m + 1) * (4294967296 ^ m * 4294967296) + dg l (j + m + 2) * (4294967296 ^ m * 4294967296 * 4294967296) = _
 grind
theorem win2 (l : List Int) (j m : Nat) : win l j (m + 2) = win l j m + (dg l (j + m) + 4294967296 * dg l (j + m + 1)) * 4294967296 ^ m := by
 rw [win_succ, win_succ]
 have e1 : (4294967296 : Int) ^ (m + 1) = 4294967296 ^ m * 4294967296 := Int.pow_succ _ _
 rw [e1]
 show win l j m + dg l (j + m) * 4294967296 ^ m + dg l (j + m + 1) * (4294967296 ^ m * 4294967296) = _
 grind
theorem MM32 : MM = 4294967296 ^ 16 := rfl
theorem pw_pos (n : Nat) : (0 : Int) < 4294967296 ^ n := Int.pow_pos (by decide)
theorem norm_of {Bv x : Int} {m s : Nat} (hx : 0 < x ∧ x < 4294967296) (hs : (s : Int) = 32 - blen x) (h0 : x * 4294967296 ^ m ≤ Bv) (h1 : Bv < (x + 1) * 4294967296 ^ m) : s ≤ 31 ∧ 2147483648 * 4294967296 ^ m ≤ Bv * 2 ^ s ∧ Bv * 2 ^ s < 4294967296 ^ (m + 1) := by
 obtain ⟨b1, b2, b3⟩ := blen_spec hx.1
 have b4 := blen_le (m := x) (k := 32) (by rw [p32]; exact hx.2)
 have hp := pow2_pos s
 have hq := pw_pos m
 refine ⟨by omega, ?_, ?_⟩
 ·have e : (2147483648 : Int) = 2 ^ ((blen x).toNat - 1) * 2 ^ s := by
   rw [← Int.pow_add]
   have : (blen x).toNat - 1 + s = 31 := by omega
   rw [this]; decide
  have g1 : 2 ^ ((blen x).toNat - 1) * 2 ^ s ≤ x * 2 ^ s := Int.mul_le_mul_of_nonneg_right b2 (by omega)
  have g2 : 2147483648 * 4294967296 ^ m ≤ x * 2 ^ s * 4294967296 ^ m := Int.mul_le_mul_of_nonneg_right (by omega) (by omega)
  have g3 : x * 4294967296 ^ m * 2 ^ s ≤ Bv * 2 ^ s := Int.mul_le_mul_of_nonneg_right h0 (by omega)
  have e2 : x * 4294967296 ^ m * 2 ^ s = x * 2 ^ s * 4294967296 ^ m := by grind
  omega
 ·have e : (4294967296 : Int) = 2 ^ (blen x).toNat * 2 ^ s := by
   rw [← Int.pow_add]
   have : (blen x).toNat + s = 32 := by omega
   rw [this]; decide
  have g1 : (x + 1) * 2 ^ s ≤ 2 ^ (blen x).toNat * 2 ^ s := Int.mul_le_mul_of_nonneg_right (by omega) (by omega)
  have g2 : (x + 1) * 2 ^ s * 4294967296 ^ m ≤ 4294967296 * 4294967296 ^ m := Int.mul_le_mul_of_nonneg_right (by omega) (by omega)
  have g3 : Bv * 2 ^ s < (x + 1) * 4294967296 ^ m * 2 ^ s := Int.mul_lt_mul_of_pos_right h1 hp
  have e2 : (x + 1) * 4294967296 ^ m * 2 ^ s = (x + 1) * 2 ^ s * 4294967296 ^ m := by grind
  rw [Int.pow_succ, Int.mul_comm (4294967296 ^ m)]
  omega
theorem kn_of {v : A16} {u : A17} {m j : Nat} {V R t : Int} (hv : inD 4294967296 v.l) (hu : inD 4294967296 u.l) (hV : V = win v.l 0 (m + 2)) (hV2 : 2147483648 * 4294967296 ^ (m + 1) ≤ V) (hR : R = win u.l j (m + 3)) (hRV : R < 4294967296 * V) (ht : t = R / V) :
  Kn 4294967296 (4294967296 ^ m) (dg v.l (m + 1)) (dg v.l m) V (dg u.l (j + m + 2) * 4294967296 + dg u.l (j + m + 1)) (dg u.l (j + m)) R t := by
 have hq := pw_pos m
 have hVp : 0 < V := by have := pw_pos (m + 1); omega
 have w2 := win2 v.l 0 m
 have w3 := win3 u.l j m
 rw [Nat.zero_add] at w2
 rw [← hV] at w2
 rw [← hR] at w3
 have l2 := win_nonneg hv 0 m
 have l3 := win_nonneg hu j m
 have g2 := win_lt hv 0 m
 have g3 := win_lt hu j m
 have a1 := hv m
 have a2 := hv (m + 1)
 have a3 := hu (j + m)
 have a4 := hu (j + m + 1)
 have a5 := hu (j + m + 2)
 have hR0 : 0 ≤ R := by rw [hR]; exact win_nonneg hu _ _
 have e1 : dg v.l m + 4294967296 * dg v.l (m + 1) = dg v.l (m + 1) * 4294967296 + dg v.l m := by omega
 have e2 : dg u.l (j + m) + 4294967296 * (dg u.l (j + m + 1) + 4294967296 * dg u.l (j + m + 2)) = (dg u.l (j + m + 2) * 4294967296 + dg u.l (j + m + 1)) * 4294967296 + dg u.l (j + m) := by omega
 rw [e1] at w2
 rw [e2] at w3
 have hpp : (4294967296 : Int) ^ (m + 1) = 4294967296 ^ m * 4294967296 := Int.pow_succ _ _
 refine ⟨hq, ?_, a2.2, a1, by omega, by rw [Int.add_mul (_ + _) 1]; omega, a3, by omega, by rw [Int.add_mul (_ + _) 1]; omega, by rw [ht]; exact Int.ediv_mul_le _ (by omega), by rw [ht]; exact Int.lt_ediv_add_one_mul_self _ hVp, by rw [ht]; exact Int.ediv_nonneg hR0 (by omega), by rw [ht, Int.ediv_lt_iff_lt_mul hVp]; exact hRV⟩
 rcases (by omega : 2147483648 ≤ dg v.l (m + 1) ∨ dg v.l (m + 1) + 1 ≤ 2147483648) with g | g
 ·exact g
 ·have h1 : (dg v.l (m + 1) + 1) * (4294967296 ^ m * 4294967296) ≤ 2147483648 * (4294967296 ^ m * 4294967296) := Int.mul_le_mul_of_nonneg_right g (by omega)
  have h2 : (dg v.l m + 1) * 4294967296 ^ m ≤ 4294967296 * 4294967296 ^ m := Int.mul_le_mul_of_nonneg_right (by omega) (by omega)
  have e3 : (dg v.l (m + 1) * 4294967296 + dg v.l m) * 4294967296 ^ m = dg v.l (m + 1) * (4294967296 ^ m * 4294967296) + dg v.l m * 4294967296 ^ m := by grind
  have e4 : (dg v.l (m + 1) + 1) * (4294967296 ^ m * 4294967296) = dg v.l (m + 1) * (4294967296 ^ m * 4294967296) + 4294967296 ^ m * 4294967296 := by grind
  have e5 : (dg v.l m + 1) * 4294967296 ^ m = dg v.l m * 4294967296 ^ m + 4294967296 ^ m := by grind
  omega
end Go.Sk
namespace Go.Proofs.YtcbbilehdaaffaaGreatDoor
open Go Go.Sk
set_option linter.unusedSimpArgs false
set_option linter.unusedVariables false
theorem lz_y (F : Nat) {x : Int} (h0 : 0 ≤ x) (h1 : x < 4294967296) : bits_LeadingZeros32_S F x = some (32 - blen x) := by
 refine Yld.eq ?_
 unfold bits_LeadingZeros32_S
 refine Yld.bindE (Len32_y F h0 h1) (Yld.some ?_)
 have b4 := blen_le (m := x) (k := 32) (by rw [p32]; exact h1)
 have b5 := blen_nonneg x
 rw [wi64]; omega
theorem digitstep_y {F : Nat} (hF : 18446744073709551616 < F) {v : A16} {u : A17} {m j : Nat} {V R t : Int} (hm : m + 2 ≤ 16) (hj : j + (m + 2) ≤ 16) (hv : inD 4294967296 v.l) (hu : inD 4294967296 u.l) (hV : V = win v.l 0 (m + 2)) (hV2 : 2147483648 * 4294967296 ^ (m + 1) ≤ V) (hR : R = win u.l j (m + 3)) (hRV : R < 4294967296 * V) (ht : t = R / V) {β : Type} {k : A17 → Int → Option β} {Q : β → Prop} (hk : ∀ w, inD 4294967296 w.l → SameOut u w j (m + 2) → win w.l j (m + 3) = R - t * V → Yld (k w t) Q) :
  Yld (Option.bind (w_guess_S F v ((m + 2 : Nat) : Int) (j : Int) u) (fun x_22 => Option.bind (Option.bind (w_take_S F v ((m + 2 : Nat) : Int) (j : Int) x_22 u) (un2 fun x_25 x_26 => if x_25 = true then (Option.bind (w_give_S F v ((m + 2 : Nat) : Int) (j : Int) x_26) (fun x_27 => some (x_27, IntKind.u64.wrap (x_22 - 1)))) else (some (x_26, x_22)))) (un2 k))) Q := by
 have K := kn_of hv hu hV hV2 hR hRV ht
 have hVB : V < 4294967296 ^ (m + 3) := by
  have h1 := win_lt hv 0 (m + 2)
  have h2 := pow_mono (b := 4294967296) (by decide) (show m + 2 ≤ m + 3 by omega)
  omega
 have hVp : 0 < V := by have := pw_pos (m + 1); omega
 refine Yld.bind (guess_y hF (n := m + 2) (j := j) (by omega) hj hv hu (P := 4294967296 ^ m) (V := V) (R := R) (t := t) ?_) ?_
 ·have e1 : m + 2 - 1 = m + 1 := by omega
  have e2 : m + 2 - 2 = m := by omega
  have e3 : j + (m + 2) = j + m + 2 := by omega
  have e4 : j + (m + 2) - 1 = j + m + 1 := by omega
  have e5 : j + (m + 2) - 2 = j + m := by omega
  rw [e1, e2, e4, e5, e3]
  exact K
 ·rintro d ⟨d0, d1, d2, d3⟩
  have ht1 := K.t1
  have ht0 := K.t0
  have hRt := K.Rt
  have hRt1 := K.tR
  have e9 : (t + 1) * V = t * V + V := by grind
  rw [e9] at hRt1
  refine Yld.bind (P := fun p => p.2 = t ∧ inD 4294967296 p.1.l ∧ SameOut u p.1 j (m + 2) ∧ win p.1.l j (m + 3) = R - t * V) (Yld.bind (take_y (by omega) (n := m + 2) (j := j) hm hj hv hu ⟨d2, d3⟩) ?_) ?_
  ·rintro ⟨bw, w⟩ ⟨win_, wo, hs⟩
   dsimp only at win_ wo hs
   dsimp only [un2]
   rw [← hV] at hs
   have hs' : R + (if bw = true then 1 else 0) * 4294967296 ^ (m + 3) = win w.l j (m + 3) + d * V := by rw [hR]; exact hs
   clear hs
   have w0 := win_nonneg win_ j (m + 3)
   have w1 := win_lt win_ j (m + 3)
   rcases (by omega : d = t ∨ d = t + 1) with e | e
   ·subst e
    cases bw with
    | true =>
     simp only [if_true] at hs'
     omega
    | false =>
     refine Yld.iff rfl (Yld.some ⟨rfl, win_, wo, ?_⟩)
     simp only [Bool.false_eq_true, if_false] at hs'
     dsimp only
     omega
   ·subst e
    rw [e9] at hs'
    cases bw with
    | false =>
     simp only [Bool.false_eq_true, if_false] at hs'
     omega
    | true =>
     simp only [if_true] at hs'
     refine Yld.ift rfl (Yld.bind (give_y (by omega) (n := m + 2) (j := j) hm hj hv win_) ?_)
     rintro z ⟨zin, zo, hz⟩
     have hz' : win z.l j (m + 3) = (win w.l j (m + 3) + V) % 4294967296 ^ (m + 3) := by rw [hV]; exact hz
     have e10 : win w.l j (m + 3) + V = (R - t * V) + 4294967296 ^ (m + 3) * 1 := by omega
     rw [e10, Int.add_mul_emod_self_left, Int.emod_eq_of_lt (by omega) (by omega)] at hz'
     refine Yld.some ⟨?_, zin, fun i hi => by rw [zo i hi, wo i hi], hz'⟩
     dsimp only
     rw [wu64]; omega
  ·rintro ⟨w, d'⟩ ⟨rfl, h1, h2, h3⟩
   exact hk w h1 h2 h3
theorem quotient_y {F : Nat} (hF : 18446744073709551616 < F) {a b : A16} (ha : inD 4294967296 a.l) (hb : inD 4294967296 b.l) (h0 : av b ≠ 0) : w_quotient_S F a b = some (toA (av a / av b), toA (av a % av b)) := by
 refine Yld.eq ?_
 have hb0 := (av_range hb).1
 have ha0 := (av_range ha).1
 have hbp : 0 < av b := by omega
 unfold w_quotient_S
 refine Yld.bind (size_y (by omega)) ?_
 rintro nb ⟨nb0, nb1, nbz, nbt⟩
 refine Yld.bind (size_y (by omega)) ?_
 rintro na ⟨na0, na1, naz, nat⟩
 refine Yld.bindE (order_y (by omega) ha hb) ?_
 obtain ⟨m, rfl⟩ : ∃ m : Nat, nb = m := ⟨nb.toNat, by omega⟩
 obtain ⟨l, rfl⟩ : ∃ l : Nat, na = l := ⟨na.toNat, by omega⟩
 rw [Int.toNat_natCast] at nbz nbt naz nat
 refine Yld.ite (fun h => ?_) (fun h => ?_)
 ·have h' := of_decide_eq_true h
  have hlt : av a < av b := by
   rcases (by omega : av a < av b ∨ ¬ av a < av b) with g | g
   ·exact g
   ·rw [if_neg g] at h'; split at h' <;> omega
  refine Yld.some ?_
  rw [Int.ediv_eq_zero_of_lt ha0 hlt, Int.emod_eq_of_lt ha0 hlt, toA_av ha, ← zero_eq]
 ·have h' := of_decide_eq_false h
  have hge : av b ≤ av a := by
   rcases (by omega : av a < av b ∨ av b ≤ av a) with g | g
   ·rw [if_pos g] at h'; omega
   ·exact g
  clear h h'
  have hbm : av b = ds 4294967296 (dg b.l) m := ds_ext (by omega) fun i h1 h2 => nbz i h1 h2
  have ham : av a = ds 4294967296 (dg a.l) l := ds_ext (by omega) fun i h1 h2 => naz i h1 h2
  refine Yld.ite (fun h => ?_) (fun h => ?_)
  ·have h1 : m = 1 := by have := of_decide_eq_true h; omega
   subst h1
   have e1 : av b = b.a0 := by rw [hbm]; simp [ds]; rfl
   have hb1 := hb 0
   have e2 : dg b.l 0 = b.a0 := rfl
   rw [e2] at hb1
   refine Yld.bindE (short_y (by omega) ha (b := b.a0) (by omega)) ?_
   dsimp only [un2]
   refine Yld.ln (Yld.some ?_)
   rw [e1]
   congr 1
   have hm0 := Int.emod_nonneg (av a) (show b.a0 ≠ 0 by omega)
   have hm1 := Int.emod_lt_of_pos (av a) (show 0 < b.a0 by omega)
   refine eq_toA (in_two (a := av a % b.a0) (b := 0) ⟨hm0, by omega⟩ ⟨Int.le_refl _, by decide⟩) ?_
   rw [av_two]
   omega
  ·have h1 : m ≠ 1 := by have := of_decide_eq_false h; omega
   clear h
   have hm0 : m ≠ 0 := by
    rintro rfl
    rw [hbm] at hbp
    exact absurd hbp (by simp [ds])
   obtain ⟨m, rfl⟩ : ∃ m', m = m' + 2 := ⟨m - 2, by omega⟩
   have hml : m + 2 ≤ l := by
    rcases Nat.lt_or_ge l (m + 2) with g | g
    ·have g1 := ds_lt (b := 4294967296) (by decide) (f := dg a.l) (n := l) fun i _ => ha i
     have g2 := nbt (by omega)
     have e3 : m + 2 - 1 = m + 1 := by omega
     rw [e3] at g2
     have g3 := hb (m + 1)
     have g4 := ds_nonneg (b := 4294967296) (by decide) (f := dg b.l) (n := m + 1) fun i _ => (hb i).1
     have g5 : 1 * (4294967296 : Int) ^ (m + 1) ≤ dg b.l (m + 1) * 4294967296 ^ (m + 1) := Int.mul_le_mul_of_nonneg_right (by omega) (Int.le_of_lt (pw_pos _))
     have g6 := pow_mono (b := 4294967296) (by decide) (show l ≤ m + 1 by omega)
     rw [hbm, ham, ds_succ] at hge
     omega
    ·exact g
   have hw1 : IntKind.i64.wrap (((m + 2 : Nat) : Int) - 1) = ((m + 1 : Nat) : Int) := by rw [wi64]; omega
   have hwl : IntKind.i64.wrap ((l : Int) - ((m + 2 : Nat) : Int)) = ((l - (m + 2) : Nat) : Int) := by rw [wi64]; omega
   rw [hw1]
   refine Yld.idx (by omega) (by rw [A16.l_len]; omega) ?_
   simp only [idx_dg, Int.toNat_natCast]
   have hx := hb (m + 1)
   have hxt : dg b.l (m + 1) ≠ 0 := by
    have g2 := nbt (by omega)
    have e3 : m + 2 - 1 = m + 1 := by omega
    rw [e3] at g2
    exact g2
   generalize hxx : dg b.l (m + 1) = x at *
   refine Yld.bindE (lz_y F hx.1 hx.2) ?_
   have b4 := blen_le (m := x) (k := 32) (by rw [p32]; exact hx.2)
   obtain ⟨s, hs⟩ : ∃ s : Nat, (s : Int) = 32 - blen x := ⟨(32 - blen x).toNat, by omega⟩
   rw [← hs]
   have hlo : ds 4294967296 (dg b.l) (m + 1) < 4294967296 ^ (m + 1) := ds_lt (by decide) fun i _ => hb i
   have hlo0 := ds_nonneg (b := 4294967296) (by decide) (f := dg b.l) (n := m + 1) fun i _ => (hb i).1
   have hbs : av b = ds 4294967296 (dg b.l) (m + 1) + x * 4294967296 ^ (m + 1) := by rw [hbm, ds_succ, hxx]
   obtain ⟨hs31, hn1, hn2⟩ := norm_of (Bv := av b) (x := x) (m := m + 1) (s := s) ⟨by omega, hx.2⟩ hs (by omega) (by rw [Int.add_mul x 1]; omega)
   refine Yld.bind (up_y (by omega) hb hs31) ?_
   rintro ⟨v, cv⟩ ⟨vin, cv0, cv1, vs⟩
   dsimp only at vin cv0 cv1 vs
   refine Yld.bind (up_y (by omega) ha hs31) ?_
   rintro ⟨w, cw⟩ ⟨win_, cw0, cw1, ws⟩
   dsimp only at win_ cw0 cw1 ws
   dsimp only [un2]
   have hp2 := pow2_pos s
   have hp31 := pow2_31 hs31
   have hvr := av_range vin
   have hcv : cv = 0 := by
    have g1 := pow_mono (b := 4294967296) (by decide) (show m + 1 + 1 ≤ 16 by omega)
    rw [← MM32] at g1
    rcases (by omega : cv = 0 ∨ 1 ≤ cv) with g | g
    ·exact g
    ·have := Int.mul_le_mul_of_nonneg_right g (show 0 ≤ MM by have := MM_pos; omega)
     omega
   subst hcv
   rw [Int.zero_mul, Int.add_zero] at vs
   obtain ⟨V, hVd⟩ : ∃ V, V = av v := ⟨_, rfl⟩
   have hVs : V = av b * 2 ^ s := by rw [hVd, vs]
   have hVw : V = win v.l 0 (m + 2) := by
    have e1 : V = win v.l 0 16 := by rw [hVd, win0]; rfl
    rw [e1]
    refine win_top (fun i hi => win_zero vin (n := 16) (k := m + 2) (by rw [A16.l_len]; omega) ?_ (by omega)) (by omega)
    rw [← e1, hVs]; exact hn2
   have hVp : 0 < V := by rw [hVs]; exact Int.mul_pos hbp hp2
   rw [hwl]
   obtain ⟨J, hJ⟩ : ∃ J, J = l - (m + 2) := ⟨_, rfl⟩
   rw [← hJ]
   have hcw : cw < 4294967296 := by omega
   show Yld (Option.bind (iter F _ (A16.zero, a17 w cw, (J : Int))) _) _
   have uin0 : inD 4294967296 (a17 w cw).l := fun i => by
    rw [a17_l, dg_append]
    split
    ·exact win_ i
    ·exact one_inD' ⟨cw0, hcw⟩ _
   obtain ⟨u0, hu0⟩ : ∃ u0, u0 = a17 w cw := ⟨_, rfl⟩
   rw [← hu0] at uin0 ⊢
   have hU : win u0.l 0 17 = av a * 2 ^ s := by
    rw [win_succ, ← ws, MM32]
    have e1 : win u0.l 0 16 = av w := by
     rw [hu0, win0]
     exact ds_congr fun i hi => by rw [a17_l, dg_append, if_pos (by rw [A16.l_len]; exact hi)]
    have e2 : dg u0.l (0 + 16) = cw := by rw [hu0]; rfl
    rw [e1, e2]
   have hUl : win u0.l 0 17 < 4294967296 ^ (J + 1) * (4294967296 ^ (m + 1) * 2 ^ s) := by
    have g1 := ds_lt (b := 4294967296) (by decide) (f := dg a.l) (n := l) fun i _ => ha i
    rw [← ham] at g1
    have g2 := Int.mul_lt_mul_of_pos_right g1 hp2
    rw [hU, ← Int.mul_assoc, ← Int.pow_add]
    have e1 : J + 1 + (m + 1) = l := by omega
    rw [e1]; exact g2
   have hVge : 4294967296 ^ (m + 1) * 2 ^ s ≤ V := by
    have g1 : 1 * 4294967296 ^ (m + 1) ≤ x * 4294967296 ^ (m + 1) := Int.mul_le_mul_of_nonneg_right (by omega) (Int.le_of_lt (pw_pos _))
    have g2 := Int.mul_le_mul_of_nonneg_right (show 4294967296 ^ (m + 1) ≤ av b by omega) (Int.le_of_lt hp2)
    rw [hVs]; exact g2
   have hUz : ∀ i, J + 1 + (m + 2) ≤ i → dg u0.l i = 0 := fun i hi => by
    refine win_zero uin0 (n := 17) (k := J + 1 + (m + 2)) (by rw [A17.l_len]; omega) ?_ hi
    have g1 : (4294967296 : Int) ^ (m + 1) * 2 ^ s ≤ 4294967296 ^ (m + 1) * 4294967296 := Int.mul_le_mul_of_nonneg_left (by omega) (Int.le_of_lt (pw_pos _))
    have g2 := Int.mul_le_mul_of_nonneg_left g1 (Int.le_of_lt (pw_pos (J + 1)))
    rw [← Int.pow_succ, ← Int.pow_add] at g2
    have g3 : (4294967296 : Int) ^ (J + 1 + (m + 1).succ) = 4294967296 ^ (J + 1 + (m + 2)) := rfl
    omega
   have hUt : win u0.l (J + 1) (m + 2) < V := by
    have e1 : win u0.l (J + 1) (m + 2) = win u0.l (0 + (J + 1)) (17 - (J + 1)) := by
     rw [Nat.zero_add]
     exact (win_top (fun i hi => hUz i hi) (by omega)).symm
    have e2 : 17 = (J + 1) + (17 - (J + 1)) := by omega
    rw [e1, ← win_div uin0, ← e2, Int.ediv_lt_iff_lt_mul (pw_pos _)]
    have g1 := Int.mul_le_mul_of_nonneg_left hVge (Int.le_of_lt (pw_pos (J + 1)))
    rw [Int.mul_comm V]
    omega
   refine Yld.bind (P := fun (p : A16 × A17) => inD 4294967296 p.1.l ∧ inD 4294967296 p.2.l ∧ win u0.l 0 17 = win p.1.l 0 17 * V + win p.2.l 0 (m + 2) ∧ win p.2.l 0 (m + 2) < V ∧ ∀ i, m + 2 ≤ i → dg p.2.l i = 0)
    (Yld.rounds (J + 1) (fun (k : Nat) (st : A16 × A17 × Int) => st.2.2 = (J : Int) - (k : Int) ∧ inD 4294967296 st.1.l ∧ inD 4294967296 st.2.1.l ∧ (∀ i, i < J + 1 - k → dg st.2.1.l i = dg u0.l i) ∧ (∀ i, J + 1 - k + (m + 2) ≤ i → dg st.2.1.l i = 0) ∧ win st.2.1.l (J + 1 - k) (m + 2) < V ∧ win u0.l (J + 1 - k) (17 - (J + 1 - k)) = win st.1.l (J + 1 - k) (17 - (J + 1 - k)) * V + win st.2.1.l (J + 1 - k) (m + 2)) (by omega) ⟨by dsimp only; omega, zero_in, uin0, fun i _ => rfl, hUz, hUt, ?_⟩ ?_) ?_
   ·dsimp only
    have e1 : win A16.zero.l (J + 1 - 0) (17 - (J + 1 - 0)) = 0 := ds_zero fun i _ => by
     have : A16.zero.l = List.replicate 16 0 := rfl
     rw [this, dg_replicate]
    rw [e1, Int.zero_mul, Int.zero_add]
    exact win_top (fun i hi => hUz i hi) (by omega)
   ·rintro k ⟨q, u, jx⟩ hk ⟨rfl, qin, uin, ulo, uhi, ult, us⟩
    dsimp only at qin uin ulo uhi ult us
    dsimp only [un3]
    refine Yld.ite (fun h => ?_) (fun h => ?_)
    ·have hk' : k < J + 1 := by have := of_decide_eq_true h; omega
     obtain ⟨j, hj⟩ : ∃ j, j = J - k := ⟨_, rfl⟩
     have ej : (J : Int) - (k : Int) = (j : Int) := by omega
     have ej1 : J + 1 - k = j + 1 := by omega
     rw [ej]
     rw [ej1] at ulo uhi ult us
     obtain ⟨R, hR⟩ : ∃ R, R = win u.l j (m + 3) := ⟨_, rfl⟩
     have hR2 : R = dg u.l j + 4294967296 * win u.l (j + 1) (m + 2) := by rw [hR]; exact win_cons u.l j (m + 2)
     have hdj := uin j
     have hRV : R < 4294967296 * V := by omega
     have hR0 : 0 ≤ R := by rw [hR]; exact win_nonneg uin _ _
     obtain ⟨t, ht⟩ : ∃ t, t = R / V := ⟨_, rfl⟩
     have ht0 : 0 ≤ t := by rw [ht]; exact Int.ediv_nonneg hR0 (by omega)
     have ht1 : t < 4294967296 := by rw [ht, Int.ediv_lt_iff_lt_mul hVp]; exact hRV
     have hRt : t * V ≤ R := by rw [ht]; exact Int.ediv_mul_le _ (by omega)
     have hRt1 : R < (t + 1) * V := by rw [ht]; exact Int.lt_ediv_add_one_mul_self _ hVp
     have e9 : (t + 1) * V = t * V + V := by grind
     rw [e9] at hRt1
     refine Yld.bind (P := fun p => p.1 = q.set (j : Int) t ∧ inD 4294967296 p.2.l ∧ SameOut u p.2 j (m + 2) ∧ win p.2.l j (m + 3) = R - t * V) (digitstep_y hF (j := j) (by omega) (by omega) vin uin hVw (by rw [hVs]; exact hn1) hR hRV ht ?_) ?_
     ·intro w1 g1 g2 g3
      refine Yld.idx (by omega) (by rw [A16.l_len]; omega) (Yld.some ⟨?_, g1, g2, g3⟩)
      dsimp only
      rw [wu32]
      congr 1
      omega
     ·rintro ⟨q1, u1⟩ ⟨rfl, u1in, u1o, u1w⟩
      dsimp only at u1in u1o u1w
      dsimp only [un2]
      have hVB : V < 4294967296 ^ (m + 2) := by rw [hVs]; exact hn2
      have htop : dg u1.l (j + (m + 2)) = 0 ∧ win u1.l j (m + 2) = R - t * V := by
       have e1 : win u1.l j (m + 3) = win u1.l j (m + 2) + dg u1.l (j + (m + 2)) * 4294967296 ^ (m + 2) := win_succ _ _ _
       have g1 := win_nonneg u1in j (m + 2)
       have g2 := u1in (j + (m + 2))
       rcases (by omega : dg u1.l (j + (m + 2)) = 0 ∨ 1 ≤ dg u1.l (j + (m + 2))) with g | g
       ·rw [g] at e1
        exact ⟨g, by omega⟩
       ·have := Int.mul_le_mul_of_nonneg_right g (Int.le_of_lt (pw_pos (m + 2)))
        omega
      have ej2 : J + 1 - (k + 1) = j := by omega
      refine Yld.some (.inl ⟨_, rfl, ⟨by dsimp only; rw [wi64]; omega, set_in qin (by omega) (by omega) ⟨ht0, ht1⟩, u1in, fun i hi => ?_, fun i hi => ?_, ?_, ?_⟩, hk'⟩)
      ·dsimp only
       rw [ej2] at hi
       rw [u1o i (.inl hi), ulo i (by omega)]
      ·dsimp only
       rw [ej2] at hi
       by_cases e : i = j + (m + 2)
       ·rw [e]; exact htop.1
       ·rw [u1o i (.inr (by omega)), uhi i (by omega)]
      ·dsimp only
       rw [ej2, htop.2]; omega
      ·dsimp only
       rw [ej2, htop.2]
       have e1 : 17 - j = 17 - (j + 1) + 1 := by omega
       rw [e1, win_cons u0.l, win_cons (q.set (j : Int) t).l, us]
       have e2 : dg (q.set (j : Int) t).l j = t := by rw [set_dg (by omega) (by omega), Int.toNat_natCast, if_pos rfl]
       have e3 : win (q.set (j : Int) t).l (j + 1) (17 - (j + 1)) = win q.l (j + 1) (17 - (j + 1)) := win_congr fun i h1 h2 => by rw [set_dg (by omega) (by omega), Int.toNat_natCast, if_neg (by omega)]
       rw [e2, e3, ← ulo j (by omega), hR2]
       grind
    ·have hk' : k = J + 1 := by have := of_decide_eq_false h; omega
     subst hk'
     have e0 : J + 1 - (J + 1) = 0 := by omega
     rw [e0] at uhi ult us
     exact Yld.some (.inr ⟨_, rfl, qin, uin, us, ult, fun i hi => uhi i (by omega)⟩)
   ·rintro ⟨q, u⟩ ⟨qin, uin, us, ult, uz⟩
    dsimp only at qin uin us ult uz
    dsimp only [un2]
    have hain : inD 4294967296 (a16 u).l := fun i => by
     rw [a16_l, dg_take]
     split
     ·exact uin i
     ·decide
    have hav : av (a16 u) = win u.l 0 (m + 2) := by
     rw [← win_top (k := 16) (fun i hi => uz i (by omega)) (by omega), win0]
     exact ds_congr fun i hi => by rw [a16_l, dg_take, if_pos hi]
    have hq : win q.l 0 17 = av q := by
     rw [win0]
     exact ds_top (fun i hi => dg_ge (by rw [A16.l_len]; exact hi)) (by omega)
    rw [hU, hq, hVs] at us
    have hR0 : 0 ≤ win u.l 0 (m + 2) := win_nonneg uin _ _
    have hrs : win u.l 0 (m + 2) = (av a - av q * av b) * 2 ^ s := by
     have e1 : (av a - av q * av b) * 2 ^ s = av a * 2 ^ s - av q * (av b * 2 ^ s) := by grind
     omega
    have hdiv : win u.l 0 (m + 2) / 2 ^ s = av a - av q * av b := by rw [hrs, Int.mul_ediv_cancel _ (by omega)]
    have hr0 : 0 ≤ av a - av q * av b := by rw [← hdiv]; exact Int.ediv_nonneg hR0 (by omega)
    have hr1 : av a - av q * av b < av b := by
     rw [hrs, hVs] at ult
     exact Int.lt_of_mul_lt_mul_right ult (by omega)
    obtain ⟨d1, d2⟩ := div_mod_of' (A := av a) (B := av b) (q := av q) (r := av a - av q * av b) (by omega) hr0 hr1
    show Yld (Option.bind (w_down_S F (a16 u) (s : Int)) _) _
    refine Yld.bindE (down_y (by omega) hain hs31) (Yld.some ?_)
    rw [hav, hdiv, d1, d2, toA_av qin]
end Go.Proofs.YtcbbilehdaaffaaGreatDoor

namespace Go.Proofs.YtcbbilehdaaffaaGreatDoor
open Go Go.Sk
set_option linter.unusedSimpArgs false
set_option linter.unusedVariables false
theorem divided_y {F : Nat} (hF : 18446744073709551616 < F) {x y : Big} (hx : inB x) (hy : inB y) : w_divided_S F x y = some (two quoO x y, two remO x y) := by
 refine Yld.eq ?_
 unfold w_divided_S two
 refine Yld.bindE (good2 (by omega) x y) ?_
 cases ha : iv x with
 | none => simp only [iv_none ha, Bool.false_and, Bool.not_false, Bool.not_true]; exact Yld.g0 rfl (Yld.ift (by simp) (Yld.bindE (Bad_y F) (Yld.bindE (Bad_y F) (Yld.some rfl))))
 | some a =>
  cases hb : iv y with
  | none => simp only [iv_none hb, Bool.and_false, Bool.not_false, Bool.not_true]; exact Yld.g0 rfl (Yld.ift (by simp) (Yld.bindE (Bad_y F) (Yld.bindE (Bad_y F) (Yld.some rfl))))
  | some b =>
   obtain ⟨ga, rfl, ra⟩ := iv_some hx ha
   obtain ⟨gb, rfl, rb⟩ := iv_some hy hb
   obtain ⟨wa, na⟩ := sv_big_W ra
   obtain ⟨wb, nb⟩ := sv_big_W rb
   have hsb : w_Sign_S F (big b) = some (sgn b) := by rw [Sign_y (by omega) (big_in b), hb]
   simp only [ga, gb, Bool.and_self, Bool.not_true, Bool.not_false]
   refine Yld.g1 rfl (Yld.bindE hsb ?_)
   have hsg : sgn b = 0 ↔ b = 0 := by unfold sgn; split <;> (try split) <;> omega
   rw [Bool.false_or]
   refine Yld.ite (fun h => ?_) (fun h => ?_)
   ·have hz : b = 0 := hsg.1 (of_decide_eq_true h)
    refine Yld.bindE (Bad_y F) (Yld.bindE (Bad_y F) (Yld.some ?_))
    simp only [quoO, remO, hz, if_true, toB]
   ·have hz : b ≠ 0 := fun e => (of_decide_eq_false h) (hsg.2 e)
    clear h
    simp only [quoO, remO, hz, if_false, toB]
    obtain ⟨t1, t2⟩ := tq a hz
    have hB := absZ_pos hz
    have hm0 := Int.emod_nonneg (absZ a) (show absZ b ≠ 0 by omega)
    have hm1 := Int.emod_lt_of_pos (absZ a) hB
    have hq0 : 0 ≤ absZ a / absZ b := Int.ediv_nonneg (absZ_nonneg a) (by omega)
    have hq1 : absZ a / absZ b ≤ absZ a := Int.ediv_le_self _ (absZ_nonneg a)
    have hsa : w_Small_S F (big a) = some (if -9223372036854775808 ≤ a ∧ a ≤ 9223372036854775807 then (a, true) else (0, false)) := by rw [Small_y (by omega) (big_in a), ha]
    have hsb2 : w_Small_S F (big b) = some (if -9223372036854775808 ≤ b ∧ b ≤ 9223372036854775807 then (b, true) else (0, false)) := by rw [Small_y (by omega) (big_in b), hb]
    refine Yld.bind (P := fun r => match r with | .inl _ => True | .inr z => z = (big (fq a b), big (fr a b))) ?_ ?_
    ·refine Yld.bindE hsa ?_
     by_cases h1 : -9223372036854775808 ≤ a ∧ a ≤ 9223372036854775807
     ·rw [if_pos h1]
      dsimp only [un2]
      refine Yld.ite (fun h => ?_) (fun h => ?_)
      ·have h2 : a ≠ -9223372036854775808 := by simpa using h
       refine Yld.bindE hsb2 ?_
       by_cases h3 : -9223372036854775808 ≤ b ∧ b ≤ 9223372036854775807
       ·rw [if_pos h3]
        dsimp only [un2]
        refine Yld.ite (fun h => ?_) (fun h => ?_)
        ·have h4 : b ≠ -9223372036854775808 := by simpa using h
         have habs : absZ a ≤ 9223372036854775807 := by unfold absZ; split <;> omega
         have hbbs : absZ b ≤ 9223372036854775807 := by unfold absZ; split <;> omega
         refine Yld.quo hz (Yld.rem hz ?_)
         have hw : IntKind.i64.wrap (Int.tdiv a b) = Int.tdiv a b := by rw [t1]; split <;> rw [wi64' (by omega) (by omega)]
         rw [hw]
         have hf1 := fq_abs (a := a) hz
         have hf2 := (fr_range (a := a) hz).1
         refine Yld.bind (P := fun p => p = (fq a b, fr a b)) (Yld.ln ?_) ?_
         ·unfold fq fr
          dsimp only
          rw [t1, t2]
          generalize absZ a / absZ b = q at *
          generalize absZ a % absZ b = r at *
          refine Yld.ite (fun h => ?_) (fun h => ?_)
          ·simp only [Bool.and_eq_true, decide_eq_true_eq] at h
           obtain ⟨g1, g2⟩ := h
           have hr0 : r ≠ 0 := by split at g1 <;> omega
           have e1 : decide ((if a < 0 then -r else r) < 0) = decide (a < 0) := by rw [decide_eq_decide]; split <;> omega
           rw [e1] at g2
           refine Yld.some ?_
           rw [g2, if_pos rfl, if_pos rfl, if_neg hr0]
           have e2 : (true && !decide (r = 0)) = true := by simp [hr0]
           rw [if_pos e2]
           by_cases hla : a < 0
           ·have hlb : ¬ b < 0 := fun hlb => by simp [hla, hlb] at g2
            have eb : absZ b = b := if_neg hlb
            rw [if_pos hla, if_neg hlb, wi64' (by omega) (by omega), wi64' (by omega) (by omega)]
            simp only [Prod.mk.injEq]
            omega
           ·have hlb : b < 0 := by
             by_cases hlb : b < 0
             ·exact hlb
             ·simp [hla, hlb] at g2
            have eb : absZ b = -b := if_pos hlb
            rw [if_neg hla, if_pos hlb, wi64' (by omega) (by omega), wi64' (by omega) (by omega)]
            simp only [Prod.mk.injEq]
            omega
          ·refine Yld.some ?_
           by_cases hr0 : r = 0
           ·subst hr0
            have e3 : (if a < 0 then -(0 : Int) else 0) = 0 := by split <;> rfl
            rw [e3]
            simp
           ·have e1 : decide ((if a < 0 then -r else r) < 0) = decide (a < 0) := by rw [decide_eq_decide]; split <;> omega
            have e4 : decide ((if a < 0 then -r else r) ≠ 0) = true := decide_eq_true (by split <;> omega)
            rw [e1, e4, Bool.true_and] at h
            have hab : decide (a < 0) = decide (b < 0) := by simpa using h
            have hab2 : (a < 0) = (b < 0) := propext (decide_eq_decide.1 hab)
            rw [h]
            simp only [Bool.false_eq_true, if_false, Bool.false_and, hab2]
         ·rintro ⟨q, r⟩ he
          cases he
          dsimp only [un2]
          have hA : -9223372036854775807 ≤ fq a b ∧ fq a b ≤ 9223372036854775807 := by unfold absZ at hf1 habs; split at hf1 <;> (split at habs <;> omega)
          have hA2 : -9223372036854775807 ≤ fr a b ∧ fr a b ≤ 9223372036854775807 := by unfold absZ at hf2 hbbs; split at hf2 <;> (split at hbbs <;> omega)
          exact Yld.bindE (Of_y F (by omega) (by omega)) (Yld.bindE (Of_y F (by omega) (by omega)) (Yld.some rfl))
        ·exact Yld.some trivial
       ·rw [if_neg h3]
        exact Yld.iff rfl (Yld.some trivial)
      ·exact Yld.some trivial
     ·rw [if_neg h1]
      exact Yld.iff rfl (Yld.some trivial)
    ·rintro (u | z) hz2
     ·clear hz2 hsa hsb2
      have hW0 : av (big b).W ≠ 0 := by rw [wb]; show absZ b ≠ 0; omega
      refine Yld.bindE (quotient_y hF (big_in a) (big_in b) hW0) ?_
      have wa' : av (big a).W = absZ a := wa
      have wb' : av (big b).W = absZ b := wb
      rw [wa', wb', na, nb]
      dsimp only [un2]
      have hla := absZ_lt ra
      have hlb := absZ_lt rb
      refine Yld.bindE (signed_y F _ (toA_in _)) ?_
      have hqm : absZ a / absZ b % MM = absZ a / absZ b := Int.emod_eq_of_lt hq0 (by omega)
      have hrm : absZ a % absZ b % MM = absZ a % absZ b := Int.emod_eq_of_lt hm0 (by omega)
      rw [av_toA, hqm]
      have hrz : decide (toA (absZ a % absZ b) ≠ A16.zero) = !decide (absZ a % absZ b = 0) := by
       rw [Bool.eq_iff_iff]
       simp only [decide_eq_true_eq, Bool.not_eq_true', decide_eq_false_iff_not]
       exact not_congr (toA_zero_iff hm0 (by omega))
      rw [hrz]
      refine Yld.bind (P := fun p => p = (toA (if ((decide (a < 0) != decide (b < 0)) && !decide (absZ a % absZ b = 0)) = true then absZ b - absZ a % absZ b else absZ a % absZ b), big (fq a b))) ?_ ?_
      ·unfold fq
       generalize hQ : absZ a / absZ b = q at *
       generalize hR : absZ a % absZ b = r at *
       refine Yld.ite (fun h => ?_) (fun h => ?_)
       ·simp only [Bool.and_eq_true, Bool.not_eq_true', decide_eq_false_iff_not] at h
        obtain ⟨g1, g2⟩ := h
        rw [g2, if_pos rfl, if_pos rfl, if_neg g1]
        have e2 : (true && !decide (r = 0)) = true := by simp [g1]
        rw [if_pos e2]
        refine Yld.bindE (Of_y F (by decide) (by decide)) ?_
        have hs1 : w_Sub_S F (big (-q)) (big 1) = some (big (-q - 1)) := by
         rw [Sub_y (by omega) (big_in _) (big_in _), two_big (by omega) (by have := MM_big; omega)]; rfl
        refine Yld.bindE hs1 ?_
        have hmin : w_minus_S F (big b).W (toA r) = some (toA (absZ b - r)) := by
         rw [minus_y (by omega) (big_in b) (toA_in r) (by rw [av_toA, hrm, wb']; omega), av_toA, hrm, wb']
        refine Yld.bindE hmin (Yld.some ?_)
        have e5 : -q - 1 = -(q + 1) := by omega
        rw [e5]
       ·refine Yld.some ?_
        cases hs : (decide (a < 0) != decide (b < 0)) with
        | false => simp
        | true =>
         have hr0 : r = 0 := by rw [hs] at h; simpa using h
         subst hr0
         simp
      ·rintro ⟨r', q'⟩ he
       cases he
       dsimp only [un2]
       refine Yld.bindE (signed_y F _ (toA_in _)) (Yld.some ?_)
       have hrr : 0 ≤ (if ((decide (a < 0) != decide (b < 0)) && !decide (absZ a % absZ b = 0)) = true then absZ b - absZ a % absZ b else absZ a % absZ b) ∧ (if ((decide (a < 0) != decide (b < 0)) && !decide (absZ a % absZ b = 0)) = true then absZ b - absZ a % absZ b else absZ a % absZ b) < MM := by split <;> omega
       rw [av_toA, Int.emod_eq_of_lt hrr.1 hrr.2]
       simp only [fr, decide_eq_true_eq]
     ·exact Yld.some hz2
theorem Quo_y {F : Nat} (hF : 18446744073709551616 < F) {x y : Big} (hx : inB x) (hy : inB y) : w_Quo_S F x y = some (two quoO x y) := by
 unfold w_Quo_S
 rw [divided_y hF hx hy]
 rfl
end Go.Proofs.YtcbbilehdaaffaaGreatDoor

namespace Go.Sk
set_option linter.unusedSimpArgs false
set_option linter.unusedVariables false
theorem absZ_nat (a : Int) : absZ a = (a.natAbs : Int) := by unfold absZ; split <;> omega
theorem gcd_step (X Y : Nat) : Nat.gcd X Y = Nat.gcd Y (X % Y) := by rw [Nat.gcd_comm X Y, Nat.gcd_rec Y X, Nat.gcd_comm]
theorem val2 {w : A16} (h : ∀ i, 2 ≤ i → i < 16 → dg w.l i = 0) : av w = w.a0 + w.a1 * 4294967296 := by
 have e : av w = ds 4294967296 (dg w.l) 2 := ds_ext (by omega) fun i h1 h2 => h i h1 h2
 rw [e]
 simp [ds]
 rfl
end Go.Sk
namespace Go.Proofs.YtcbbilehdaaffaaGreatDoor
open Go Go.Sk
set_option linter.unusedSimpArgs false
set_option linter.unusedVariables false
theorem gcdR_y {F : Nat} (hF : 18446744073709551616 < F) : ∀ (n : Nat) {a b : Int}, -MM < a ∧ a < MM → -MM < b ∧ b < MM → b.natAbs < n → w_Gcd_R F n (big a) (big b) = some (big (Nat.gcd a.natAbs b.natAbs : Nat))
 | 0, a, b, _, _, h => absurd h (Nat.not_lt_zero _)
 | n + 1, a, b, ra, rb, hn => by
  refine Yld.eq ?_
  unfold w_Gcd_R
  obtain ⟨wa, na⟩ := sv_big_W ra
  obtain ⟨wb, nb⟩ := sv_big_W rb
  have wa' : av (big a).W = absZ a := wa
  have wb' : av (big b).W = absZ b := wb
  have ia := big_in a
  have ib := big_in b
  have hla := absZ_lt ra
  have hlb := absZ_lt rb
  refine Yld.bindE (good2 (by omega) _ _) ?_
  rw [goodB_big ra, goodB_big rb]
  refine Yld.iff rfl ?_
  refine Yld.bind (P := fun r => match r with | .inl _ => True | .inr z => z = big (Nat.gcd a.natAbs b.natAbs : Nat)) ?_ ?_
  ·refine Yld.bind (size_y (by omega)) ?_
   rintro sa ⟨sa0, sa1, saz, _⟩
   by_cases h1 : sa ≤ 2
   ·rw [decide_eq_true h1]
    refine Yld.g1 rfl (Yld.bind (size_y (by omega)) ?_)
    rintro sb ⟨sb0, sb1, sbz, _⟩
    refine Yld.ite (fun h => ?_) (fun h => Yld.some trivial)
    have h2 : sb ≤ 2 := by simpa using h
    have va := val2 (w := (big a).W) fun i g1 g2 => saz i (by omega) g2
    have vb := val2 (w := (big b).W) fun i g1 g2 => sbz i (by omega) g2
    rw [wa'] at va
    rw [wb'] at vb
    have a0 := ia 0
    have a1 := ia 1
    have b0 := ib 0
    have b1 := ib 1
    generalize (big a).W = A at *
    generalize (big b).W = B at *
    have e0 : dg A.l 0 = A.a0 := rfl
    have e1 : dg A.l 1 = A.a1 := rfl
    have e2 : dg B.l 0 = B.a0 := rfl
    have e3 : dg B.l 1 = B.a1 := rfl
    rw [e0] at a0
    rw [e1] at a1
    rw [e2] at b0
    rw [e3] at b1
    have wr : ∀ x y : Int, 0 ≤ x ∧ x < 4294967296 → 0 ≤ y ∧ y < 4294967296 → ior .u64 (IntKind.u64.wrap ((IntKind.u64.wrap y) * 4294967296)) (IntKind.u64.wrap x) = x + y * 4294967296 := fun x y hx hy => by
     have q1 : IntKind.u64.wrap ((IntKind.u64.wrap y) * 4294967296) = y * 4294967296 := by simp only [wu64]; omega
     have q2 : IntKind.u64.wrap x = x := by rw [wu64]; omega
     rw [q1, q2, ior_add 32 (by omega) (by omega) (by rw [p32]; omega) hx.1 (by rw [p32]; omega) (by omega)]
     omega
    rw [wr _ _ a0 a1, wr _ _ b0 b1, ← va, ← vb]
    have la : absZ a < 18446744073709551616 := by omega
    have lb : absZ b < 18446744073709551616 := by omega
    rw [absZ_nat] at la lb ⊢
    rw [absZ_nat b]
    refine Yld.bind (P := fun x => x = ((Nat.gcd a.natAbs b.natAbs : Nat) : Int)) (Yld.loop (fun (s : Int × Int) => ∃ X Y : Nat, s = ((X : Int), (Y : Int)) ∧ Nat.gcd X Y = Nat.gcd a.natAbs b.natAbs ∧ Y < 18446744073709551616) (fun s => s.2.toNat) ⟨_, _, rfl, rfl, by omega⟩ (by dsimp only; omega) ?_) ?_
    ·rintro s ⟨X, Y, rfl, hg, hY⟩
     dsimp only [un2]
     refine Yld.ite (fun h => ?_) (fun h => ?_)
     ·have hy : (Y : Int) ≠ 0 := of_decide_eq_true h
      refine Yld.rem hy ?_
      rw [tmod_pos (by omega)]
      have hm : X % Y < Y := Nat.mod_lt _ (by omega)
      refine Yld.some (.inl ⟨_, rfl, ⟨Y, X % Y, by rw [Int.natCast_emod], ?_, by omega⟩, ?_⟩)
      ·rw [← hg, ← gcd_step]
      ·dsimp only
       rw [← Int.natCast_emod]; omega
     ·have hy : (Y : Int) = 0 := by have := of_decide_eq_false h; omega
      have hy0 : Y = 0 := by omega
      subst hy0
      refine Yld.some (.inr ⟨_, rfl, ?_⟩)
      rw [← hg, Nat.gcd_zero_right]
    ·rintro x rfl
     have hgl : Nat.gcd a.natAbs b.natAbs < 18446744073709551616 := by
      by_cases e : a.natAbs = 0
      ·rw [e, Nat.gcd_zero_left]; omega
      ·have := Nat.gcd_le_left b.natAbs (show 0 < a.natAbs by omega); omega
     generalize Nat.gcd a.natAbs b.natAbs = G at *
     have g1 : IntKind.u32.wrap (G : Int) = (G : Int) % 4294967296 := wu32 _
     have g2 : IntKind.u32.wrap ((G : Int) / 4294967296) = (G : Int) / 4294967296 := by rw [wu32]; omega
     rw [g1, g2]
     refine Yld.ln (Yld.bindE (signed_y F _ (in_two (by omega) (by omega))) (Yld.some ?_))
     rw [av_two]
     simp only [Bool.false_eq_true, if_false]
     congr 1
     omega
   ·rw [decide_eq_false h1]
    exact Yld.g0 rfl (Yld.iff rfl (Yld.some trivial))
  ·rintro (u | z) hz
   ·have hz0 : decide ((big b).W ≠ A16.zero) = !decide (b = 0) := by
     rw [Bool.eq_iff_iff]
     simp only [decide_eq_true_eq, Bool.not_eq_true', decide_eq_false_iff_not]
     have := zero_iff ib
     rw [wb', absZ_zero] at this
     exact not_congr this
    show Yld (if decide ((big b).W ≠ A16.zero) = true then _ else _) _
    rw [hz0]
    refine Yld.ite (fun h => ?_) (fun h => ?_)
    ·have hb0 : b ≠ 0 := by simpa using h
     have hB := absZ_pos hb0
     have hm0 := Int.emod_nonneg (absZ a) (show absZ b ≠ 0 by omega)
     have hm1 := Int.emod_lt_of_pos (absZ a) hB
     refine Yld.bindE (quotient_y hF ia ib (by rw [wb']; omega)) ?_
     dsimp only [un2]
     refine Yld.bindE (signed_y F _ ib) (Yld.bindE (signed_y F _ (toA_in _)) ?_)
     simp only [Bool.false_eq_true, if_false, wa', wb', av_toA]
     rw [Int.emod_eq_of_lt hm0 (by omega)]
     have hrec := gcdR_y hF n (a := absZ b) (b := absZ a % absZ b) (by omega) (by omega) (by rw [absZ_nat b] at *; omega)
     refine Yld.bindE hrec (Yld.some ?_)
     have e1 : (absZ b).natAbs = b.natAbs := by rw [absZ_nat]; omega
     have e2 : (absZ a % absZ b).natAbs = a.natAbs % b.natAbs := by rw [absZ_nat, absZ_nat, ← Int.natCast_emod]; omega
     rw [e1, e2, ← gcd_step]
    ·have hb0 : b = 0 := by simpa using h
     subst hb0
     have habs : w_Abs_S F (big a) = some (big (absZ a)) := by rw [Abs_y (by omega) ia, one_big ra]; rfl
     refine Yld.bindE habs (Yld.some ?_)
     rw [absZ_nat]
     simp
   ·exact Yld.some hz
theorem Gcd_y {F : Nat} (hF : 18446744073709551616 < F) {a b : Int} (ra : -MM < a ∧ a < MM) (rb : -MM < b ∧ b < MM) (hb : b.natAbs < F) : w_Gcd_S F (big a) (big b) = some (big (Nat.gcd a.natAbs b.natAbs : Nat)) := gcdR_y hF F ra rb hb
end Go.Proofs.YtcbbilehdaaffaaGreatDoor

namespace Go.Sk
def decK : Nat → Nat → Str
 | 0, _ => []
 | f + 1, u => if u < 10 then [UInt8.ofNat (48 + u)] else decK f (u / 10) ++ [UInt8.ofNat (48 + u % 10)]
theorem decK_eq : ∀ (f u : Nat), u < f → decK f u = Lib.decDigits u
 | 0, u, h => absurd h (Nat.not_lt_zero u)
 | f + 1, u, h => by
  rw [Lib.decDigits]
  unfold decK
  split
  ·rfl
  ·rw [decK_eq f (u / 10) (by omega)]
def itoaK (n : Int) : Str := if n < 0 then 45 :: decK (n.natAbs + 1) n.natAbs else decK (n.toNat + 1) n.toNat
theorem itoaK_eq (n : Int) : Lib.itoa n = itoaK n := by
 unfold itoaK Lib.itoa
 rw [decK_eq _ _ (Nat.lt_succ_self _), decK_eq _ _ (Nat.lt_succ_self _)]
def itoaK? (n : Int) : Option Str := if (itoaK n).length ≤ 1000000000 then some (itoaK n) else none
theorem itoaK?_eq : itoa? = itoaK? := by
 funext n
 unfold itoa? itoaK?
 rw [itoaK_eq]
end Go.Sk
namespace Go.Proofs.YtcbbilehdaaffaaGreatDoor
open Go Go.Sk
set_option maxRecDepth 100000
def FF : Nat := 13407807929942597099574024998205846127479365820592393377723561443721764030073546976801874298166903427690031858186486050853753882811946569946433649006084097
theorem FF1 : 100 < FF := by decide +kernel
theorem FF2 : 100000 < FF := by decide +kernel
theorem itoa_S_K : strconv_Itoa_S = fun _ n => itoaK? n := by
 funext F n
 unfold strconv_Itoa_S
 rw [itoaK?_eq]
end Go.Proofs.YtcbbilehdaaffaaGreatDoor

namespace Go.Proofs.YtcbbilehdaaffaaGreatDoor
open Go Go.Sk
set_option linter.unusedSimpArgs false
set_option linter.unusedVariables false
theorem FFb : 18446744073709551616 < FF := by decide +kernel
theorem FF_MM : MM < FF := by rw [MM_eq]; decide +kernel
abbrev InM (a : Int) : Prop := -MM < a ∧ a < MM
theorem Mul_v {a b : Int} (ra : InM a) (rb : InM b) : w_Mul_S FF (big a) (big b) = some (big (a * b)) := by rw [Mul_y FF1 (big_in a) (big_in b), two_big ra rb]; rfl
theorem Sign_v {a : Int} (ra : InM a) : w_Sign_S FF (big a) = some (sgn a) := by rw [Sign_y FF1 (big_in a), iv_big ra]
theorem Quo_v {a b : Int} (ra : InM a) (rb : InM b) (h : b ≠ 0) : w_Quo_S FF (big a) (big b) = some (big (fq a b)) := by rw [Quo_y FFb (big_in a) (big_in b), two_big ra rb]; simp only [quoO, h, if_false]; rfl
theorem Gcd_v {a b : Int} (ra : InM a) (rb : InM b) : w_Gcd_S FF (big a) (big b) = some (big (Nat.gcd a.natAbs b.natAbs : Nat)) := Gcd_y FFb ra rb (by have := FF_MM; omega)
theorem Of_v {n : Int} (h0 : -9223372036854775808 ≤ n) (h1 : n ≤ 9223372036854775807) : w_Of_S FF n = some (big n) := Of_y FF h0 h1
theorem one_InM : InM 1 := by have := MM_big; constructor <;> omega
theorem zero_InM : InM 0 := by have := MM_big; constructor <;> omega
end Go.Proofs.YtcbbilehdaaffaaGreatDoor

namespace Go.Proofs.YtcbbilehdaaffaaGreatDoor
open Go Go.Sk
set_option linter.unusedSimpArgs false
set_option linter.unusedVariables false
end Go.Proofs.YtcbbilehdaaffaaGreatDoor

namespace Go.Sk
set_option linter.unusedSimpArgs false
set_option linter.unusedVariables false
theorem red_coprime {n d g : Nat} (hg : g = Nat.gcd n d) (h0 : 0 < g) : Nat.gcd (n / g) (d / g) = 1 := by
 obtain ⟨a, ha⟩ : g ∣ n := hg ▸ Nat.gcd_dvd_left n d
 obtain ⟨b, hb⟩ : g ∣ d := hg ▸ Nat.gcd_dvd_right n d
 have e1 : n / g = a := by rw [ha, Nat.mul_div_cancel_left _ h0]
 have e2 : d / g = b := by rw [hb, Nat.mul_div_cancel_left _ h0]
 rw [e1, e2]
 have e3 := Nat.gcd_mul_left g a b
 rw [← ha, ← hb, ← hg] at e3
 have e4 : g * 1 = g * Nat.gcd a b := by omega
 exact (Nat.eq_of_mul_eq_mul_left h0 e4).symm
theorem den_pos (r : Rat) : (0 : Int) < r.den := by have := r.den_nz; omega
theorem divInt_cop {n d : Int} (h0 : 0 < d) (hc : Nat.gcd n.natAbs d.natAbs = 1) : (Rat.divInt n d).num = n ∧ ((Rat.divInt n d).den : Int) = d := by
 have key := Rat.num_divInt_den ⟨n, d.natAbs, by omega, hc⟩
 have e : ((d.natAbs : Nat) : Int) = d := by omega
 dsimp only at key
 rw [e] at key
 rw [key]
 exact ⟨rfl, e⟩
def gcdS (n d : Int) : Int := if d < 0 then -(Nat.gcd n.natAbs d.natAbs : Nat) else (Nat.gcd n.natAbs d.natAbs : Nat)
theorem red {n d : Int} (hd : d ≠ 0) : gcdS n d ≠ 0 ∧ (Rat.divInt n d).num * gcdS n d = n ∧ ((Rat.divInt n d).den : Int) * gcdS n d = d := by
 have g0 : 0 < Nat.gcd n.natAbs d.natAbs := Nat.gcd_pos_of_pos_right _ (by omega)
 have hc := red_coprime (n := n.natAbs) (d := d.natAbs) rfl g0
 have d1 := Nat.div_mul_cancel (Nat.gcd_dvd_left n.natAbs d.natAbs)
 have d2 := Nat.div_mul_cancel (Nat.gcd_dvd_right n.natAbs d.natAbs)
 generalize hg : Nat.gcd n.natAbs d.natAbs = g at *
 generalize n.natAbs / g = a at *
 generalize hb : d.natAbs / g = b at *
 have b0 : 0 < b := by
  rcases Nat.eq_zero_or_pos b with e | e
  ·subst e; omega
  ·exact e
 have e0 : gcdS n d = if d < 0 then -(g : Int) else g := by unfold gcdS; rw [hg]
 have d1' : (a : Int) * g = n.natAbs := by rw [← d1]; simp
 have d2' : (b : Int) * g = d.natAbs := by rw [← d2]; simp
 obtain ⟨x, hx, hn⟩ : ∃ x : Int, x.natAbs = a ∧ x * gcdS n d = n := by
  rw [e0]
  by_cases h1 : d < 0
  ·by_cases h2 : n < 0
   ·exact ⟨a, by omega, by rw [if_pos h1, Int.mul_neg, d1']; omega⟩
   ·exact ⟨-a, by omega, by rw [if_pos h1, Int.mul_neg, Int.neg_mul, d1']; omega⟩
  ·by_cases h2 : n < 0
   ·exact ⟨-a, by omega, by rw [if_neg h1, Int.neg_mul, d1']; omega⟩
   ·exact ⟨a, by omega, by rw [if_neg h1, d1']; omega⟩
 have hdd : (b : Int) * gcdS n d = d := by
  rw [e0]
  by_cases h1 : d < 0
  ·rw [if_pos h1, Int.mul_neg, d2']; omega
  ·rw [if_neg h1, d2']; omega
 have hgs : gcdS n d ≠ 0 := by rw [e0]; split <;> omega
 have hq : Rat.divInt n d = Rat.divInt x b := by
  rw [Rat.divInt_eq_divInt_iff hd (by omega)]
  generalize gcdS n d = G at *
  subst hn; subst hdd
  rw [Int.mul_assoc, Int.mul_comm G]
 have hcop := divInt_cop (n := x) (d := b) (by omega) (by rw [hx]; exact hc)
 rw [hq, hcop.1, hcop.2]
 exact ⟨hgs, hn, hdd⟩
theorem divInt_q (n d : Int) : Rat.divInt n d = (n : Rat) / (d : Rat) := Rat.divInt_eq_div n d
theorem rat_q (r : Rat) : r = (r.num : Rat) / (r.den : Int) := by
 have := Rat.num_divInt_den r
 rw [divInt_q] at this
 exact this.symm
theorem sum_q (r s : Rat) {g p q : Int} (h1 : (r.den : Int) = p * g) (h2 : (s.den : Int) = q * g) : r + s = Rat.divInt (r.num * q + s.num * p) (p * s.den) := by
 have r0 := den_pos r
 have s0 := den_pos s
 have hp : p ≠ 0 := by intro e; subst e; simp at h1; omega
 have hq : q ≠ 0 := by intro e; subst e; simp at h2; omega
 have hg : g ≠ 0 := by intro e; subst e; simp at h2; omega
 rw [divInt_q]
 have er := rat_q r
 have es := rat_q s
 rw [h1] at er
 rw [h2] at es
 rw [h2]
 generalize r.num = a at *
 generalize s.num = b at *
 rw [er, es]
 simp only [Rat.intCast_mul, Rat.intCast_add]
 have hp' : (p : Rat) ≠ 0 := by simpa using hp
 have hq' : (q : Rat) ≠ 0 := by simpa using hq
 have hg' : (g : Rat) ≠ 0 := by simpa using hg
 generalize (p : Rat) = P at *
 generalize (q : Rat) = Q at *
 generalize (g : Rat) = G at *
 generalize (a : Rat) = A at *
 generalize (b : Rat) = B at *
 grind
theorem prod_q (r s : Rat) : (r * s).num = (Rat.divInt r.num s.den).num * (Rat.divInt s.num r.den).num ∧ (((r * s).den : Nat) : Int) = (Rat.divInt r.num s.den).den * (Rat.divInt s.num r.den).den := by
  have r0 := den_pos r
  have s0 := den_pos s
  obtain ⟨g1, a1, a2⟩ := red (n := r.num) (d := s.den) (by omega)
  obtain ⟨g2, b1, b2⟩ := red (n := s.num) (d := r.den) (by omega)
  have ca := (Rat.divInt r.num s.den).reduced
  have cb := (Rat.divInt s.num r.den).reduced
  have cr := r.reduced
  have cs := s.reduced
  have pa := den_pos (Rat.divInt r.num s.den)
  have pb := den_pos (Rat.divInt s.num r.den)
  have er := rat_q r
  have es := rat_q s
  generalize ha : Rat.divInt r.num s.den = a at *
  generalize hb : Rat.divInt s.num r.den = b at *
  have e : r * s = Rat.divInt (a.num * b.num) (a.den * b.den) := by
    rw [divInt_q, Rat.intCast_mul, Rat.intCast_mul]
    have hab : r * s = a * b := by
      rw [← ha, ← hb, divInt_q, divInt_q]
      have h1 : ((r.den : Int) : Rat) ≠ 0 := by have : (r.den : Int) ≠ 0 := by omega
                                                simpa using this
      have h2 : ((s.den : Int) : Rat) ≠ 0 := by have : (s.den : Int) ≠ 0 := by omega
                                                simpa using this
      generalize ((r.den : Int) : Rat) = D1 at *
      generalize ((s.den : Int) : Rat) = D2 at *
      generalize (r.num : Rat) = N1 at *
      generalize (s.num : Rat) = N2 at *
      rw [er, es]
      grind
    have ea := rat_q a
    have eb := rat_q b
    rw [hab]
    have h1 : ((a.den : Int) : Rat) ≠ 0 := by have : (a.den : Int) ≠ 0 := by omega
                                              simpa using this
    have h2 : ((b.den : Int) : Rat) ≠ 0 := by have : (b.den : Int) ≠ 0 := by omega
                                              simpa using this
    generalize ((a.den : Int) : Rat) = D1 at *
    generalize ((b.den : Int) : Rat) = D2 at *
    generalize (a.num : Rat) = N1 at *
    generalize (b.num : Rat) = N2 at *
    rw [ea, eb]
    grind
  have k1 : Nat.Coprime a.num.natAbs b.den := by
    have hx : a.num.natAbs ∣ r.num.natAbs := Int.natAbs_dvd_natAbs.2 ⟨_, a1.symm⟩
    have hy : b.den ∣ r.den := by
      have : (b.den : Int) ∣ (r.den : Int) := ⟨_, b2.symm⟩
      exact Int.natCast_dvd_natCast.1 this
    exact Nat.Coprime.coprime_dvd_left hx (Nat.Coprime.coprime_dvd_right hy cr)
  have k2 : Nat.Coprime b.num.natAbs a.den := by
    have hx : b.num.natAbs ∣ s.num.natAbs := Int.natAbs_dvd_natAbs.2 ⟨_, b1.symm⟩
    have hy : a.den ∣ s.den := by
      have : (a.den : Int) ∣ (s.den : Int) := ⟨_, a2.symm⟩
      exact Int.natCast_dvd_natCast.1 this
    exact Nat.Coprime.coprime_dvd_left hx (Nat.Coprime.coprime_dvd_right hy cs)
  have hc : Nat.gcd (a.num * b.num).natAbs ((a.den : Int) * b.den).natAbs = 1 := by
    rw [Int.natAbs_mul, Int.natAbs_mul, Int.natAbs_natCast, Int.natAbs_natCast]
    exact Nat.Coprime.mul_left (Nat.Coprime.mul_right ca k1) (Nat.Coprime.mul_right k2 cb)
  rw [e]
  exact divInt_cop (Int.mul_pos pa pb) hc
end Go.Sk

namespace Go.Sk
set_option linter.unusedSimpArgs false
set_option linter.unusedVariables false
def cross (p q r s : Int) : Int := cmpZ (p * s) (r * q)
theorem cross_rest {p q r s : Int} (h : p / q = r / s) : cross p q r s = cmpZ (p % q * s) (r % s * q) := by
 have e1 := Int.mul_ediv_add_emod p q
 have e2 := Int.mul_ediv_add_emod r s
 rw [← h] at e2
 generalize p / q = k at *
 generalize p % q = a at *
 generalize r % s = b at *
 have e3 : p * s = a * s + k * q * s := by rw [← e1]; grind
 have e4 : r * q = b * q + k * q * s := by rw [← e2]; grind
 unfold cross cmpZ
 rw [e3, e4]
 have h1 : (a * s + k * q * s < b * q + k * q * s) = (a * s < b * q) := propext (by omega)
 have h2 : (b * q + k * q * s < a * s + k * q * s) = (b * q < a * s) := propext (by omega)
 simp only [h1, h2]
theorem cross_next {p q r s : Int} (h : p / q = r / s) : cross p q r s = -cross q (p % q) s (r % s) := by
 rw [cross_rest h]
 unfold cross
 rw [Int.mul_comm (p % q), Int.mul_comm (r % s)]
 generalize s * (p % q) = u
 generalize q * (r % s) = v
 unfold cmpZ
 split <;> split <;> (try split) <;> omega
end Go.Sk

namespace Go.Proofs.YtcbbilehdaaffaaGreatDoor
open Go Go.Sk
set_option linter.unusedSimpArgs false
set_option linter.unusedVariables false
def bf : Frc := ⟨bad, big 1⟩
def fits (r : Rat) : Prop := InM r.num ∧ InM r.den
noncomputable instance (r : Rat) : Decidable (fits r) := Classical.propDecidable _
def mk (r : Rat) : Frc := ⟨big r.num, big r.den⟩
noncomputable def ofR (r : Rat) : Frc := if fits r then mk r else bf
abbrev inF (x : Frc) : Prop := inB x.N ∧ inB x.D
def qF (x : Frc) : Option Rat := match iv x.N, iv x.D with
 | some n, some d => if 0 < d ∧ Nat.gcd n.natAbs d.natAbs = 1 then some (Rat.divInt n d) else none
 | _, _ => none
noncomputable def mkB (n d : Big) : Frc := match iv n, iv d with
 | some a, some b => if b = 0 then bf else ofR (Rat.divInt a b)
 | _, _ => bf
theorem in_mk {N D : Big} (h1 : inB N) (h2 : inB D) : inF ⟨N, D⟩ := And.intro h1 h2
theorem bf_in : inF bf := in_mk bad_in (big_in 1)
theorem mk_in (r : Rat) : inF (mk r) := in_mk (big_in _) (big_in _)
theorem ofR_in (r : Rat) : inF (ofR r) := by unfold ofR; split; exact mk_in r; exact bf_in
theorem mkB_in (n d : Big) : inF (mkB n d) := by
 unfold mkB; split
 ·split; exact bf_in; exact ofR_in _
 ·exact bf_in
theorem ofR_fits {r : Rat} (h : fits r) : ofR r = mk r := by unfold ofR; rw [if_pos h]
theorem ofR_not {r : Rat} (h : ¬ fits r) : ofR r = bf := by unfold ofR; rw [if_neg h]
theorem qF_none {N D : Big} (h : iv N = none) : qF ⟨N, D⟩ = none := by
 unfold qF
 dsimp only
 rw [h]
theorem qF_bf : qF bf = none := by
 unfold bf
 exact qF_none iv_bad
theorem qF_of {N D : Big} {n d : Int} (hn : iv N = some n) (hd : iv D = some d) (h0 : 0 < d) (hc : Nat.gcd n.natAbs d.natAbs = 1) : qF ⟨N, D⟩ = some (Rat.divInt n d) := by
 unfold qF
 dsimp only
 rw [hn, hd]
 dsimp only
 rw [if_pos ⟨h0, hc⟩]
theorem qF_mk {r : Rat} (h : fits r) : qF (mk r) = some r := by
 have hc : Nat.gcd r.num.natAbs ((r.den : Int)).natAbs = 1 := by rw [Int.natAbs_natCast]; exact r.reduced
 have := qF_of (iv_big h.1) (iv_big h.2) (den_pos r) hc
 rw [Rat.num_divInt_den] at this
 exact this
theorem qF_some {x : Frc} {r : Rat} (hx : inF x) (h : qF x = some r) : fits r ∧ x = mk r := by
 unfold qF at h
 split at h
 ·next n d hn hd =>
  obtain ⟨_, en, rn⟩ := iv_some hx.1 hn
  obtain ⟨_, ed, rd⟩ := iv_some hx.2 hd
  split at h
  ·next hc =>
   have e := divInt_cop hc.1 hc.2
   cases h
   refine ⟨⟨by rw [e.1]; exact rn, by rw [e.2]; exact rd⟩, ?_⟩
   unfold mk
   rw [e.1, e.2, ← en, ← ed]
  ·cases h
 ·cases h
theorem fq_mul {q g : Int} (h : g ≠ 0) : fq (q * g) g = q := by
 refine (fq_unique h (r := 0) (by rw [Int.mul_comm]; omega) ?_ (.inl rfl)).1.symm
 have := absZ_pos h
 simpa [absZ] using this
theorem red_fits {n d : Int} (hd : d ≠ 0) (rn : InM n) (rd : InM d) : fits (Rat.divInt n d) := by
 obtain ⟨g0, e1, e2⟩ := red (n := n) hd
 have key : ∀ {a g m : Int}, g ≠ 0 → a * g = m → InM m → InM a := fun {a g m} hg e hm => by
  have h1 : a.natAbs * g.natAbs = m.natAbs := by rw [← Int.natAbs_mul, e]
  have h2 : a.natAbs * 1 ≤ a.natAbs * g.natAbs := Nat.mul_le_mul_left _ (by omega)
  constructor <;> have := hm.1 <;> have := hm.2 <;> omega
 exact ⟨key g0 e1 rn, key g0 e2 rd⟩
theorem goodz_y {x : Big} : q_good_S FF x = some (goodB x) := by
 refine Yld.eq ?_
 unfold q_good_S goodB
 cases h : x.Bad with
 | true => exact Yld.g0 rfl (Yld.some (by simp))
 | false => exact Yld.g1 rfl (Yld.bindE (Valid_y FF x) (Yld.some (by simp [h])))
theorem one_y : q_one_S FF = some (big 1) := by
 unfold q_one_S
 rw [Of_v (by decide) (by decide)]; rfl
theorem Bad_f : q_Bad_S FF = some bf := by
 unfold q_Bad_S
 rw [Bad_y, Option.bind_some, one_y]; rfl
theorem sgn_pos {d : Int} : decide (0 < sgn d) = decide (0 < d) := by rw [decide_eq_decide]; unfold sgn; split <;> (try split) <;> omega
theorem sgn_neg {d : Int} : decide (sgn d < 0) = decide (d < 0) := by rw [decide_eq_decide]; unfold sgn; split <;> (try split) <;> omega
theorem sgn_zero {d : Int} : decide (sgn d = 0) = decide (d = 0) := by rw [decide_eq_decide]; unfold sgn; split <;> (try split) <;> omega
theorem Good_f {x : Frc} (hx : inF x) : q_Good_S FF x = some (qF x).isSome := by
 refine Yld.eq ?_
 unfold q_Good_S qF
 refine Yld.bindE goodz_y ?_
 cases hn : iv x.N with
 | none =>
  rw [iv_none hn]
  exact Yld.g0 rfl (Yld.g0 rfl (Yld.g0 rfl (Yld.g0 rfl (Yld.some rfl))))
 | some n =>
  obtain ⟨gn, en, rn⟩ := iv_some hx.1 hn
  rw [gn]
  refine Yld.g1 rfl (Yld.bindE goodz_y ?_)
  cases hd : iv x.D with
  | none =>
   rw [iv_none hd]
   exact Yld.g0 rfl (Yld.g0 rfl (Yld.g0 rfl (Yld.some rfl)))
  | some d =>
   obtain ⟨gd, ed, rd⟩ := iv_some hx.2 hd
   rw [gd, en, ed]
   refine Yld.g1 rfl (Yld.bindE (Sign_v rd) ?_)
   rw [sgn_pos]
   by_cases h0 : 0 < d
   ·rw [decide_eq_true h0]
    refine Yld.g1 rfl (Yld.bindE (Gcd_v rn rd) (Yld.g1 rfl (Yld.bindE one_y (Yld.some ?_))))
    have hg : InM (Nat.gcd n.natAbs d.natAbs : Nat) := by
     have := Nat.gcd_le_right n.natAbs (show 0 < d.natAbs by omega)
     have := rd.1; have := rd.2
     constructor <;> omega
    have e : (big (Nat.gcd n.natAbs d.natAbs : Nat) = big 1) = (Nat.gcd n.natAbs d.natAbs = 1) := by
     rw [eq_iff_iff, big_inj hg one_InM]; omega
    simp only [e]
    by_cases h1 : Nat.gcd n.natAbs d.natAbs = 1
    ·simp [h1, h0]
    ·simp [h1]
   ·rw [decide_eq_false h0]
    refine Yld.g0 rfl (Yld.g0 rfl (Yld.some ?_))
    simp [h0]
theorem Make_f {n d : Big} (hn : inB n) (hd : inB d) : q_Make_S FF n d = some (mkB n d) := by
 refine Yld.eq ?_
 unfold q_Make_S mkB
 refine Yld.bindE goodz_y ?_
 cases ha : iv n with
 | none =>
  rw [iv_none ha]
  exact Yld.g0 rfl (Yld.g0 rfl (Yld.ift rfl (Yld.bindE Bad_f (Yld.some rfl))))
 | some a =>
  obtain ⟨ga, rfl, ra⟩ := iv_some hn ha
  rw [ga]
  refine Yld.g1 rfl (Yld.bindE goodz_y ?_)
  cases hb : iv d with
  | none =>
   rw [iv_none hb]
   exact Yld.g0 rfl (Yld.ift rfl (Yld.bindE Bad_f (Yld.some rfl)))
  | some b =>
   obtain ⟨gb, rfl, rb⟩ := iv_some hd hb
   rw [gb]
   refine Yld.g1 rfl (Yld.bindE (Sign_v rb) ?_)
   rw [sgn_zero]
   by_cases h0 : b = 0
   ·rw [decide_eq_true h0]
    exact Yld.ift rfl (Yld.bindE Bad_f (Yld.some (by simp [h0])))
   ·rw [decide_eq_false h0]
    have hg : InM (Nat.gcd a.natAbs b.natAbs : Nat) := by
     have := Nat.gcd_le_right a.natAbs (show 0 < b.natAbs by omega)
     have := rb.1; have := rb.2
     constructor <;> omega
    have hgs : InM (gcdS a b) := by unfold gcdS; split <;> (have := hg.1; have := hg.2; constructor <;> omega)
    obtain ⟨g0, e1, e2⟩ := red (n := a) h0
    refine Yld.iff rfl (Yld.bindE (Gcd_v ra rb) (Yld.bind (P := fun g => g = big (gcdS a b)) (Yld.bindE (Sign_v rb) ?_) ?_))
    ·rw [sgn_neg]
     unfold gcdS
     refine Yld.ite (fun h => ?_) (fun h => ?_)
     ·rw [if_pos (of_decide_eq_true h), Neg_y FF1 (big_in _), one_big hg]; exact Yld.some rfl
     ·rw [if_neg (of_decide_eq_false h)]; exact Yld.some rfl
    ·rintro g rfl
     refine Yld.bindE (Quo_v ra hgs g0) (Yld.bindE (Quo_v rb hgs g0) (Yld.some ?_))
     dsimp only
     rw [if_neg h0, ofR_fits (red_fits h0 ra rb)]
     unfold mk
     have f1 : fq a (gcdS a b) = (Rat.divInt a b).num := by
      have := fq_mul (q := (Rat.divInt a b).num) g0
      rwa [e1] at this
     have f2 : fq b (gcdS a b) = ((Rat.divInt a b).den : Int) := by
      have := fq_mul (q := ((Rat.divInt a b).den : Int)) g0
      rwa [e2] at this
     rw [f1, f2]
end Go.Proofs.YtcbbilehdaaffaaGreatDoor

namespace Go.Proofs.YtcbbilehdaaffaaGreatDoor
open Go Go.Sk
set_option linter.unusedSimpArgs false
set_option linter.unusedVariables false
def un (f : Rat → Frc) (x : Frc) : Frc := match qF x with
 | some r => f r
 | none => bf
def bi (f : Rat → Rat → Frc) (x y : Frc) : Frc := match qF x, qF y with
 | some r, some s => f r s
 | _, _ => bf
theorem un_none {f : Rat → Frc} {x : Frc} (h : qF x = none) : un f x = bf := by unfold un; rw [h]
theorem un_some {f : Rat → Frc} {x : Frc} {r : Rat} (h : qF x = some r) : un f x = f r := by unfold un; rw [h]
theorem bi_none1 {f : Rat → Rat → Frc} {x y : Frc} (h : qF x = none) : bi f x y = bf := by unfold bi; rw [h]
theorem bi_none2 {f : Rat → Rat → Frc} {x y : Frc} (h : qF y = none) : bi f x y = bf := by unfold bi; rw [h]; cases qF x <;> rfl
theorem bi_some {f : Rat → Rat → Frc} {x y : Frc} {r s : Rat} (h : qF x = some r) (h2 : qF y = some s) : bi f x y = f r s := by unfold bi; rw [h, h2]
theorem neg_nd (r : Rat) : (-r).num = -r.num ∧ (-r).den = r.den := ⟨rfl, rfl⟩
theorem neg_fits {r : Rat} (h : fits r) : fits (-r) := by
 obtain ⟨⟨h1, h2⟩, h3⟩ := h
 exact ⟨by rw [(neg_nd r).1]; constructor <;> omega, by rw [(neg_nd r).2]; exact h3⟩
theorem mk_N (r : Rat) : (mk r).N = big r.num := by simp only [mk]
theorem mk_D (r : Rat) : (mk r).D = big r.den := by simp only [mk]
theorem Neg_f {x : Frc} (hx : inF x) : q_Neg_S FF x = some (un (fun r => ofR (-r)) x) := by
 refine Yld.eq ?_
 unfold q_Neg_S
 refine Yld.bindE (Good_f hx) ?_
 cases hq : qF x with
 | none => rw [un_none hq]; exact Yld.ift rfl (Yld.bindE Bad_f (Yld.some rfl))
 | some r =>
  obtain ⟨hf, rfl⟩ := qF_some hx hq
  rw [un_some hq, ofR_fits (neg_fits hf), mk_N, mk_D]
  refine Yld.iff rfl (Yld.bindE (x := big (-r.num)) (by rw [Neg_y FF1 (big_in _), one_big hf.1]; rfl) (Yld.some ?_))
  unfold mk
  rw [(neg_nd r).1, (neg_nd r).2]
theorem bi_in {f : Rat → Rat → Frc} (hf : ∀ r s, inF (f r s)) (x y : Frc) : inF (bi f x y) := by unfold bi; split; exact hf _ _; exact bf_in
theorem mkB_big {a b : Int} (ra : InM a) (rb : InM b) (h : b ≠ 0) : mkB (big a) (big b) = ofR (Rat.divInt a b) := by
 unfold mkB
 rw [iv_big ra, iv_big rb]
 dsimp only
 rw [if_neg h]
def qd (r s : Rat) : Int := ((r.den / Nat.gcd r.den s.den : Nat) : Int)
theorem qd_mul (r s : Rat) : (r.den : Int) = qd r s * (Nat.gcd r.den s.den : Nat) := by
 unfold qd
 have := Nat.div_mul_cancel (Nat.gcd_dvd_left r.den s.den)
 rw [← Int.natCast_mul, this]
theorem gcd_den_pos (r s : Rat) : (0 : Int) < (Nat.gcd r.den s.den : Nat) := by
 have := Nat.gcd_pos_of_pos_left s.den (show 0 < r.den from r.den_pos)
 omega
theorem qd_pos (r s : Rat) : 0 < qd r s := by
 have h := qd_mul r s
 have h0 := den_pos r
 have h1 := gcd_den_pos r s
 rcases (by omega : qd r s ≤ 0 ∨ 0 < qd r s) with h2 | h2
 ·have := Int.mul_nonpos_of_nonpos_of_nonneg h2 (Int.le_of_lt h1)
  omega
 ·exact h2
theorem qd_le (r s : Rat) : qd r s ≤ r.den := by
 unfold qd
 have := Nat.div_le_self r.den (Nat.gcd r.den s.den)
 omega
abbrev plus := fun a b : Int => some (a + b)
noncomputable def addR (r s : Rat) : Frc := mkB (two plus (big (r.num * qd s r)) (big (s.num * qd r s))) (big (qd r s * s.den))
theorem toB_some (z : Int) : toB (some z) = big z := rfl
theorem addR_ok {r s : Rat} (h1 : InM (r.num * qd s r)) (h2 : InM (s.num * qd r s)) (h3 : InM (r.num * qd s r + s.num * qd r s)) (h4 : InM (qd r s * s.den)) : addR r s = ofR (r + s) := by
 unfold addR
 rw [two_big h1 h2, toB_some, mkB_big h3 h4 (by have := Int.mul_pos (qd_pos r s) (den_pos s); omega), sum_q r s (qd_mul r s) (by have := qd_mul s r; rwa [Nat.gcd_comm] at this)]
theorem qd_in {r s : Rat} (h : fits r) : InM (qd r s) := by
 have := qd_pos r s
 have := qd_le r s
 have := h.2.2
 have := MM_pos
 constructor <;> omega
theorem fq_den (r s : Rat) : fq (r.den : Int) (Nat.gcd r.den s.den : Nat) = qd r s := by
 have := fq_mul (q := qd r s) (g := (Nat.gcd r.den s.den : Nat)) (by have := gcd_den_pos r s; omega)
 rwa [← qd_mul] at this
theorem gcd_in {r s : Rat} (h : fits r) : InM (Nat.gcd r.den s.den : Nat) := by
 have := Nat.gcd_le_left s.den (show 0 < r.den from r.den_pos)
 have := h.2.2
 have := MM_pos
 constructor <;> omega
theorem Add_f {x y : Frc} (hx : inF x) (hy : inF y) : q_Add_S FF x y = some (bi addR x y) := by
 refine Yld.eq ?_
 unfold q_Add_S
 refine Yld.bindE (Good_f hx) ?_
 cases hq : qF x with
 | none => rw [bi_none1 hq]; exact Yld.g0 rfl (Yld.ift rfl (Yld.bindE Bad_f (Yld.some rfl)))
 | some r =>
  obtain ⟨hf, rfl⟩ := qF_some hx hq
  refine Yld.g1 rfl (Yld.bindE (Good_f hy) ?_)
  cases hq2 : qF y with
  | none => rw [bi_none2 hq2]; exact Yld.ift rfl (Yld.bindE Bad_f (Yld.some rfl))
  | some s =>
   obtain ⟨hs, rfl⟩ := qF_some hy hq2
   rw [bi_some hq hq2, mk_N, mk_D, mk_N, mk_D]
   have e1 := fq_den r s
   have e2 := fq_den s r
   rw [Nat.gcd_comm] at e2
   have hg := gcd_den_pos r s
   have gi := gcd_in (s := s) hf
   refine Yld.iff rfl (Yld.bindE (Gcd_v hf.2 hs.2) ?_)
   rw [Int.natAbs_natCast, Int.natAbs_natCast]
   refine Yld.bindE (Quo_v hf.2 gi (by omega)) (Yld.bindE (Quo_v hs.2 gi (by omega)) ?_)
   rw [e1, e2]
   refine Yld.bindE (Mul_v hf.1 (qd_in hs)) (Yld.bindE (Mul_v hs.1 (qd_in hf)) (Yld.bindE (Add_y FF1 (big_in _) (big_in _)) (Yld.bindE (Mul_v (qd_in hf) hs.2) (Yld.bindE (Make_f (two_in _ _ _) (big_in _)) (Yld.some rfl)))))
noncomputable def subR (r s : Rat) : Frc := addR r (-s)
theorem prod_fits {r s : Rat} (hr : fits r) (hs : fits s) : fits (Rat.divInt r.num s.den) ∧ fits (Rat.divInt s.num r.den) :=
 ⟨red_fits (by have := den_pos s; omega) hr.1 hs.2, red_fits (by have := den_pos r; omega) hs.1 hr.2⟩
noncomputable def mulR (r s : Rat) : Frc := ofR (r * s)
theorem Mul_f {x y : Frc} (hx : inF x) (hy : inF y) : q_Mul_S FF x y = some (bi mulR x y) := by
 refine Yld.eq ?_
 unfold q_Mul_S
 refine Yld.bindE (Good_f hx) ?_
 cases hq : qF x with
 | none => rw [bi_none1 hq]; exact Yld.g0 rfl (Yld.ift rfl (Yld.bindE Bad_f (Yld.some rfl)))
 | some r =>
  obtain ⟨hf, rfl⟩ := qF_some hx hq
  refine Yld.g1 rfl (Yld.bindE (Good_f hy) ?_)
  cases hq2 : qF y with
  | none => rw [bi_none2 hq2]; exact Yld.ift rfl (Yld.bindE Bad_f (Yld.some rfl))
  | some s =>
   obtain ⟨hs, rfl⟩ := qF_some hy hq2
   rw [bi_some hq hq2, mk_N, mk_D, mk_N, mk_D]
   have h0 := den_pos r
   have h1 := den_pos s
   obtain ⟨fa, fb⟩ := prod_fits hf hs
   have hp := prod_q r s
   refine Yld.iff rfl (Yld.bindE (Make_f (big_in _) (big_in _)) (Yld.bindE (Make_f (big_in _) (big_in _)) ?_))
   rw [mkB_big hf.1 hs.2 (by omega), mkB_big hs.1 hf.2 (by omega), ofR_fits fa, ofR_fits fb, mk_N, mk_D, mk_N, mk_D]
   refine Yld.bindE (Mul_v fa.1 fb.1) (Yld.bindE (Mul_v fa.2 fb.2) ?_)
   rw [← hp.1, ← hp.2, big_Bad, big_Bad]
   unfold mulR
   by_cases h : fits (r * s)
   ·rw [ofR_fits h, decide_eq_true h.1, decide_eq_true h.2]
    exact Yld.iff rfl (Yld.some rfl)
   ·rw [ofR_not h]
    refine Yld.ift ?_ (Yld.bindE Bad_f (Yld.some rfl))
    by_cases h2 : InM (r * s).num
    ·have h3 : ¬ InM (r * s).den := fun h3 => h ⟨h2, h3⟩
     simp [h3]
    ·simp [h2]
theorem inv_r (s : Rat) : Rat.divInt s.den s.num = s⁻¹ := (Rat.inv_def s).symm
noncomputable def divR (r s : Rat) : Frc := if s.num = 0 then bf else ofR (r / s)
theorem divR_in (r s : Rat) : inF (divR r s) := by unfold divR; split; exact bf_in; exact ofR_in _
theorem mkB_zero {a : Int} {x : Big} : mkB x (big 0) = bf := by
 unfold mkB
 rw [iv_big zero_InM]
 cases iv x with
 | none => rfl
 | some a => dsimp only; rw [if_pos rfl]
theorem inv_fits {s : Rat} (h : s.num ≠ 0) (hs : fits s) : fits s⁻¹ := by rw [← inv_r]; exact red_fits h hs.2 hs.1
theorem mkB_inv {s : Rat} (hs : fits s) (h : s.num ≠ 0) : mkB (big s.den) (big s.num) = mk s⁻¹ := by
 rw [mkB_big hs.2 hs.1 h, inv_r, ofR_fits (inv_fits h hs)]
theorem Div_f {x y : Frc} (hx : inF x) (hy : inF y) : q_Div_S FF x y = some (bi divR x y) := by
 refine Yld.eq ?_
 unfold q_Div_S
 refine Yld.bindE (Good_f hy) ?_
 cases hq2 : qF y with
 | none => rw [bi_none2 hq2]; exact Yld.ift rfl (Yld.bindE Bad_f (Yld.some rfl))
 | some s =>
  obtain ⟨hs, rfl⟩ := qF_some hy hq2
  refine Yld.iff rfl ?_
  rw [mk_N, mk_D]
  refine Yld.bindE (Make_f (big_in _) (big_in _)) (Yld.bindE (Mul_f hx (mkB_in _ _)) (Yld.some ?_))
  cases hq : qF x with
  | none => rw [bi_none1 hq, bi_none1 hq]
  | some r =>
   rw [bi_some hq hq2]
   unfold divR
   by_cases h : s.num = 0
   ·rw [if_pos h, h, mkB_zero (a := 0), bi_none2 qF_bf]
   ·rw [if_neg h, mkB_inv hs h, bi_some hq (qF_mk (inv_fits h hs))]
    unfold mulR
    rw [Rat.div_def]
theorem Whole_f {n : Big} (hn : inB n) : q_Whole_S FF n = some (mkB n (big 1)) := by
 unfold q_Whole_S
 rw [one_y, Option.bind_some, Make_f hn (big_in 1)]; rfl
theorem int_nd (z : Int) : ((z : Rat)).num = z ∧ ((z : Rat)).den = 1 := ⟨rfl, rfl⟩
theorem int_fits {z : Int} (h : InM z) : fits (z : Rat) := by
 refine ⟨by rw [(int_nd z).1]; exact h, ?_⟩
 rw [(int_nd z).2]
 exact one_InM
theorem divInt_one (z : Int) : Rat.divInt z 1 = (z : Rat) := by
 rw [divInt_q]
 have : ((1 : Int) : Rat) = 1 := rfl
 rw [this, Rat.div_def]
 grind
theorem mkB_one {z : Int} (h : InM z) : mkB (big z) (big 1) = mk (z : Rat) := by
 rw [mkB_big h one_InM (by decide), divInt_one, ofR_fits (int_fits h)]
theorem in64_M {n : Int} (h : -9223372036854775808 ≤ n ∧ n ≤ 9223372036854775807) : InM n := by
 have := MM_big
 constructor <;> omega
theorem Of_f {n : Int} (h : -9223372036854775808 ≤ n ∧ n ≤ 9223372036854775807) : q_Of_S FF n = some (mk (n : Rat)) := by
 unfold q_Of_S
 rw [Of_v h.1 h.2, Option.bind_some, Whole_f (big_in _), mkB_one (in64_M h)]; rfl
theorem Frac_f {a b : Int} (ha : -9223372036854775808 ≤ a ∧ a ≤ 9223372036854775807) (hb : -9223372036854775808 ≤ b ∧ b ≤ 9223372036854775807) : q_Frac_S FF a b = some (mkB (big a) (big b)) := by
 unfold q_Frac_S
 rw [Of_v ha.1 ha.2, Option.bind_some, Of_v hb.1 hb.2, Option.bind_some, Make_f (big_in _) (big_in _)]; rfl
end Go.Proofs.YtcbbilehdaaffaaGreatDoor

namespace Go.Proofs.YtcbbilehdaaffaaGreatDoor
open Go Go.Sk
set_option linter.unusedSimpArgs false
set_option linter.unusedVariables false
end Go.Proofs.YtcbbilehdaaffaaGreatDoor

namespace Go.Proofs.YtcbbilehdaaffaaGreatDoor
open Go Go.Sk
set_option linter.unusedSimpArgs false
set_option linter.unusedVariables false
structure CmpI (c : Int) (p q r s o : Int) : Prop where
 ip : InM p
 iq : InM q
 ir : InM r
 is : InM s
 q0 : 0 < q
 s0 : 0 < s
 o1 : o = 1 ∨ o = -1
 val : o * cross p q r s = c
theorem CmpI.next {c p q r s o : Int} (h : CmpI c p q r s o) (he : p / q = r / s) (h1 : p % q ≠ 0) (h2 : r % s ≠ 0) : CmpI c q (p % q) s (r % s) (-o) := by
 have a0 := Int.emod_nonneg p (show q ≠ 0 by have := h.q0; omega)
 have a1 := Int.emod_lt_of_pos p h.q0
 have b0 := Int.emod_nonneg r (show s ≠ 0 by have := h.s0; omega)
 have b1 := Int.emod_lt_of_pos r h.s0
 have := h.iq.2
 have := h.is.2
 have := MM_pos
 refine ⟨h.iq, ⟨by omega, by omega⟩, h.is, ⟨by omega, by omega⟩, by omega, by omega, by have := h.o1; omega, ?_⟩
 rw [← h.val, cross_next he, Int.neg_mul, Int.mul_neg]
end Go.Proofs.YtcbbilehdaaffaaGreatDoor

namespace Go.Proofs.YtcbbilehdaaffaaGreatDoor
open Go Go.Sk
set_option linter.unusedSimpArgs false
set_option linter.unusedVariables false
theorem F4 : ∃ k, FF = k + 4 := ⟨FF - 4, by have := FF1; omega⟩
def sm (n : Int) : Bool := decide (-16 ≤ n) && decide (n ≤ 16)
def vU (u : MUnit) : Bool := sm u.M && sm u.Kg && sm u.S
theorem sm_iff {n : Int} : sm n = true ↔ -16 ≤ n ∧ n ≤ 16 := by simp [sm]
theorem vU_iff {u : MUnit} : vU u = true ↔ (-16 ≤ u.M ∧ u.M ≤ 16) ∧ (-16 ≤ u.Kg ∧ u.Kg ≤ 16) ∧ (-16 ≤ u.S ∧ u.S ≤ 16) := by simp [vU, sm_iff, and_assoc]
theorem Valid_u (u : MUnit) : unit_Valid_S FF u = some (vU u) := by
 obtain ⟨k, hk⟩ := F4
 rw [hk]
 unfold unit_Valid_S unit_exponents_S unit_small_S
 have w1 : IntKind.i64.wrap (0 + 1) = 1 := by decide
 have w2 : IntKind.i64.wrap (1 + 1) = 2 := by decide
 have w3 : IntKind.i64.wrap (2 + 1) = 3 := by decide
 have i0 : idx? (⟨u.M, u.Kg, u.S⟩ : A3).l 0 = some u.M := rfl
 have i1 : idx? (⟨u.M, u.Kg, u.S⟩ : A3).l 1 = some u.Kg := rfl
 have i2 : idx? (⟨u.M, u.Kg, u.S⟩ : A3).l 2 = some u.S := rfl
 simp only [Option.bind_some, iter_succ, show ((0 : Int) < 3) = True from by simp, show ((1 : Int) < 3) = True from by simp, show ((2 : Int) < 3) = True from by simp, show ((3 : Int) < 3) = False from by simp, decide_true, decide_false, if_true, Bool.false_eq_true, if_false, i0]
 unfold vU
 cases h1 : sm u.M
 ·simp only [sm] at h1; simp [h1, alt2]
 ·simp only [sm] at h1
  simp only [h1, Bool.not_true, Bool.false_eq_true, if_false, Option.bind_some, alt2, w1, iter_succ, show ((1 : Int) < 3) = True from by simp, decide_true, if_true, i1]
  cases h2 : sm u.Kg
  ·simp only [sm] at h2; simp [h2, alt2]
  ·simp only [sm] at h2
   simp only [h2, Bool.not_true, Bool.false_eq_true, if_false, Option.bind_some, alt2, w2, iter_succ, show ((2 : Int) < 3) = True from by simp, decide_true, if_true, i2]
   cases h3 : sm u.S
   ·simp only [sm] at h3; simp [h3, alt2]
   ·simp only [sm] at h3
    simp only [h3, Bool.not_true, Bool.false_eq_true, if_false, Option.bind_some, alt2, w3, iter_succ, show ((3 : Int) < 3) = False from by simp, decide_false, Bool.true_and]
theorem prod_rng {n v : Int} (hn : -16 ≤ n ∧ n ≤ 16) (hv : -16 ≤ v ∧ v ≤ 16) : -256 ≤ n * v ∧ n * v ≤ 256 := by
 have h : (n * v).natAbs ≤ 16 * 16 := by rw [Int.natAbs_mul]; exact Nat.mul_le_mul (by omega) (by omega)
 omega
def zU : MUnit := ⟨0, 0, 0⟩
def cmU (u v : MUnit) (n : Int) : MUnit := ⟨u.M + n * v.M, u.Kg + n * v.Kg, u.S + n * v.S⟩
def cmb (u v : MUnit) (n : Int) : MUnit × Int := if (vU u && vU v && sm n) = true then (if vU (cmU u v n) = true then (cmU u v n, 0) else (zU, 2)) else (zU, 1)
theorem vU_z : vU zU = true := by decide
theorem cmb_ok {u v : MUnit} {n : Int} (h1 : vU u = true) (h2 : vU v = true) (h3 : sm n = true) : cmb u v n = if vU (cmU u v n) = true then (cmU u v n, 0) else (zU, 2) := by unfold cmb; rw [h1, h2, h3]; rfl
theorem cmb_bad1 {u v : MUnit} {n : Int} (h1 : vU u = false) : cmb u v n = (zU, 1) := by unfold cmb; rw [h1]; rfl
theorem cmb_bad2 {u v : MUnit} {n : Int} (h1 : vU v = false) : cmb u v n = (zU, 1) := by unfold cmb; rw [h1]; cases vU u <;> rfl
theorem cmb_bad3 {u v : MUnit} {n : Int} (h1 : sm n = false) : cmb u v n = (zU, 1) := by unfold cmb; rw [h1]; cases vU u <;> cases vU v <;> rfl
theorem cmb_wrap {u v n : Int} (hu : -16 ≤ u ∧ u ≤ 16) (hn : -16 ≤ n ∧ n ≤ 16) (hv : -16 ≤ v ∧ v ≤ 16) : IntKind.i64.wrap (u + IntKind.i64.wrap (n * v)) = u + n * v := by
 have := prod_rng hn hv
 rw [wi64' (z := n * v) (by omega) (by omega), wi64' (by omega) (by omega)]
theorem combine_u (u v : MUnit) (n : Int) : unit_combine_S FF u v n = some (cmb u v n) := by
 refine Yld.eq ?_
 unfold unit_combine_S
 refine Yld.bindE (Valid_u u) ?_
 cases h1 : vU u
 ·rw [cmb_bad1 h1]; exact Yld.g0 rfl (Yld.g0 rfl (Yld.ift rfl (Yld.some rfl)))
 refine Yld.g1 rfl (Yld.bindE (Valid_u v) ?_)
 cases h2 : vU v
 ·rw [cmb_bad2 h2]; exact Yld.g0 rfl (Yld.ift rfl (Yld.some rfl))
 refine Yld.g1 rfl (Yld.bindE (show unit_small_S FF n = some (sm n) from rfl) ?_)
 cases h3 : sm n
 ·rw [cmb_bad3 h3]; exact Yld.ift rfl (Yld.some rfl)
 obtain ⟨a1, a2, a3⟩ := vU_iff.1 h1
 obtain ⟨b1, b2, b3⟩ := vU_iff.1 h2
 have c := sm_iff.1 h3
 rw [cmb_ok h1 h2 h3]
 refine Yld.iff rfl (Yld.lnE _ (cmb_wrap a1 c b1) (Yld.lnE _ (cmb_wrap a2 c b2) (Yld.lnE _ (cmb_wrap a3 c b3) (Yld.bindE (Valid_u (cmU u v n)) ?_))))
 cases h4 : vU (cmU u v n)
 ·exact Yld.ift rfl (Yld.some rfl)
 ·exact Yld.iff rfl (Yld.some rfl)
theorem Mul_u (u v : MUnit) : unit_Mul_S FF u v = some (cmb u v 1) := by unfold unit_Mul_S; rw [combine_u]; rfl
end Go.Proofs.YtcbbilehdaaffaaGreatDoor

namespace Go.Proofs.YtcbbilehdaaffaaGreatDoor
open Go Go.Sk
set_option linter.unusedSimpArgs false
set_option linter.unusedVariables false
def zQ : Quantity := ⟨⟨⟨false, false, A16.zero⟩, ⟨false, false, A16.zero⟩⟩, zU⟩
def rt (a : Quantity) : Bool := (qF a.V).isSome && vU a.U
abbrev inQ (a : Quantity) : Prop := inF a.V
theorem w01 : IntKind.i64.wrap (0 + 1) = 1 := by decide
theorem w12 : IntKind.i64.wrap (1 + 1) = 2 := by decide
theorem isRight_2 {a b : Quantity} (ha : inQ a) (hb : inQ b) : unit_isRight_S FF [a, b] = some (rt a && rt b) := by
 obtain ⟨k, hk⟩ := F4
 have hg : q_Good_S (k + 4) a.V = some (qF a.V).isSome := by rw [← hk]; exact Good_f ha
 have hv : unit_Valid_S (k + 4) a.U = some (vU a.U) := by rw [← hk]; exact Valid_u _
 have hg2 : q_Good_S (k + 4) b.V = some (qF b.V).isSome := by rw [← hk]; exact Good_f hb
 have hv2 : unit_Valid_S (k + 4) b.U = some (vU b.U) := by rw [← hk]; exact Valid_u _
 rw [hk]
 unfold unit_isRight_S rt
 have e1 : (([a, b].length : Nat) : Int) = 2 := rfl
 have i0 : idx? [a, b] 0 = some a := rfl
 have i1 : idx? [a, b] 1 = some b := rfl
 simp only [e1, iter_succ, show ((0 : Int) < 2) = True from by simp, show ((1 : Int) < 2) = True from by simp, show ((2 : Int) < 2) = False from by simp, decide_true, if_true, i0, Option.bind_some, hg]
 cases (qF a.V).isSome
 ·rfl
 ·simp only [Bool.not_true, Bool.not_false, gcall, if_true, hv, Option.bind_some]
  cases vU a.U
  ·rfl
  ·simp only [w01, alt2, iter_succ, show ((1 : Int) < 2) = True from by simp, decide_true, if_true, Bool.false_eq_true, if_false, Bool.not_true, Bool.or_false, Option.bind_some, Bool.true_and, i1, hg2]
   cases (qF b.V).isSome
   ·rfl
   ·simp only [Bool.not_true, Bool.not_false, gcall, if_true, hv2, Option.bind_some]
    cases vU b.U
    ·rfl
    ·simp only [w12, alt2, iter_succ, show ((2 : Int) < 2) = False from by simp, decide_false, Bool.false_eq_true, if_false, Bool.not_true, Bool.or_false, Option.bind_some, Bool.true_and]
def quF (v : Frc) (u : MUnit) : Quantity × Int := if (qF v).isSome = true then (⟨v, u⟩, 0) else (zQ, 30)
theorem quantity_q {v : Frc} {u : MUnit} (h : inF v) : unit_quantity_S FF v u = some (quF v u) := by
 unfold unit_quantity_S quF
 rw [Good_f h]
 cases (qF v).isSome <;> rfl
def doQ (nf : Frc → Frc → Frc) (uf : MUnit → MUnit → MUnit × Int) (a b : Quantity) : Quantity × Int :=
 if (rt a && rt b) = true then (if (uf a.U b.U).2 ≠ 0 then (zQ, (uf a.U b.U).2) else quF (nf a.V b.V) (uf a.U b.U).1) else (zQ, 1)
theorem doQ_bad {nf : Frc → Frc → Frc} {uf : MUnit → MUnit → MUnit × Int} {a b : Quantity} (h : (rt a && rt b) = false) : doQ nf uf a b = (zQ, 1) := by unfold doQ; rw [h]; rfl
theorem doQ_err {nf : Frc → Frc → Frc} {uf : MUnit → MUnit → MUnit × Int} {a b : Quantity} (h : (rt a && rt b) = true) (h2 : (uf a.U b.U).2 ≠ 0) : doQ nf uf a b = (zQ, (uf a.U b.U).2) := by unfold doQ; rw [if_pos h, if_pos h2]
theorem doQ_ok {nf : Frc → Frc → Frc} {uf : MUnit → MUnit → MUnit × Int} {a b : Quantity} (h : (rt a && rt b) = true) (h2 : (uf a.U b.U).2 = 0) : doQ nf uf a b = quF (nf a.V b.V) (uf a.U b.U).1 := by unfold doQ; rw [if_pos h, if_neg (by omega)]
theorem do_q {o : Oprn} {nf : Frc → Frc → Frc} {uf : MUnit → MUnit → MUnit × Int} {a b : Quantity} (ha : inQ a) (hb : inQ b) (hn : numberFn_S FF o.numbers a.V b.V = some (nf a.V b.V)) (hi : inF (nf a.V b.V)) (hu : unitFn_S FF o.units a.U b.U = some (uf a.U b.U)) :
  unit_operation_do_S FF o a b = some (doQ nf uf a b) := by
 refine Yld.eq ?_
 unfold unit_operation_do_S
 refine Yld.bindE (isRight_2 ha hb) ?_
 cases h1 : (rt a && rt b)
 ·rw [doQ_bad h1]; exact Yld.ift rfl (Yld.some rfl)
 refine Yld.iff rfl (Yld.bindE hu ?_)
 by_cases h2 : (uf a.U b.U).2 = 0
 ·rw [doQ_ok h1 h2]
  refine Yld.iff (by simp [h2]) (Yld.bindE hn (Yld.bindE (quantity_q hi) (Yld.some rfl)))
 ·rw [doQ_err h1 h2]
  exact Yld.ift (by simp [h2]) (Yld.some rfl)
noncomputable abbrev addF := bi addR
noncomputable abbrev subF := bi subR
noncomputable abbrev mulF := bi mulR
noncomputable abbrev divF := bi divR
theorem mulF_in (x y : Frc) : inF (mulF x y) := bi_in (fun r s => ofR_in _) x y
theorem divF_in (x y : Frc) : inF (divF x y) := bi_in divR_in x y
def mulU (u v : MUnit) := cmb u v 1
theorem Times_q {a b : Quantity} (ha : inQ a) (hb : inQ b) : unit_Times_S FF a b = some (doQ mulF mulU a b) := by
 unfold unit_Times_S
 rw [do_q (o := ⟨25, 26⟩) (nf := mulF) (uf := mulU) ha hb (Mul_f ha hb) (mulF_in _ _) (Mul_u _ _)]; rfl
theorem max_abs {n : Int} (h : -16 ≤ n ∧ n ≤ 16) : max n (IntKind.i64.wrap (-n)) = (n.natAbs : Int) := by
 rw [wi64' (by omega) (by omega)]; omega
theorem Of_1 : q_Of_S FF 1 = some (mk ((1 : Int) : Rat)) := Of_f (by decide)
end Go.Proofs.YtcbbilehdaaffaaGreatDoor

namespace Go.Sk
set_option linter.unusedSimpArgs false
set_option linter.unusedVariables false
open Go
theorem dd_small {u : Nat} (h : u < 10) : Lib.decDigits u = [UInt8.ofNat (48 + u)] := by rw [Lib.decDigits, dif_pos h]
theorem dd_big {u : Nat} (h : ¬ u < 10) : Lib.decDigits u = Lib.decDigits (u / 10) ++ [UInt8.ofNat (48 + u % 10)] := by rw [Lib.decDigits, dif_neg h]
def fd : Nat → Nat → Str
 | 0, _ => []
 | k + 1, r => fd k (r / 10) ++ [UInt8.ofNat (48 + r % 10)]
theorem fd_zero : ∀ k, fd k 0 = List.replicate k 48
 | 0 => rfl
 | k + 1 => by
  show fd k (0 / 10) ++ [UInt8.ofNat (48 + 0 % 10)] = _
  have : fd k (0 / 10) = List.replicate k 48 := fd_zero k
  rw [this, List.replicate_succ']
  rfl
theorem dd_split {q : Nat} (hq : 0 < q) : ∀ (k r : Nat), r < 10 ^ k → Lib.decDigits (q * 10 ^ k + r) = Lib.decDigits q ++ fd k r
 | 0, r, h => by
  have h0 : r = 0 := by rw [Nat.pow_zero] at h; omega
  subst h0
  rw [Nat.pow_zero, Nat.mul_one, Nat.add_zero]
  simp [fd]
 | k + 1, r, h => by
  have e : q * 10 ^ (k + 1) = 10 * (q * 10 ^ k) := by rw [Nat.pow_succ]; grind
  rw [Nat.pow_succ] at h
  have hp : 1 ≤ q * 10 ^ k := Nat.mul_pos hq (Nat.pow_pos (by decide))
  have h1 : ¬ q * 10 ^ (k + 1) + r < 10 := by omega
  rw [dd_big h1]
  have e1 : (q * 10 ^ (k + 1) + r) / 10 = q * 10 ^ k + r / 10 := by omega
  have e2 : (q * 10 ^ (k + 1) + r) % 10 = r % 10 := by omega
  rw [e1, e2, dd_split hq k (r / 10) (by omega), List.append_assoc]
  rfl
theorem dd_len_le : ∀ (k u : Nat), u < 10 ^ (k + 1) → (Lib.decDigits u).length ≤ k + 1
 | 0, u, h => by rw [dd_small (by simpa using h)]; exact Nat.le_refl _
 | k + 1, u, h => by
  by_cases h1 : u < 10
  ·rw [dd_small h1]; simp
  ·rw [Nat.pow_succ] at h
   rw [dd_big h1, List.length_append]
   have := dd_len_le k (u / 10) (by omega)
   simp
   omega
theorem fd_pad : ∀ (k r : Nat), r < 10 ^ (k + 1) → fd (k + 1) r = List.replicate (k + 1 - (Lib.decDigits r).length) 48 ++ Lib.decDigits r
 | 0, r, h => by
  have h1 : r < 10 := by simpa using h
  rw [dd_small h1]
  show [] ++ [UInt8.ofNat (48 + r % 10)] = _
  rw [Nat.mod_eq_of_lt h1]
  rfl
 | k + 1, r, h => by
  show fd (k + 1) (r / 10) ++ [UInt8.ofNat (48 + r % 10)] = _
  by_cases h1 : r < 10
  ·rw [dd_small h1, Nat.div_eq_of_lt h1, fd_zero, Nat.mod_eq_of_lt h1]
   simp
  ·rw [Nat.pow_succ] at h
   rw [fd_pad k (r / 10) (by omega), dd_big h1, List.length_append]
   have := dd_len_le k (r / 10) (by omega)
   rw [List.append_assoc]
   congr 2
   simp
def dv (l : Str) : Nat := l.foldl (fun acc c => 10 * acc + (c.toNat - 48)) 0
theorem dv_app (l : Str) (c : UInt8) : dv (l ++ [c]) = 10 * dv l + (c.toNat - 48) := by simp [dv]
def isDig (c : UInt8) : Prop := 48 ≤ c.toNat ∧ c.toNat ≤ 57
theorem dig_of {d : Nat} (h : d < 10) : (UInt8.ofNat (48 + d)).toNat = 48 + d := by simp; omega
theorem dd_dig (u : Nat) : ∀ c ∈ Lib.decDigits u, isDig c := by
 induction u using Nat.strongRecOn with
 | _ u ih =>
  by_cases h : u < 10
  ·rw [dd_small h]
   intro c hc
   rw [List.mem_singleton.1 hc]
   unfold isDig
   rw [dig_of h]; omega
  ·rw [dd_big h]
   intro c hc
   rcases List.mem_append.1 hc with g | g
   ·exact ih _ (by omega) c g
   ·rw [List.mem_singleton.1 g]
    unfold isDig
    rw [dig_of (by omega)]; omega
theorem dv_dd (u : Nat) : dv (Lib.decDigits u) = u := by
 induction u using Nat.strongRecOn with
 | _ u ih =>
  by_cases h : u < 10
  ·rw [dd_small h]
   show 10 * 0 + ((UInt8.ofNat (48 + u)).toNat - 48) = u
   rw [dig_of h]; omega
  ·rw [dd_big h, dv_app, ih _ (by omega), dig_of (by omega)]; omega
theorem head_app {m x : Str} (h : m ≠ []) : (m ++ x).head? = m.head? := by
 cases m with
 | nil => exact absurd rfl h
 | cons _ _ => rfl
def NoLead (l : Str) : Prop := l ≠ [] ∧ (l.head? = some 48 → l = [48])
theorem dd_head (u : Nat) : NoLead (Lib.decDigits u) := by
 induction u using Nat.strongRecOn with
 | _ u ih =>
  by_cases h : u < 10
  ·rw [dd_small h]
   refine ⟨by simp, fun hh => ?_⟩
   rw [Option.some.inj hh]
  ·rw [dd_big h]
   obtain ⟨h1, h2⟩ := ih (u / 10) (by omega)
   refine ⟨by simp, fun hh => ?_⟩
   rw [head_app h1] at hh
   have h3 := h2 hh
   have h4 := dv_dd (u / 10)
   rw [h3] at h4
   have : dv [48] = 0 := rfl
   omega
end Go.Sk

namespace Go.Sk
set_option linter.unusedSimpArgs false
set_option linter.unusedVariables false
open Go
theorem join_flat (xs : List Str) : Lib.join xs [] = xs.flatten := by
 cases xs with
 | nil => rfl
 | cons x r =>
  rw [Lib.join_cons]
  show x ++ (r.map ([] ++ ·)).flatten = _
  simp
theorem idx_get {α : Type} [Inhabited α] {l : List α} {i : Nat} (h : i < l.length) : l[i]? = some (idx l (i : Int)) := by
 have := idx_eq (xs := l) (i := (i : Int)) (by omega) (by omega)
 rw [Int.toNat_natCast] at this
 exact this
theorem MM155 : MM < 10 ^ 155 := by rw [MM_eq]; decide +kernel
theorem dd_MM {a : Int} (h : a < MM) : (Lib.decDigits a.toNat).length ≤ 155 := by
 refine dd_len_le 154 _ ?_
 have h2 := MM155
 have h3 : a < 10 ^ 155 := by omega
 rcases (by omega : a ≤ 0 ∨ 0 < a) with g | g
 ·have : a.toNat = 0 := by omega
  rw [this]; exact Nat.pow_pos (by decide)
 ·have : (a.toNat : Int) < ((10 ^ 155 : Nat) : Int) := by
   have e : ((10 ^ 155 : Nat) : Int) = 10 ^ 155 := by rw [Int.natCast_pow]; rfl
   rw [e]; omega
  exact Int.ofNat_lt.1 this
theorem itoa_nn {a : Int} (h : 0 ≤ a) : Lib.itoa a = Lib.decDigits a.toNat := by unfold Lib.itoa; rw [if_neg (by omega)]
theorem half_pow {W W' : Int} {k : Nat} (h0 : 0 ≤ W') (h : W' * 1000000000 ≤ W) (hk : W * 2 ^ k < MM) : W' * 2 ^ (k + 1) < MM := by
 have hp := pow2_pos k
 have h1 : W' * 2 ≤ W := by omega
 have h2 := Int.mul_le_mul_of_nonneg_right h1 (Int.le_of_lt hp)
 rw [Int.pow_succ]
 have e : W' * (2 ^ k * 2) = W' * 2 * 2 ^ k := by grind
 omega
theorem pow_bd {W : Int} {k : Nat} (h0 : 0 < W) (h : W * 2 ^ k < MM) : k < 512 := by
 have hp := pow2_pos k
 have h1 := Int.mul_le_mul_of_nonneg_right (show 1 ≤ W by omega) (Int.le_of_lt hp)
 rcases (by omega : k < 512 ∨ 512 ≤ k) with g | g
 ·exact g
 ·have h2 := pow2_le g
  have e : MM = 2 ^ 512 := by rw [MM_eq]; decide +kernel
  omega
theorem dd_nine {W : Int} (h0 : 0 < W / 1000000000) (hW : 0 ≤ W) : Lib.decDigits W.toNat = Lib.decDigits (W / 1000000000).toNat ++ fd 9 (W % 1000000000).toNat := by
 have e : W.toNat = (W / 1000000000).toNat * 10 ^ 9 + (W % 1000000000).toNat := by
  have : (10 : Nat) ^ 9 = 1000000000 := by decide
  omega
 rw [e]
 refine dd_split (by omega) 9 _ ?_
 have : (10 : Nat) ^ 9 = 1000000000 := by decide
 omega
end Go.Sk
namespace Go.Proofs.YtcbbilehdaaffaaGreatDoor
open Go Go.Sk
set_option linter.unusedSimpArgs false
set_option linter.unusedVariables false
theorem Reverse_y {F : Nat} {l : List Str} (hl : l.length ≤ 100000) (hF : 100000 < F) : slices_Reverse_S F l = some l.reverse := by
 refine Yld.eq ?_
 unfold slices_Reverse_S
 have hw : IntKind.i64.wrap ((l.length : Int) - 1) = (l.length : Int) - 1 := by rw [wi64]; omega
 rw [hw]
 refine Yld.ln (Yld.bind (P := (· = l.reverse)) (Yld.rounds l.length (fun (k : Nat) (st : List Str × Int × Int) => st.2.1 = (k : Int) ∧ st.2.2 = (l.length : Int) - 1 - (k : Int) ∧ st.1.length = l.length ∧ ∀ m, m < l.length → st.1[m]? = if m < k ∨ l.length < m + k + 1 then l[l.length - 1 - m]? else l[m]?) (by omega) ⟨rfl, by dsimp only; omega, rfl, fun m hm => by rw [if_neg (by omega)]⟩ ?_) (fun y hy => Yld.some hy))
 rintro k ⟨s, i, j⟩ hk ⟨rfl, rfl, sl, hs⟩
 dsimp only at sl hs
 dsimp only [un3]
 refine Yld.ite (fun h => ?_) (fun h => ?_)
 ·have h' := of_decide_eq_true h
  have ej : (l.length : Int) - 1 - (k : Int) = ((l.length - 1 - k : Nat) : Int) := by omega
  rw [ej]
  refine Yld.idx (by omega) (by omega) (Yld.idx (by omega) (by omega) (Yld.idx (by omega) (by omega) (Yld.idx (by omega) (by rw [List.length_set]; omega) (Yld.some (.inl ⟨_, rfl, ⟨by dsimp only; rw [wi64]; omega, by dsimp only; rw [wi64]; omega, by simp [sl], fun m hm => ?_⟩, by omega⟩)))))
  dsimp only
  simp only [Int.toNat_natCast]
  have g1 := idx_get (l := s) (i := k) (by omega)
  have g2 := idx_get (l := s) (i := l.length - 1 - k) (by omega)
  rw [hs k (by omega), if_neg (by omega)] at g1
  rw [hs _ (by omega), if_neg (by omega)] at g2
  rw [List.getElem?_set, List.length_set, List.getElem?_set]
  by_cases e1 : l.length - 1 - k = m
  ·rw [if_pos e1, if_pos (by omega), if_pos (by omega), ← g1]
   congr 1; omega
  ·rw [if_neg e1]
   by_cases e2 : k = m
   ·rw [if_pos e2, if_pos (by omega), if_pos (by omega), ← g2, e2]
   ·rw [if_neg e2, hs m hm]
    by_cases e3 : m < k ∨ l.length < m + k + 1
    ·rw [if_pos e3, if_pos (by omega)]
    ·rw [if_neg e3, if_neg (by omega)]
 ·have h' := of_decide_eq_false h
  refine Yld.some (.inr ⟨_, rfl, ?_⟩)
  apply List.ext_getElem?
  intro m
  by_cases hm : m < l.length
  ·rw [hs m hm, List.getElem?_reverse hm]
   split
   ·rfl
   ·congr 1; omega
  ·rw [List.getElem?_eq_none (by omega), List.getElem?_eq_none (by rw [List.length_reverse]; omega)]
theorem Text_y {F : Nat} (hF : 100000 < F) {x : Big} (hx : inB x) : w_Text_S F x = some (match iv x with | some a => Lib.itoa a | none => []) := by
  refine Yld.eq ?_
  unfold w_Text_S
  refine Yld.bindE (good1 (by omega) x) ?_
  cases ha : iv x with
  | none => rw [iv_none ha]; exact Yld.ift rfl (Yld.some rfl)
  | some a =>
    obtain ⟨ga, rfl, ra⟩ := iv_some hx ha
    obtain ⟨wa, na⟩ := sv_big_W ra
    have wa' : av (big a).W = absZ a := wa
    have hla := absZ_lt ra
    rw [ga, na]
    refine Yld.iff rfl ?_
    have hlen := dd_MM hla.2
    refine Yld.bind (P := fun p => p.length ≤ 1000 ∧ p.reverse.flatten = Lib.decDigits (absZ a).toNat) (Yld.rounds 512 (fun (k : Nat) (st : List Str × A16) => inD 4294967296 st.2.l ∧ st.1.length = k ∧ av st.2 * 2 ^ k < MM ∧ Lib.decDigits (absZ a).toNat = Lib.decDigits (av st.2).toNat ++ st.1.reverse.flatten) (by omega) ⟨big_in a, rfl, by dsimp only; rw [wa', Int.pow_zero, Int.mul_one]; exact hla.2, by dsimp only; rw [wa']; simp⟩ ?_) ?_
    · rintro k ⟨ps, w⟩ hk ⟨win_, pl, wb, hs⟩
      dsimp only at win_ pl wb hs
      dsimp only [un2]
      have hw0 := (av_range win_).1
      have hw1 := (av_range win_).2
      refine Yld.bindE (short_y (by omega) win_ (b := 1000000000) (by decide)) ?_
      dsimp only [un2]
      obtain ⟨r, hr⟩ : ∃ r, r = av w % 1000000000 := ⟨_, rfl⟩
      have hr0 : 0 ≤ r ∧ r < 1000000000 := by omega
      rw [← hr, wi64' (by omega) (by omega)]
      have hrl : (Lib.decDigits r.toNat).length ≤ 9 := dd_len_le 8 _ (by have : (10 : Nat) ^ (8 + 1) = 1000000000 := by decide
                                                                         omega)
      have hit : strconv_Itoa_S F r = some (Lib.decDigits r.toNat) := by
        unfold strconv_Itoa_S itoa?
        rw [itoa_nn hr0.1, if_pos (by omega)]
      refine Yld.bindE hit ?_
      have hq0 : 0 ≤ av w / 1000000000 := Int.ediv_nonneg hw0 (by decide)
      refine Yld.ite (fun h => ?_) (fun h => ?_)
      · have hz : av w / 1000000000 = 0 := (toA_zero_iff hq0 (by omega)).1 (of_decide_eq_true h)
        have hwr : av w = r := by omega
        refine Yld.app (by simp; omega) (Yld.some (.inr ⟨_, rfl, by simp; omega, ?_⟩))
        rw [List.reverse_append, List.flatten_append, hs, hwr]
        simp
      · have hz : av w / 1000000000 ≠ 0 := fun e => (of_decide_eq_false h) ((toA_zero_iff hq0 (by omega)).2 e)
        have hqp : 0 < av w / 1000000000 := by omega
        have hwl : IntKind.i64.wrap (9 - ((Lib.decDigits r.toNat).length : Int)) = ((9 - (Lib.decDigits r.toNat).length : Nat) : Int) := by rw [wi64]; omega
        have hrep : strings_Repeat_S F [48] ((9 - (Lib.decDigits r.toNat).length : Nat) : Int) = some (List.replicate (9 - (Lib.decDigits r.toNat).length) 48) := by
          unfold strings_Repeat_S repeat?
          rw [Int.toNat_natCast, if_pos ⟨by omega, by omega, by simp; omega⟩]
          have := Lib.repeatL_replicate 48 1 (9 - (Lib.decDigits r.toNat).length)
          rw [Nat.mul_one] at this
          exact congrArg some this
        rw [hwl]
        refine Yld.ln (Yld.bindE hrep (Yld.app (by simp; omega) (Yld.app (by simp; omega) (Yld.some (.inl ⟨_, rfl, ?_⟩)))))
        have hb := half_pow hq0 (by omega) wb
        have hqm : av (toA (av w / 1000000000)) = av w / 1000000000 := by rw [av_toA, Int.emod_eq_of_lt hq0 (by omega)]
        have hk2 := pow_bd hqp hb
        refine ⟨⟨toA_in _, by simp [pl], by dsimp only; rw [hqm]; exact hb, ?_⟩, by omega⟩
        dsimp only
        rw [hqm, hs, dd_nine hqp hw0, ← hr, fd_pad 8 r.toNat (by have : (10 : Nat) ^ (8 + 1) = 1000000000 := by decide
                                                                 omega), List.reverse_append, List.flatten_append]
        simp
    · rintro ps ⟨pl, pf⟩
      refine Yld.bind (P := fun p => p.length ≤ 2000 ∧ p.reverse.flatten = Lib.itoa a) ?_ ?_
      · refine Yld.ite (fun h => ?_) (fun h => ?_)
        · have hneg : a < 0 := of_decide_eq_true h
          refine Yld.app (by simp; omega) (Yld.some ⟨by simp; omega, ?_⟩)
          rw [List.reverse_append, List.flatten_append, pf]
          unfold Lib.itoa
          rw [if_pos hneg]
          have e : (absZ a).toNat = a.natAbs := by unfold absZ; rw [if_pos hneg]; omega
          rw [e]; rfl
        · have hneg : ¬ a < 0 := of_decide_eq_false h
          refine Yld.some ⟨by omega, ?_⟩
          rw [pf]
          unfold Lib.itoa
          have e : absZ a = a := if_neg hneg
          rw [if_neg hneg, e]
      · rintro p ⟨p1, p2⟩
        refine Yld.bindE (Reverse_y (by omega) hF) ?_
        have hj : strings_Join_S F p.reverse [] = some (Lib.itoa a) := by
          unfold strings_Join_S join?
          rw [join_flat, p2, if_pos]
          refine ⟨by simp; omega, ?_⟩
          unfold Lib.itoa
          have h1 := hlen
          split
          · next hneg =>
            have e : (absZ a).toNat = a.natAbs := by unfold absZ; rw [if_pos hneg]; omega
            rw [e] at h1
            simp; omega
          · next hneg =>
            have e : absZ a = a := if_neg hneg
            rw [e] at h1
            omega
        exact Yld.bindE hj (Yld.some rfl)
end Go.Proofs.YtcbbilehdaaffaaGreatDoor

namespace Go.Sk
set_option linter.unusedSimpArgs false
set_option linter.unusedVariables false
end Go.Sk
namespace Go.Proofs.YtcbbilehdaaffaaGreatDoor
open Go Go.Sk
set_option linter.unusedSimpArgs false
set_option linter.unusedVariables false
end Go.Proofs.YtcbbilehdaaffaaGreatDoor

namespace Go.Sk
set_option linter.unusedSimpArgs false
set_option linter.unusedVariables false
open Go
def sgnS (s : Str) : Bool := decide (s.head? = some 45)
def digS (s : Str) : Str := if sgnS s = true then s.drop 1 else s
def illS (s : Str) : Prop := digS s = [] ∨ (digS s).head? = some 48 ∧ s ≠ [48]
inductive RdS (s : Str) : Big × Int → Prop where
 | ill (h : illS s) : RdS s (bad, 281)
 | char (h : ¬ illS s) (c : UInt8) (hc : c ∈ digS s) (hn : ¬ isDig c) : RdS s (bad, 281)
 | long (h : ¬ illS s) (hd : ∀ c ∈ digS s, isDig c) (hv : MM ≤ dv (digS s)) : RdS s (bad, 30)
 | num (h : ¬ illS s) (hd : ∀ c ∈ digS s, isDig c) (hv : (dv (digS s) : Int) < MM) : RdS s (big (if sgnS s = true then -(dv (digS s) : Int) else dv (digS s)), 0)
theorem RdS.one {s : Str} {p q : Big × Int} (hp : RdS s p) (hq : RdS s q) : p = q := by
 cases hp with
 | ill h =>
  cases hq with
  | ill _ => rfl
  | char h2 _ _ _ => exact absurd h h2
  | long h2 _ _ => exact absurd h h2
  | num h2 _ _ => exact absurd h h2
 | char h c hc hn =>
  cases hq with
  | ill h2 => exact absurd h2 h
  | char _ _ _ _ => rfl
  | long _ hd _ => exact absurd (hd c hc) hn
  | num _ hd _ => exact absurd (hd c hc) hn
 | long h hd hv =>
  cases hq with
  | ill h2 => exact absurd h2 h
  | char _ c hc hn => exact absurd (hd c hc) hn
  | long _ _ _ => rfl
  | num _ _ hv2 => omega
 | num h hd hv =>
  cases hq with
  | ill h2 => exact absurd h2 h
  | char _ c hc hn => exact absurd (hd c hc) hn
  | long _ _ hv2 => omega
  | num _ _ _ => rfl
end Go.Sk
namespace Go.Proofs.YtcbbilehdaaffaaGreatDoor
open Go Go.Sk
set_option linter.unusedSimpArgs false
set_option linter.unusedVariables false
end Go.Proofs.YtcbbilehdaaffaaGreatDoor

namespace Go.Sk
open Go
end Go.Sk
namespace Go.Proofs.YtcbbilehdaaffaaGreatDoor
open Go Go.Sk
set_option linter.unusedSimpArgs false
set_option linter.unusedVariables false
end Go.Proofs.YtcbbilehdaaffaaGreatDoor

namespace Go.Sk
set_option linter.unusedSimpArgs false
set_option linter.unusedVariables false
open Go
theorem itoa_len {a : Int} (ra : -MM < a ∧ a < MM) : (Lib.itoa a).length ≤ 500 := by
 by_cases h : a < 0
 ·have h1 := dd_MM (a := -a) (by omega)
  have e : (-a).toNat = a.natAbs := by omega
  rw [e] at h1
  unfold Lib.itoa; rw [if_pos h, List.length_cons]; omega
 ·have h1 := dd_MM (a := a) ra.2
  rw [itoa_nn (by omega)]; omega
end Go.Sk

namespace Go.Sk
open Go
set_option linter.unusedSimpArgs false
set_option linter.unusedVariables false
def sl : Str → Nat
 | [] => 0
 | c :: r => if c = 47 then 0 else sl r + 1
end Go.Sk
namespace Go.Proofs.YtcbbilehdaaffaaGreatDoor
open Go Go.Sk
set_option linter.unusedSimpArgs false
set_option linter.unusedVariables false
def txB (x : Big) : Str := match iv x with
 | some a => Lib.itoa a
 | none => []
theorem wText {x : Big} (hx : inB x) : w_Text_S FF x = some (txB x) := by
 rw [Text_y FF2 hx]; unfold txB; try (cases iv x <;> rfl)
theorem txB_len {x : Big} (hx : inB x) : (txB x).length ≤ 500 := by
 unfold txB
 cases h : iv x with
 | none => simp
 | some a => exact itoa_len (iv_some hx h).2.2
def txF (x : Frc) : Str := if (qF x).isSome = true then (if x.D = big 1 then txB x.N else txB x.N ++ 47 :: txB x.D) else []
theorem Text_f {x : Frc} (hx : inF x) : q_Text_S FF x = some (txF x) := by
 refine Yld.eq ?_
 unfold q_Text_S txF
 refine Yld.bindE (Good_f hx) ?_
 cases h : (qF x).isSome with
 | false => exact Yld.ift rfl (Yld.some rfl)
 | true =>
  refine Yld.iff rfl (Yld.bindE one_y ?_)
  rw [if_pos rfl]
  refine Yld.ite (fun h1 => ?_) (fun h1 => ?_)
  ·rw [if_pos (of_decide_eq_true h1)]
   exact Yld.bindE (wText hx.1) (Yld.some rfl)
  ·have l1 := txB_len hx.1
   have l2 := txB_len hx.2
   rw [if_neg (of_decide_eq_false h1)]
   refine Yld.bindE (wText hx.1) (Yld.app (by simp; omega) (Yld.bindE (wText hx.2) (Yld.app (by simp; omega) (Yld.some (by simp)))))
def rdF (p : Big) (e : Int) (q : Big) (f : Int) (two : Bool) (b : Str) : Frc × Int :=
 if e = 281 ∨ f = 281 ∨ two = true ∧ (b = [48] ∨ b = [49] ∨ b.head? = some 45) then (bf, 281)
 else if e ≠ 0 ∨ f ≠ 0 then (bf, 30)
 else if (qF ⟨p, q⟩).isSome = true then (⟨p, q⟩, 0) else (bf, 281)
def RdF (s : Str) (r : Frc × Int) : Prop := ∃ p e q f, RdS (s.take (sl s)) (p, e) ∧ (if sl s < s.length then RdS (s.drop (sl s + 1)) (q, f) else q = big 1 ∧ f = 0) ∧ r = rdF p e q f (decide (sl s < s.length)) (s.drop (sl s + 1))
theorem RdF.one {s : Str} {r t : Frc × Int} (h1 : RdF s r) (h2 : RdF s t) : r = t := by
 obtain ⟨p, e, q, f, a1, a2, rfl⟩ := h1
 obtain ⟨p', e', q', f', b1, b2, rfl⟩ := h2
 have c1 := RdS.one a1 b1
 cases c1
 by_cases h : sl s < s.length
 ·rw [if_pos h] at a2 b2
  have c2 := RdS.one a2 b2
  cases c2
  rfl
 ·rw [if_neg h] at a2 b2
  rw [a2.1, a2.2, b2.1, b2.2]
end Go.Proofs.YtcbbilehdaaffaaGreatDoor

namespace Go.Proofs.YtcbbilehdaaffaaGreatDoor
open Go Go.Sk
set_option linter.unusedSimpArgs false
set_option linter.unusedVariables false
def nm0 : Str := [109]
def nm1 : Str := [107, 103]
def nm2 : Str := [115]
end Go.Proofs.YtcbbilehdaaffaaGreatDoor

namespace Go.Proofs.YtcbbilehdaaffaaGreatDoor
open Go Go.Sk
set_option linter.unusedSimpArgs false
set_option linter.unusedVariables false
end Go.Proofs.YtcbbilehdaaffaaGreatDoor

namespace Go.Proofs.YtcbbilehdaaffaaGreatDoor
open Go Go.Sk
set_option linter.unusedSimpArgs false
set_option linter.unusedVariables false
theorem get_at {q : Str} {i : Nat} (h : i < q.length) : (⟨⟨q⟩⟩ : ByteArray).get! (i + 0) = q[i] := by
 show (⟨⟨q⟩⟩ : ByteArray).get! i = _
 have h2 : i < (⟨⟨q⟩⟩ : ByteArray).size := by show i < q.toArray.size; simpa using h
 show (q.toArray)[i]! = _
 rw [getElem!_pos q.toArray i (by simpa using h)]
 simp
theorem rune_ascii {q : Str} {i : Nat} (h : i < q.length) (hb : q[i].toNat < 128) : runeAt q i = q[i].toNat ∧ runeTo q i = i + 1 := by
 unfold runeAt runeTo Utf8.decode
 simp only [get_at h]
 rw [if_pos hb]
 exact ⟨rfl, rfl⟩
theorem rune_high {q : Str} {i : Nat} (h : i < q.length) (hb : 128 ≤ q[i].toNat) : 128 ≤ runeAt q i := by
 unfold runeAt Utf8.decode
 simp only [get_at h]
 rw [if_neg (by omega)]
 repeat' split
 all_goals first | (simp only [Utf8.runeError]; omega) | (simp only [Bool.and_eq_true, decide_eq_true_eq, ge_iff_le] at *; omega) | (dsimp only; omega) | skip
def pl (p : UInt8 → Bool) : Str → Nat
 | [] => 0
 | c :: s => if p c then pl p s + 1 else 0
theorem pl_t {p : UInt8 → Bool} {c : UInt8} {s : Str} (h : p c = true) : pl p (c :: s) = pl p s + 1 := if_pos h
theorem pl_f {p : UInt8 → Bool} {c : UInt8} {s : Str} (h : p c = false) : pl p (c :: s) = 0 := if_neg (by simp [h])
theorem pl_le (p : UInt8 → Bool) : ∀ s : Str, pl p s ≤ s.length
 | [] => Nat.le_refl _
 | c :: s => by
  have := pl_le p s
  cases hc : p c
  ·rw [pl_f hc]; exact Nat.zero_le _
  ·rw [pl_t hc, List.length_cons]; omega
theorem pl_in (p : UInt8 → Bool) : ∀ {s : Str} {i : Nat} (h : i < pl p s) (h2 : i < s.length), p s[i] = true
 | c :: s, i, h, h2 => by
  cases hc : p c
  ·rw [pl_f hc] at h; omega
  ·cases i with
   | zero => exact hc
   | succ i =>
    have h3 : i < pl p s := by rw [pl_t hc] at h; omega
    exact pl_in p h3 (by simpa using h2)
theorem pl_at (p : UInt8 → Bool) : ∀ {s : Str} (h : pl p s < s.length), p (s[pl p s]) = false
 | c :: s, h => by
  cases hc : p c
  ·simp only [pl_f hc]; exact hc
  ·have h2 : pl p s < s.length := by rw [pl_t hc] at h; simpa using h
   simp only [pl_t hc]; exact pl_at p h2
theorem pl_app {p : UInt8 → Bool} : ∀ {a b : Str}, (∀ c ∈ a, p c = true) → (∀ c, b.head? = some c → p c = false) → pl p (a ++ b) = a.length
 | [], [], _, _ => rfl
 | [], c :: b, _, h => pl_f (h c rfl)
 | c :: a, b, h, h2 => by
  show pl p (c :: (a ++ b)) = _
  rw [pl_t (h c (by simp)), pl_app (fun x hx => h x (by simp [hx])) h2]; rfl
def isL (c : UInt8) : Bool := (decide (97 ≤ c.toNat) && decide (c.toNat ≤ 122)) || (decide (65 ≤ c.toNat) && decide (c.toNat ≤ 90))
def isD (c : UInt8) : Bool := decide (48 ≤ c.toNat) && decide (c.toNat ≤ 57)
theorem isL_asc {c : UInt8} (h : isL c = true) : c.toNat < 128 := by simp [isL] at h; omega
theorem isD_asc {c : UInt8} (h : isD c = true) : c.toNat < 128 := by simp [isD] at h; omega
def gL (c : Int) : Bool := (decide (97 ≤ c) && decide (c ≤ 122)) || (decide (65 ≤ c) && decide (c ≤ 90))
def gD (c : Int) : Bool := decide (48 ≤ c) && decide (c ≤ 57)
theorem gL_nat (n : Nat) : gL (n : Int) = ((decide (97 ≤ n) && decide (n ≤ 122)) || (decide (65 ≤ n) && decide (n ≤ 90))) := by
 unfold gL
 rw [show decide ((97 : Int) ≤ (n : Int)) = decide (97 ≤ n) by rw [decide_eq_decide]; omega, show decide ((n : Int) ≤ 122) = decide (n ≤ 122) by rw [decide_eq_decide]; omega, show decide ((65 : Int) ≤ (n : Int)) = decide (65 ≤ n) by rw [decide_eq_decide]; omega, show decide ((n : Int) ≤ 90) = decide (n ≤ 90) by rw [decide_eq_decide]; omega]
theorem gD_nat (n : Nat) : gD (n : Int) = (decide (48 ≤ n) && decide (n ≤ 57)) := by
 unfold gD
 rw [show decide ((48 : Int) ≤ (n : Int)) = decide (48 ≤ n) by rw [decide_eq_decide]; omega, show decide ((n : Int) ≤ 57) = decide (n ≤ 57) by rw [decide_eq_decide]; omega]
theorem index_f {s : Str} {f : Nat} {truth : Bool} {g : Int → Bool} {p : UInt8 → Bool} (hs : s.length ≤ 10000) (hf : ∀ c, runeFn_S FF f c = some (g c)) (hp : ∀ c : UInt8, p c = true → c.toNat < 128)
  (hg : ∀ c : UInt8, (g (c.toNat : Int) == truth) = !p c) (hh : ∀ c : Int, 128 ≤ c → (g c == truth) = true) : strings_indexFunc_S FF s f truth = some (if pl p s < s.length then (pl p s : Int) else -1) := by
 refine Yld.eq ?_
 unfold strings_indexFunc_S
 have hle := pl_le p s
 refine Yld.bind (P := fun o => o = if pl p s < s.length then .inr (pl p s) else .inl ()) (Yld.rounds (pl p s) (fun k (i : Nat) => i = k) (by have := FF2; omega) rfl ?_) ?_
 ·rintro i k hk rfl
  by_cases h : k < s.length
  ·refine Yld.ift (decide_eq_true h) (Yld.bindE (hf _) ?_)
   by_cases h2 : k < pl p s
   ·have hc := pl_in p h2 h
    obtain ⟨e1, e2⟩ := rune_ascii h (hp _ hc)
    rw [e1, e2, hg, hc]
    exact Yld.iff rfl (Yld.some (.inl ⟨_, rfl, rfl, h2⟩))
   ·obtain rfl : k = pl p s := by omega
    have hc := pl_at p h
    have e : (g (runeAt s (pl p s)) == truth) = true := by
     by_cases hb : s[pl p s].toNat < 128
     ·rw [(rune_ascii h hb).1, hg, hc]; rfl
     ·exact hh _ (rune_high h (by omega))
    rw [e]
    exact Yld.ift rfl (Yld.some (.inr ⟨_, rfl, by rw [if_pos h]⟩))
  ·obtain rfl : k = pl p s := by omega
   exact Yld.iff (decide_eq_false h) (Yld.some (.inr ⟨_, rfl, by rw [if_neg h]⟩))
 ·rintro _ rfl
  by_cases h : pl p s < s.length
  ·rw [if_pos h, if_pos h]; exact Yld.some rfl
  ·rw [if_neg h, if_neg h]; exact Yld.some rfl
theorem letter_f (c : Int) : runeFn_S FF 173 c = some (gL c) := rfl
theorem digit_f (c : Int) : runeFn_S FF 120 c = some (gD c) := rfl
theorem nodigit_f (c : Int) : runeFn_S FF 119 c = some (!gD c) := rfl
theorem trim_f {s : Str} {f : Nat} {g : Int → Bool} {p : UInt8 → Bool} (hs : s.length ≤ 10000) (hf : ∀ c, runeFn_S FF f c = some (g c)) (hp : ∀ c : UInt8, p c = true → c.toNat < 128)
  (hg : ∀ c : UInt8, g (c.toNat : Int) = p c) (hh : ∀ c : Int, 128 ≤ c → g c = false) : strings_TrimLeftFunc_S FF s f = some (s.drop (pl p s)) := by
 refine Yld.eq ?_
 unfold strings_TrimLeftFunc_S
 have hle := pl_le p s
 refine Yld.bindE (index_f (truth := false) hs hf hp (fun c => by rw [hg]; cases p c <;> rfl) (fun c hc => by rw [hh c hc]; rfl)) ?_
 by_cases h : pl p s < s.length
 ·rw [if_pos h]
  refine Yld.iff (decide_eq_false (by omega)) (Yld.drop (by omega) (by omega) (Yld.some ?_))
  rw [Int.toNat_natCast]
 ·rw [if_neg h]
  refine Yld.ift rfl (Yld.some ?_)
  rw [List.drop_of_length_le (by omega)]
theorem take_f {s : Str} {f : Nat} {g : Int → Bool} {p : UInt8 → Bool} {q : Quantity} {sg : Int} (hs : s.length ≤ 10000) (hf : ∀ c, runeFn_S FF f c = some (g c)) (hp : ∀ c : UInt8, p c = true → c.toNat < 128)
  (hg : ∀ c : UInt8, g (c.toNat : Int) = p c) (hh : ∀ c : Int, 128 ≤ c → g c = false) : unit_reader_take_S FF f s q sg = some (s.take (pl p s), s.drop (pl p s)) := by
 refine Yld.eq ?_
 unfold unit_reader_take_S
 have hle := pl_le p s
 refine Yld.bindE (trim_f hs hf hp hg hh) ?_
 rw [List.length_drop, wi64' (by omega) (by omega)]
 refine Yld.take (by omega) (by omega) (Yld.some ?_)
 rw [show ((s.length : Int) - ((s.length - pl p s : Nat) : Int)).toNat = pl p s by omega]
theorem takeL {s : Str} {q : Quantity} {sg : Int} (hs : s.length ≤ 10000) : unit_reader_take_S FF 173 s q sg = some (s.take (pl isL s), s.drop (pl isL s)) :=
 take_f hs letter_f (fun c => isL_asc) (fun c => gL_nat _) (fun c hc => by simp [gL]; omega)
theorem takeD {s : Str} {q : Quantity} {sg : Int} (hs : s.length ≤ 10000) : unit_reader_take_S FF 120 s q sg = some (s.take (pl isD s), s.drop (pl isD s)) :=
 take_f hs digit_f (fun c => isD_asc) (fun c => gD_nat _) (fun c hc => by simp [gD]; omega)
theorem contains_f {s : Str} (hs : s.length ≤ 10000) : strings_ContainsFunc_S FF s 119 = some (decide (pl isD s < s.length)) := by
 refine Yld.eq ?_
 unfold strings_ContainsFunc_S strings_IndexFunc_S
 refine Yld.bindE (Yld.eq (Yld.bindE (index_f (p := isD) (truth := true) hs nodigit_f (fun c => isD_asc) (fun c => by rw [gD_nat]; show _ = !isD c; unfold isD; cases (decide (48 ≤ c.toNat) && decide (c.toNat ≤ 57)) <;> rfl) (fun c hc => by simp [gD]; omega)) (Yld.some rfl))) (Yld.some ?_)
 by_cases h : pl isD s < s.length
 ·rw [if_pos h, decide_eq_true h]; exact decide_eq_true (by omega)
 ·rw [if_neg h, decide_eq_false h]; rfl
def nmL (s : Str) : Nat := if s.head? = some 49 ∨ s.head? = some 37 then 1 else pl isL s
theorem nmL_le (s : Str) : nmL s ≤ s.length := by
 unfold nmL
 split
 ·cases s with
  | nil => simp at *
  | cons c s => simp
 ·exact pl_le _ _
theorem hasPrefix_1 {s : Str} {c : UInt8} : strings_HasPrefix_S FF s [c] = some (decide (s.head? = some c)) := by
 unfold strings_HasPrefix_S
 cases s with
 | nil => rfl
 | cons b s =>
  have e : Lib.hasPrefix (b :: s) [c] = decide ((b :: s).head? = some c) := by
   rw [Bool.eq_iff_iff]; simp [Lib.hasPrefix, List.isPrefixOf]; exact eq_comm
  rw [e]
theorem name_f {s : Str} {q : Quantity} {sg : Int} (hs : s.length ≤ 10000) : unit_reader_name_S FF s q sg = some (s.take (nmL s), s.drop (nmL s)) := by
 refine Yld.eq ?_
 unfold unit_reader_name_S
 refine Yld.bindE hasPrefix_1 ?_
 have one : ∀ {c : UInt8}, s.head? = some c → nmL s = 1 → Yld (Option.bind (take? s 1) (fun x_3 => Option.bind (drop? s 1) (fun x_4 => some (x_3, x_4)))) (· = (s.take (nmL s), s.drop (nmL s))) := fun {c} h e => by
  have : 1 ≤ s.length := by cases s with
   | nil => simp at h
   | cons b s => simp
  rw [e]
  exact Yld.take (by decide) (by omega) (Yld.drop (by decide) (by omega) (Yld.some rfl))
 by_cases h1 : s.head? = some 49
 ·rw [decide_eq_true h1]
  exact Yld.g0 rfl (Yld.ift rfl (one h1 (if_pos (.inl h1))))
 ·rw [decide_eq_false h1]
  refine Yld.g1 rfl (Yld.bindE hasPrefix_1 ?_)
  by_cases h2 : s.head? = some 37
  ·rw [decide_eq_true h2]
   exact Yld.ift rfl (one h2 (if_pos (.inr h2)))
  ·rw [decide_eq_false h2]
   have e : nmL s = pl isL s := if_neg (fun h => h.elim h1 h2)
   rw [e]
   exact Yld.iff rfl (Yld.bindE (takeL hs) (Yld.some rfl))
end Go.Proofs.YtcbbilehdaaffaaGreatDoor

namespace Go.Proofs.YtcbbilehdaaffaaGreatDoor
open Go Go.Sk
set_option linter.unusedSimpArgs false
set_option linter.unusedVariables false
def dV (c : UInt8) : Int := (c.toNat : Int) - 48
def exN (cap : Int) (l : Str) : Int := l.foldl (fun n c => min (n * 10 + dV c) cap) 0
theorem exN_snoc (cap : Int) (l : Str) (c : UInt8) : exN cap (l ++ [c]) = min (exN cap l * 10 + dV c) cap := by simp [exN]
theorem isD_rng {c : UInt8} (h : isD c = true) : 0 ≤ dV c ∧ dV c ≤ 9 := by simp [isD] at h; unfold dV; omega
theorem snocI {α : Type} {M : List α → Prop} (h0 : M []) (h1 : ∀ l c, M l → M (l ++ [c])) (l : List α) : M l := by
 have : ∀ l : List α, M l.reverse := by
  intro l
  induction l with
  | nil => exact h0
  | cons c l ih => rw [List.reverse_cons]; exact h1 _ _ ih
 have h := this l.reverse
 rwa [List.reverse_reverse] at h
theorem exN_rng {cap : Int} (hc : 0 ≤ cap) {l : Str} : (∀ c ∈ l, isD c = true) → 0 ≤ exN cap l ∧ exN cap l ≤ cap := by
 refine snocI (M := fun l => (∀ c ∈ l, isD c = true) → 0 ≤ exN cap l ∧ exN cap l ≤ cap) ?_ ?_ l
 ·intro _; exact ⟨Int.le_refl _, hc⟩
 ·intro l c ih h
  have := ih fun x hx => h x (by simp [hx])
  have := isD_rng (h c (by simp))
  rw [exN_snoc]; omega
structure ExB (t : Str) (neg : Bool) (n : Int) : Prop where
 bad : pl isD t = 0 ∨ 16 < n ∨ (1 < pl isD t ∧ t.head? = some 48) ∨ (neg = true ∧ n = 0)
instance (t : Str) (neg : Bool) (n : Int) : Decidable (ExB t neg n) := decidable_of_iff (pl isD t = 0 ∨ 16 < n ∨ (1 < pl isD t ∧ t.head? = some 48) ∨ (neg = true ∧ n = 0)) ⟨fun h => ⟨h⟩, fun h => h.bad⟩
def exT (s : Str) : Str := if (s.drop 1).head? = some 45 then s.drop 2 else s.drop 1
def exG (s : Str) : Bool := decide ((s.drop 1).head? = some 45)
def exV (s : Str) : Int := exN 17 ((exT s).take (pl isD (exT s)))
def exS (s : Str) : Int × Int × Str :=
 if s.head? = some 94 then
  (if ExB (exT s) (exG s) (exV s) then (0, 280, (exT s).drop (pl isD (exT s))) else (if exG s = true then -exV s else exV s, 0, (exT s).drop (pl isD (exT s))))
 else (1, 0, s)
theorem wi32' {z : Int} (h1 : -2147483648 ≤ z) (h2 : z ≤ 2147483647) : IntKind.i32.wrap z = z := by
 have e : IntKind.i32.wrap z = (z + 2147483648) % 4294967296 - 2147483648 := by
  simp [IntKind.wrap, IntKind.signed, IntKind.bits]; split <;> omega
 rw [e]; omega
theorem hasP_1 {b c : UInt8} {s : Str} : stringslite_HasPrefix_S FF (b :: s) [c] = some (decide (b = c)) := by
 refine Yld.eq ?_
 unfold stringslite_HasPrefix_S
 have e1 : (((([c] : Str).length : Nat) : Int) ≤ (((b :: s).length : Nat) : Int)) := by simp; omega
 refine Yld.g1 (decide_eq_true e1) (Yld.take (by simp) e1 (Yld.ln (Yld.some ?_)))
 have e2 : (b :: s).take ((([c] : Str).length : Nat) : Int).toNat = [b] := by simp
 rw [e2, decide_eq_true e1, Bool.true_and, decide_eq_decide]
 simp
theorem cutPrefix_1 {s : Str} {c : UInt8} : strings_CutPrefix_S FF s [c] = some (if s.head? = some c then (s.drop 1, true) else (s, false)) := by
 refine Yld.eq ?_
 unfold strings_CutPrefix_S stringslite_CutPrefix_S
 cases s with
 | nil => exact Yld.of rfl
 | cons b s =>
  have e1 : (((([c] : Str).length : Nat) : Int) ≤ (((b :: s).length : Nat) : Int)) := by simp; omega
  rw [hasP_1]
  by_cases h : b = c
  ·rw [if_pos (by rw [h]; rfl), decide_eq_true h]
   exact Yld.bind (P := fun o => o = (s, true)) (show Yld (if (!true) = true then some (b :: s, false) else _) _ from Yld.iff rfl (Yld.drop (by simp) e1 (Yld.some rfl))) (fun o ho => by subst ho; exact Yld.some rfl)
  ·rw [if_neg (by simp [h]), decide_eq_false h]
   exact Yld.bind (P := fun o => o = (b :: s, false)) (show Yld (if (!false) = true then _ else Option.bind (drop? (b :: s) (([c] : Str).length : Int)) fun x_2 => some (x_2, true)) _ from Yld.ift rfl (Yld.some rfl)) (fun o ho => by subst ho; exact Yld.some rfl)
theorem take_isD {t : Str} : ∀ c ∈ t.take (pl isD t), isD c = true := by
 intro c hc
 obtain ⟨i, hi, rfl⟩ := List.getElem_of_mem hc
 rw [List.getElem_take]
 have : i < pl isD t ∧ i < t.length := by rw [List.length_take] at hi; omega
 exact pl_in isD this.1 this.2
theorem digits_loop {l : Str} (hl : ∀ c ∈ l, isD c = true) (hs : l.length ≤ 10000) :
  iter FF (un2 fun (n_8 : Int) (xp_9 : Nat) => if decide (xp_9 < l.length) = true then (letN (IntKind.i32.wrap ((runeAt l xp_9) - 48)) fun x_11 => letN (IntKind.i64.wrap ((IntKind.i64.wrap (n_8 * 10)) + (IntKind.i64.wrap x_11))) fun x_12 => some (.inl (min x_12 17, runeTo l xp_9))) else (some (.inr n_8))) (0, 0) = some (exN 17 l) := by
 refine Yld.eq (Yld.rounds l.length (fun k (s : Int × Nat) => s = (exN 17 (l.take k), k)) (by have := FF2; omega) rfl ?_)
 rintro k ⟨n, i⟩ hk hs
 obtain ⟨rfl, rfl⟩ := Prod.mk.inj hs
 by_cases h : i < l.length
 ·have hc := hl l[i] (List.getElem_mem h)
  have hd := isD_rng hc
  have hn := exN_rng (cap := 17) (by decide) (l := l.take i) fun c hc => hl c (List.mem_of_mem_take hc)
  obtain ⟨e1, e2⟩ := rune_ascii h (isD_asc hc)
  refine Yld.ift (decide_eq_true h) (Yld.lnE (dV l[i]) ?_ (Yld.lnE (exN 17 (l.take i) * 10 + dV l[i]) ?_ (Yld.some (.inl ⟨_, rfl, ?_, h⟩))))
  ·rw [e1]
   unfold dV at hd ⊢
   exact wi32' (by omega) (by omega)
  ·rw [wi64' (z := dV l[i]) (by omega) (by omega), wi64' (z := exN 17 (l.take i) * 10) (by omega) (by omega), wi64' (by omega) (by omega)]
  ·rw [e2, List.take_succ_eq_append_getElem h, exN_snoc]
 ·obtain rfl : i = l.length := by omega
  exact Yld.iff (decide_eq_false h) (Yld.some (.inr ⟨_, rfl, by rw [List.take_length]⟩))
theorem exponent_f {s : Str} {q : Quantity} {sg : Int} (hs : s.length ≤ 10000) : unit_reader_exponent_S FF s q sg = some (exS s) := by
 refine Yld.eq ?_
 unfold unit_reader_exponent_S exS
 refine Yld.bindE cutPrefix_1 ?_
 by_cases h : s.head? = some 94
 ·rw [if_pos h, if_pos h]
  refine Yld.iff rfl (Yld.bindE cutPrefix_1 ?_)
  have e1 : (if (s.drop 1).head? = some 45 then ((s.drop 1).drop 1, true) else (s.drop 1, false)) = (exT s, exG s) := by
   unfold exT exG
   by_cases h2 : (s.drop 1).head? = some 45
   ·rw [if_pos h2, if_pos h2, decide_eq_true h2, List.drop_drop]
   ·rw [if_neg h2, if_neg h2, decide_eq_false h2]
  rw [e1]
  have lT : (exT s).length ≤ 10000 := by unfold exT; split <;> (rw [List.length_drop]; omega)
  have hD := take_isD (t := exT s)
  have hle := pl_le isD (exT s)
  have hv := exN_rng (cap := 17) (by decide) hD
  refine Yld.bindE (takeD lT) (Yld.bindE (digits_loop hD (Nat.le_trans (by rw [List.length_take]; exact Nat.min_le_right _ _) lT)) ?_)
  show Yld (Option.bind (gcall ((!((decide ((exT s).take (pl isD (exT s)) = [])) || (decide (16 < exV s)))) && _) _) _) _
  have fv : 0 ≤ exV s ∧ exV s ≤ 17 := hv
  have ll : ((exT s).take (pl isD (exT s))).length = pl isD (exT s) := by rw [List.length_take]; omega
  have e0 : ((exT s).take (pl isD (exT s)) = []) ↔ pl isD (exT s) = 0 := by rw [← List.length_eq_zero_iff, ll]
  have eb : decide (1 < ((((exT s).take (pl isD (exT s))).length : Nat) : Int)) = decide (1 < pl isD (exT s)) := by rw [ll, decide_eq_decide]; omega
  rw [eb]
  have fin : ∀ (x : UInt8), (1 < pl isD (exT s) → pl isD (exT s) ≠ 0 → exV s ≤ 16 → ((exT s).head? = some 48 ↔ (x.toNat : Int) = 48)) →
    Yld (letN (((decide ((exT s).take (pl isD (exT s)) = [])) || (decide (16 < exV s))) || ((decide (1 < pl isD (exT s))) && (decide ((x.toNat : Int) = 48)))) fun x_14 => if (x_14 || (exG s && (decide (exV s = 0)))) = true then (some ((0 : Int), (280 : Int), (exT s).drop (pl isD (exT s)))) else (Option.bind (if exG s = true then (some (IntKind.i64.wrap (-exV s))) else (some (exV s))) (fun n_15 => some (n_15, (0 : Int), (exT s).drop (pl isD (exT s)))))) (· = if ExB (exT s) (exG s) (exV s) then (0, 280, (exT s).drop (pl isD (exT s))) else (if exG s = true then -exV s else exV s, 0, (exT s).drop (pl isD (exT s)))) := fun x hx => by
   refine Yld.ln ?_
   by_cases hb : ExB (exT s) (exG s) (exV s)
   ·rw [if_pos hb]
    refine Yld.ift ?_ (Yld.some rfl)
    simp only [Bool.or_eq_true, Bool.and_eq_true, decide_eq_true_eq, e0]
    rcases hb.bad with h1 | h1 | h1 | h1
    ·exact .inl (.inl (.inl h1))
    ·exact .inl (.inl (.inr h1))
    ·by_cases h2 : 16 < exV s
     ·exact .inl (.inl (.inr h2))
     ·exact .inl (.inr ⟨h1.1, (hx h1.1 (by omega) (by omega)).1 h1.2⟩)
    ·exact .inr h1
   ·rw [if_neg hb]
    have hb' : ¬ (pl isD (exT s) = 0 ∨ 16 < exV s ∨ (1 < pl isD (exT s) ∧ (exT s).head? = some 48) ∨ (exG s = true ∧ exV s = 0)) := fun h => hb ⟨h⟩
    refine Yld.iff ?_ ?_
    ·rw [Bool.eq_false_iff]
     intro h2
     simp only [Bool.or_eq_true, Bool.and_eq_true, decide_eq_true_eq, e0] at h2
     rcases h2 with ((h2 | h2) | h2) | h2
     ·exact hb' (.inl h2)
     ·exact hb' (.inr (.inl h2))
     ·by_cases h3 : pl isD (exT s) = 0
      ·exact hb' (.inl h3)
      by_cases h4 : 16 < exV s
      ·exact hb' (.inr (.inl h4))
      exact hb' (.inr (.inr (.inl ⟨h2.1, (hx h2.1 h3 (by omega)).2 h2.2⟩)))
     ·exact hb' (.inr (.inr (.inr h2)))
    ·cases exG s
     ·exact Yld.some rfl
     ·rw [wi64' (by omega) (by omega)]; exact Yld.some rfl
  by_cases hg : (!((decide ((exT s).take (pl isD (exT s)) = [])) || (decide (16 < exV s))) && decide (1 < pl isD (exT s))) = true
  ·rw [hg]
   have h1 : 1 < pl isD (exT s) := by simp at hg; exact hg.2
   obtain ⟨c, t, ht⟩ : ∃ c t, exT s = c :: t := by
    cases h2 : exT s with
    | nil => rw [h2] at h1; simp [pl] at h1
    | cons c t => exact ⟨c, t, rfl⟩
   have ei : idx? ((exT s).take (pl isD (exT s))) 0 = some c := by
    obtain ⟨k, hk⟩ : ∃ k, pl isD (exT s) = k + 1 := ⟨pl isD (exT s) - 1, by omega⟩
    rw [hk, ht]
    exact idx?_eq (by decide) (by simp)
   refine Yld.g1 rfl (Yld.bindE ei (fin c fun _ _ _ => ?_))
   rw [ht]
   simp only [List.head?_cons, Option.some.injEq]
   constructor
   ·rintro rfl; rfl
   ·intro h; apply UInt8.toNat_inj.1; show c.toNat = 48; omega
  ·have hg' := Bool.eq_false_iff.2 hg
   rw [hg']
   refine Yld.g0 rfl (fin default fun h1 h2 h3 => ?_)
   exfalso
   apply hg
   simp only [Bool.and_eq_true, Bool.not_eq_true', Bool.or_eq_false_iff, decide_eq_false_iff_not, decide_eq_true_eq, e0]
   exact ⟨⟨h2, by omega⟩, h1⟩
 ·rw [if_neg h, if_neg h]
  exact Yld.ift rfl (Yld.some rfl)
end Go.Proofs.YtcbbilehdaaffaaGreatDoor

namespace Go.Proofs.YtcbbilehdaaffaaGreatDoor
open Go Go.Sk
set_option linter.unusedSimpArgs false
set_option linter.unusedVariables false
theorem u8eq {c : UInt8} {k : Nat} (hk : k < 256) : ((c.toNat : Int) = (k : Int)) ↔ c = UInt8.ofNat k := by
 constructor
 ·intro h
  apply UInt8.toNat_inj.1
  rw [UInt8.toNat_ofNat_of_lt' (by simpa using hk)]
  omega
 ·rintro rfl
  rw [UInt8.toNat_ofNat_of_lt' (by simpa using hk)]
end Go.Proofs.YtcbbilehdaaffaaGreatDoor

namespace Go.Proofs.YtcbbilehdaaffaaGreatDoor
open Go Go.Sk
set_option linter.unusedSimpArgs false
set_option linter.unusedVariables false
noncomputable def frN (x : Named) : Frc := mkB (big x.n) (big x.d)
theorem frN_in (x : Named) : inF (frN x) := mkB_in _ _
def nmOk (x : Named) : Bool := decide (-9223372036854775808 ≤ x.n ∧ x.n ≤ 9223372036854775807) && decide (-9223372036854775808 ≤ x.d ∧ x.d ≤ 9223372036854775807) && vU x.unit && !decide (x.name = [])
theorem names_ok : ∀ x ∈ unitNames, nmOk x = true := by
 have h : unitNames.all nmOk = true := by decide
 exact fun x hx => List.all_eq_true.1 h x hx
theorem nmOk_iff {x : Named} (h : nmOk x = true) : ((-9223372036854775808 ≤ x.n ∧ x.n ≤ 9223372036854775807) ∧ (-9223372036854775808 ≤ x.d ∧ x.d ≤ 9223372036854775807)) ∧ vU x.unit = true ∧ x.name ≠ [] := by
 simp only [nmOk, Bool.and_eq_true, decide_eq_true_eq, Bool.not_eq_true', decide_eq_false_iff_not] at h
 exact ⟨h.1.1, h.1.2, h.2⟩
def nameOf (s : Str) : Option Named := unitNames.find? fun x => decide (x.name = s)
theorem nameOf_mem {s : Str} {x : Named} (h : nameOf s = some x) : x ∈ unitNames := List.mem_of_find?_eq_some h
noncomputable def itF (w : Frc) (neg : Bool) (v : Frc) : Nat → Frc
 | 0 => v
 | k + 1 => if neg = true then divF (itF w neg v k) w else mulF (itF w neg v k) w
theorem itF_in {w v : Frc} {neg : Bool} (hv : inF v) : ∀ k, inF (itF w neg v k)
 | 0 => hv
 | k + 1 => by unfold itF; split; exact divF_in _ _; exact mulF_in _ _
noncomputable def facS (q : Quantity) (x : Named) (n : Int) : Quantity × Int :=
 if (cmb q.U x.unit n).2 ≠ 0 then (zQ, (cmb q.U x.unit n).2) else quF (itF (frN x) (decide (n < 0)) q.V n.natAbs) (cmb q.U x.unit n).1
theorem Frac_n {x : Named} (h : nmOk x = true) : q_Frac_S FF x.n x.d = some (frN x) := Frac_f (nmOk_iff h).1.1 (nmOk_iff h).1.2
theorem pow_loop {x : Named} {q : Quantity} {t : Str} {sg : Int} {u : MUnit} {n : Int} {c : Nat} {neg : Bool} (hx : nmOk x = true) (hq : inF q.V) (hn : -16 ≤ n ∧ n ≤ 16) (hc : c = if neg = true then 21 else 25) :
  iter FF (un2 fun (r_12 : Reader) (x_13 : Int) => if (decide (x_13 < (max n (IntKind.i64.wrap (-n))))) = true then (Option.bind (q_Frac_S FF x.n x.d) (fun x_15 => Option.bind (numberFn_S FF c r_12.q.V x_15) (fun x_16 => some (.inl ((⟨r_12.s, (⟨x_16, r_12.q.U⟩ : Quantity), r_12.sign⟩ : Reader), IntKind.i64.wrap (x_13 + 1)))))) else (some (.inr r_12))) ((⟨t, (⟨q.V, u⟩ : Quantity), sg⟩ : Reader), 0) = some ⟨t, ⟨itF (frN x) neg q.V n.natAbs, u⟩, sg⟩ := by
 rw [max_abs hn]
 refine Yld.eq (Yld.rounds n.natAbs (fun k (s : Reader × Int) => s = (⟨t, ⟨itF (frN x) neg q.V k, u⟩, sg⟩, (k : Int))) (by have := FF1; omega) rfl ?_)
 rintro k ⟨r, i⟩ hk hs
 obtain ⟨rfl, rfl⟩ := Prod.mk.inj hs
 by_cases h : k < n.natAbs
 ·refine Yld.ift (decide_eq_true (by omega)) (Yld.bindE (Frac_n hx) (Yld.bindE (x := itF (frN x) neg q.V (k + 1)) ?_ (Yld.some (.inl ⟨_, rfl, ?_, h⟩))))
  ·have i1 := itF_in (w := frN x) (neg := neg) hq k
   cases neg
   ·subst hc; exact Mul_f i1 (frN_in x)
   ·subst hc; exact Div_f i1 (frN_in x)
  ·rw [wi64' (by omega) (by omega)]; rfl
 ·exact Yld.iff (decide_eq_false (by omega)) (Yld.some (.inr ⟨_, rfl, by rw [show k = n.natAbs by omega]⟩))
theorem facS_err {q : Quantity} {x : Named} {n : Int} (h : (cmb q.U x.unit n).2 ≠ 0) : facS q x n = (zQ, (cmb q.U x.unit n).2) := if_pos h
theorem facS_ok {q : Quantity} {x : Named} {n : Int} (h : (cmb q.U x.unit n).2 = 0) : facS q x n = quF (itF (frN x) (decide (n < 0)) q.V n.natAbs) (cmb q.U x.unit n).1 := if_neg fun e => e h
theorem exS_rng (s : Str) (h : (exS s).2.1 = 0) : -16 ≤ (exS s).1 ∧ (exS s).1 ≤ 16 := by
 unfold exS at h ⊢
 split at h
 ·next h0 =>
  rw [if_pos h0]
  split at h
  ·simp at h
  ·next hb =>
   rw [if_neg hb]
   have hv := exN_rng (cap := 17) (by decide) (take_isD (t := exT s))
   have h16 : ¬ 16 < exV s := fun x => hb ⟨.inr (.inl x)⟩
   have : 0 ≤ exV s := hv.1
   dsimp only
   split <;> omega
 ·next h0 => rw [if_neg h0]; dsimp only; omega
theorem exS_len (s : Str) : (exS s).2.2.length ≤ s.length := by
 unfold exS
 have : (exT s).length ≤ s.length := by unfold exT; split <;> (rw [List.length_drop]; omega)
 split
 ·split <;> (dsimp only; rw [List.length_drop]; omega)
 ·exact Nat.le_refl _
noncomputable def facT (s : Str) (q : Quantity) (sg : Int) : Quantity × Int × Str :=
 if s.take (nmL s) = [] then (zQ, 280, []) else match nameOf (s.take (nmL s)) with
  | none => (zQ, 5, [])
  | some x => if (exS (s.drop (nmL s))).2.1 ≠ 0 then (zQ, 280, []) else
    if (facS q x (sg * (exS (s.drop (nmL s))).1)).2 ≠ 0 then (zQ, (facS q x (sg * (exS (s.drop (nmL s))).1)).2, []) else
    ((facS q x (sg * (exS (s.drop (nmL s))).1)).1, 0, (exS (s.drop (nmL s))).2.2)
end Go.Proofs.YtcbbilehdaaffaaGreatDoor

