/- The plain law of chapter 03, part a: numbers of 16 digits. -/
import Derived.Test.YtaigaoifloldcaaDoorW3
namespace Go.Sk
set_option linter.unusedSimpArgs false
set_option linter.unusedVariables false
/-- all digits are digits -/
def inD (b : Int) (l : List Int) : Prop := ∀ i, 0 ≤ dg l i ∧ dg l i < b
def MM : Int := 4294967296 ^ 16
theorem MM_eq : MM = 13407807929942597099574024998205846127479365820592393377723561443721764030073546976801874298166903427690031858186486050853753882811946569946433649006084096 := by decide +kernel
theorem MM_pos : 0 < MM := by rw [MM_eq]; decide
def av (w : A16) : Int := ds 4294967296 (dg w.l) 16
def toA (z : Int) : A16 := .of ((List.range 16).map fun i => nd 4294967296 z i)
theorem toA_l (z : Int) : (toA z).l = (List.range 16).map fun i => nd 4294967296 z i := A16.l_of (by simp)
theorem toA_dg (z : Int) {i : Nat} (h : i < 16) : dg (toA z).l i = nd 4294967296 z i := by
  rw [toA_l]
  unfold dg
  rw [List.getD_eq_getElem?_getD, List.getElem?_map, List.getElem?_range h]
  rfl
theorem nd_range (b z : Int) (hb : 0 < b) (i : Nat) : 0 ≤ nd b z i ∧ nd b z i < b := ⟨Int.emod_nonneg _ (by omega), Int.emod_lt_of_pos _ hb⟩
theorem toA_in (z : Int) : inD 4294967296 (toA z).l := fun i => by
  by_cases h : i < 16
  · rw [toA_dg z h]; exact nd_range _ _ (by decide) i
  · rw [dg_ge (by rw [A16.l_len]; omega)]; decide
theorem av_toA (z : Int) : av (toA z) = z % MM := by
  unfold av
  rw [ds_congr (g := nd 4294967296 z) fun i hi => toA_dg z hi, ds_nd (by decide)]
  rfl
theorem av_range {w : A16} (h : inD 4294967296 w.l) : 0 ≤ av w ∧ av w < MM := ⟨ds_nonneg (by decide) fun i _ => (h i).1, ds_lt (by decide) fun i _ => h i⟩
theorem av_inj {v w : A16} (hv : inD 4294967296 v.l) (hw : inD 4294967296 w.l) (h : av v = av w) : v = w := by
  rw [← A16.l_inj]
  refine dg_ext rfl fun i hi => ?_
  exact ds_inj (by decide) (fun i _ => hv i) (fun i _ => hw i) h i hi
theorem toA_av {w : A16} (h : inD 4294967296 w.l) : toA (av w) = w := by
  refine av_inj (toA_in _) h ?_
  rw [av_toA]
  exact Int.emod_eq_of_lt (av_range h).1 (av_range h).2
theorem eq_toA {w : A16} {z : Int} (h : inD 4294967296 w.l) (hz : av w = z) : w = toA z := by rw [← hz, toA_av h]
theorem eq_toA' {w : A16} {z : Int} (h : inD 4294967296 w.l) (hz : av w = z % MM) : w = toA z := av_inj h (toA_in z) (by rw [hz, av_toA])
theorem zero_in : inD 4294967296 A16.zero.l := fun i => by
  have : A16.zero.l = List.replicate 16 0 := rfl
  rw [this, dg_replicate]; decide
theorem av_zero : av A16.zero = 0 := ds_zero fun i _ => by
  have : A16.zero.l = List.replicate 16 0 := rfl
  rw [this, dg_replicate]
theorem zero_eq : A16.zero = toA 0 := eq_toA zero_in av_zero
theorem zero_iff {w : A16} (h : inD 4294967296 w.l) : w = A16.zero ↔ av w = 0 := ⟨fun e => by rw [e, av_zero], fun e => av_inj h zero_in (by rw [e, av_zero])⟩
theorem set_in {w : A16} {i x : Int} (h : inD 4294967296 w.l) (h0 : 0 ≤ i) (h1 : i < 16) (hx : 0 ≤ x ∧ x < 4294967296) : inD 4294967296 (w.set i x).l := fun j => by
  rw [A16.set_l, dg_set (by rw [A16.l_len]; omega)]
  split
  · exact hx
  · exact h j
theorem set_dg {w : A16} {i x : Int} (h0 : 0 ≤ i) (h1 : i < 16) (j : Nat) : dg (w.set i x).l j = if j = i.toNat then x else dg w.l j := by
  rw [A16.set_l, dg_set (by rw [A16.l_len]; omega)]
theorem ds_upd {b x : Int} {f g : Nat → Int} {k : Nat} (h : ∀ i, g i = if i = k then x else f i) : ds b g (k + 1) = ds b f k + x * b ^ k := by
  show ds b g k + g k * b ^ k = _
  rw [ds_congr (g := f) fun i hi => by rw [h i, if_neg (by omega)], h k, if_pos rfl]
theorem A16.ds_set {b : Int} {w : A16} {k : Nat} {x : Int} (h : k < 16) : ds b (dg (w.set (k : Int) x).l) (k + 1) = ds b (dg w.l) k + x * b ^ k := ds_upd fun i => by rw [set_dg (by omega) (by omega), Int.toNat_natCast]
theorem carry_step {b A Bb O c x c' ak bk : Int} {k : Nat} (h : A + Bb = O + c * b ^ k) (e : c + ak + bk = x + c' * b) : (A + ak * b ^ k) + (Bb + bk * b ^ k) = (O + x * b ^ k) + c' * b ^ (k + 1) := by
  rw [Int.pow_succ]
  grind
theorem borrow_step {b A Bb O c x c' ak bk : Int} {k : Nat} (h : A + c * b ^ k = Bb + O) (e : ak - bk - c = x - c' * b) : (A + ak * b ^ k) + c' * b ^ (k + 1) = (Bb + bk * b ^ k) + (O + x * b ^ k) := by
  rw [Int.pow_succ]
  grind
theorem ds_hi {b : Int} (hb : 0 < b) {f : Nat → Int} {n m : Nat} (hf : ∀ i, 0 ≤ f i ∧ f i < b) : ds b f (n + m) / b ^ n = ds b (fun i => f (n + i)) m := by
  have h1 := ds_nonneg hb (f := f) (n := n) fun i _ => (hf i).1
  have h2 := ds_lt hb (f := f) (n := n) fun i _ => hf i
  rw [ds_split, Int.add_mul_ediv_left _ _ (by have hp : 0 < b ^ n := Int.pow_pos hb; omega), Int.ediv_eq_zero_of_lt h1 h2, Int.zero_add]
theorem ds_dig {b : Int} (hb : 0 < b) {f : Nat → Int} {n i : Nat} (hi : i < n) (hf : ∀ i, 0 ≤ f i ∧ f i < b) : nd b (ds b f n) i = f i := by
  obtain ⟨m, rfl⟩ : ∃ m, n = i + (m + 1) := ⟨n - i - 1, by omega⟩
  unfold nd
  rw [ds_hi hb hf, ds_succ']
  have h0 := hf (i + 0)
  rw [Int.add_mul_emod_self_left, Int.emod_eq_of_lt h0.1 h0.2]
  rfl
theorem pow_mono {b : Int} (hb : 1 ≤ b) {i j : Nat} (h : i ≤ j) : b ^ i ≤ b ^ j := by
  obtain ⟨d, rfl⟩ : ∃ d, j = i + d := ⟨j - i, by omega⟩
  have h1 : 0 < b ^ d := Int.pow_pos (by omega)
  have h2 : 0 < b ^ i := Int.pow_pos (by omega)
  rw [Int.pow_add]
  have h3 : b ^ i * 1 ≤ b ^ i * b ^ d := Int.mul_le_mul_of_nonneg_left (by omega) (by omega)
  omega
end Go.Sk
namespace Go.Proofs.YtaigaoifloldcaaDoor
open Go Go.Sk
set_option linter.unusedSimpArgs false
set_option linter.unusedVariables false

theorem plus_y {F : Nat} (hF : 100 < F) {a b : A16} (ha : inD 4294967296 a.l) (hb : inD 4294967296 b.l) : whole_plus_S F a b = some (toA (av a + av b), decide (av a + av b < MM)) := by
  refine Yld.eq ?_
  unfold whole_plus_S
  refine Yld.bind (P := fun r => inD 4294967296 r.1.l ∧ 0 ≤ r.2 ∧ r.2 ≤ 1 ∧ av a + av b = av r.1 + r.2 * MM) (Yld.rounds 16 (fun k s => s.2.2 = (k : Int) ∧ inD 4294967296 s.1.l ∧ 0 ≤ s.2.1 ∧ s.2.1 ≤ 1 ∧ ds 4294967296 (dg a.l) k + ds 4294967296 (dg b.l) k = ds 4294967296 (dg s.1.l) k + s.2.1 * 4294967296 ^ k) (by omega) ⟨rfl, zero_in, by decide, by decide, rfl⟩ ?_) ?_
  · rintro k ⟨out, c, i⟩ hk ⟨rfl, hin, hc0, hc1, hs⟩
    dsimp only at hin hc0 hc1 hs
    dsimp only [un3]
    refine Yld.ite (fun h => ?_) (fun h => ?_)
    · have hk' : k < 16 := by have := of_decide_eq_true h; omega
      refine Yld.idx (by omega) (by rw [A16.l_len]; omega) (Yld.idx (by omega) (by rw [A16.l_len]; omega) (Yld.ln (Yld.idx (by omega) (by rw [A16.l_len]; omega) (Yld.ln (Yld.some (.inl ⟨_, rfl, ?_, hk'⟩))))))
      have h1 := ha k
      have h2 := hb k
      simp only [idx_dg, Int.toNat_natCast, wu64, wu32, wi64]
      refine ⟨by omega, set_in hin (by omega) (by omega) (by constructor <;> omega), by omega, by omega, ?_⟩
      rw [ds_succ, ds_succ, A16.ds_set hk']
      exact carry_step hs (by omega)
    · have hk' : k = 16 := by have := of_decide_eq_false h; omega
      subst hk'
      exact Yld.some (.inr ⟨_, rfl, hin, hc0, hc1, hs⟩)
  · rintro ⟨out, c⟩ ⟨hin, hc0, hc1, hs⟩
    dsimp only at hin hc0 hc1 hs
    have hr := av_range hin
    refine Yld.some ?_
    have e1 : out = toA (av a + av b) := eq_toA' hin (by rw [hs, Int.add_mul_emod_self_right, Int.emod_eq_of_lt hr.1 hr.2])
    rw [← e1]
    congr 1
    rw [decide_eq_decide]
    rw [MM_eq] at *
    omega

theorem minus_y {F : Nat} (hF : 100 < F) {a b : A16} (ha : inD 4294967296 a.l) (hb : inD 4294967296 b.l) (hle : av b ≤ av a) : whole_minus_S F a b = some (toA (av a - av b)) := by
  refine Yld.eq ?_
  unfold whole_minus_S
  refine Yld.bind (P := fun r => inD 4294967296 r.l ∧ ∃ c : Int, 0 ≤ c ∧ c ≤ 1 ∧ av a + c * MM = av b + av r) (Yld.rounds 16 (fun k s => s.2.2 = (k : Int) ∧ inD 4294967296 s.1.l ∧ 0 ≤ s.2.1 ∧ s.2.1 ≤ 1 ∧ ds 4294967296 (dg a.l) k + s.2.1 * 4294967296 ^ k = ds 4294967296 (dg b.l) k + ds 4294967296 (dg s.1.l) k) (by omega) ⟨rfl, zero_in, by decide, by decide, rfl⟩ ?_) ?_
  · rintro k ⟨out, c, i⟩ hk ⟨rfl, hin, hc0, hc1, hs⟩
    dsimp only at hin hc0 hc1 hs
    dsimp only [un3]
    refine Yld.ite (fun h => ?_) (fun h => ?_)
    · have hk' : k < 16 := by have := of_decide_eq_true h; omega
      refine Yld.idx (by omega) (by rw [A16.l_len]; omega) (Yld.idx (by omega) (by rw [A16.l_len]; omega) (Yld.ln (Yld.idx (by omega) (by rw [A16.l_len]; omega) (Yld.ln (Yld.some (.inl ⟨_, rfl, ?_, hk'⟩))))))
      have h1 := ha k
      have h2 := hb k
      simp only [idx_dg, Int.toNat_natCast, wu64, wu32, wi64]
      refine ⟨by omega, set_in hin (by omega) (by omega) (by constructor <;> omega), by omega, by omega, ?_⟩
      rw [ds_succ, ds_succ, A16.ds_set hk']
      exact borrow_step hs (by omega)
    · have hk' : k = 16 := by have := of_decide_eq_false h; omega
      subst hk'
      exact Yld.some (.inr ⟨_, rfl, hin, _, hc0, hc1, hs⟩)
  · rintro out ⟨hin, c, hc0, hc1, hs⟩
    have hr := av_range hin
    have ra := av_range ha
    have rb := av_range hb
    refine Yld.some (eq_toA hin ?_)
    have : c = 0 := by
      rcases (by omega : c = 0 ∨ c = 1) with h | h
      · exact h
      · subst h; omega
    subst this
    omega

/-- the order of digits, from the highest one down -/
theorem ds_lt_of {b : Int} (hb : 0 < b) {f g : Nat → Int} {n k : Nat} (hk : k < n) (hf : ∀ i, 0 ≤ f i ∧ f i < b) (hg : ∀ i, 0 ≤ g i ∧ g i < b) (he : ∀ i, k < i → i < n → f i = g i) (hl : f k < g k) : ds b f n < ds b g n := by
  have e : n = (k + 1) + (n - (k + 1)) := by omega
  rw [e, ds_split, ds_split b g]
  have h1 : ds b (fun i => f (k + 1 + i)) (n - (k + 1)) = ds b (fun i => g (k + 1 + i)) (n - (k + 1)) := ds_congr fun i hi => he _ (by omega) (by omega)
  rw [h1]
  have h2 : ds b f (k + 1) < ds b g (k + 1) := by
    rw [ds_succ, ds_succ]
    have h3 := ds_lt hb (n := k) fun i _ => hf i
    have h4 := ds_nonneg hb (n := k) fun i _ => (hg i).1
    have h5 : (f k + 1) * b ^ k ≤ g k * b ^ k := Int.mul_le_mul_of_nonneg_right hl (Int.le_of_lt (Int.pow_pos hb))
    rw [Int.add_mul, Int.one_mul] at h5
    omega
  omega
theorem compare_y (F : Nat) (x y : Int) : cmp_Compare_S F x y = some (if x < y then -1 else if y < x then 1 else 0) := by
  unfold cmp_Compare_S cmp_isNaN_S
  simp
  split
  · rfl
  · split <;> rfl
theorem order_y {F : Nat} (hF : 100 < F) {a b : A16} (ha : inD 4294967296 a.l) (hb : inD 4294967296 b.l) : whole_order_S F a b = some (if av a < av b then -1 else if av b < av a then 1 else 0) := by
  refine Yld.eq ?_
  unfold whole_order_S
  refine Yld.bind (P := fun r => match r with | .inl _ => a = b | .inr y => y = if av a < av b then -1 else if av b < av a then 1 else 0) (Yld.rounds 16 (fun k s => s = 15 - (k : Int) ∧ ∀ i, 15 < i + k → i < 16 → dg a.l i = dg b.l i) (by omega) ⟨rfl, fun i h1 h2 => by omega⟩ ?_) ?_
  · rintro k i hk ⟨rfl, he⟩
    refine Yld.ite (fun h => ?_) (fun h => ?_)
    · have hk' : k < 16 := by have := of_decide_eq_true h; omega
      have et : (15 - (k : Int)).toNat = 15 - k := by omega
      refine Yld.idx (by omega) (by rw [A16.l_len]; omega) (Yld.idx (by omega) (by rw [A16.l_len]; omega) (Yld.ite (fun hne => ?_) (fun heq => ?_)))
      · refine Yld.idx (by omega) (by rw [A16.l_len]; omega) (Yld.idx (by omega) (by rw [A16.l_len]; omega) (Yld.bindE (compare_y _ _ _) (Yld.some (.inr ⟨_, rfl, ?_⟩))))
        have hne' := of_decide_eq_true hne
        simp only [idx_dg, et] at hne' ⊢
        rcases Int.lt_trichotomy (dg a.l (15 - k)) (dg b.l (15 - k)) with h1 | h1 | h1
        · have := ds_lt_of (b := 4294967296) (n := 16) (k := 15 - k) (by decide) (by omega) ha hb (fun i h2 h3 => he i (by omega) h3) h1
          have h' : av a < av b := this
          rw [if_pos h1, if_pos h']
        · exact absurd h1 hne'
        · have := ds_lt_of (b := 4294967296) (n := 16) (k := 15 - k) (by decide) (by omega) hb ha (fun i h2 h3 => (he i (by omega) h3).symm) h1
          have h' : av b < av a := this
          rw [if_neg (by omega), if_pos h1, if_neg (by omega), if_pos h']
      · have heq' : idx a.l (15 - (k : Int)) = idx b.l (15 - (k : Int)) := by simpa using heq
        simp only [idx_dg, et] at heq'
        refine Yld.some (.inl ⟨_, rfl, ⟨by rw [wi64]; omega, fun i h1 h2 => ?_⟩, hk'⟩)
        by_cases e : i = 15 - k
        · rw [e]; exact heq'
        · exact he i (by omega) h2
    · have hk' : k = 16 := by have := of_decide_eq_false h; omega
      subst hk'
      refine Yld.some (.inr ⟨_, rfl, ?_⟩)
      show a = b
      rw [← A16.l_inj]
      exact dg_ext rfl fun i hi => he i (by omega) hi
  · rintro (u | y) h
    · have h' : a = b := h
      subst h'
      exact Yld.some (by simp)
    · exact Yld.some h
/-- how many digits there are below the highest one that is not 0 -/
theorem size_y {F : Nat} (hF : 100 < F) {w : A16} : Yld (whole_size_S F w) fun n => 0 ≤ n ∧ n ≤ 16 ∧ (∀ i, n.toNat ≤ i → i < 16 → dg w.l i = 0) ∧ (0 < n → dg w.l (n.toNat - 1) ≠ 0) := by
  unfold whole_size_S
  refine Yld.bind (P := fun n => 0 ≤ n ∧ n ≤ 16 ∧ (∀ i, n.toNat ≤ i → i < 16 → dg w.l i = 0) ∧ (0 < n → dg w.l (n.toNat - 1) ≠ 0)) (Yld.rounds 16 (fun k s => s = 16 - (k : Int) ∧ ∀ i, 16 - k ≤ i → i < 16 → dg w.l i = 0) (by omega) ⟨rfl, fun i h1 h2 => by omega⟩ ?_) (fun x h => Yld.some h)
  rintro k n hk ⟨rfl, he⟩
  by_cases hk' : k < 16
  · have hw : IntKind.i64.wrap (16 - (k : Int) - 1) = 15 - (k : Int) := by rw [wi64]; omega
    have et : (15 - (k : Int)).toNat = 15 - k := by omega
    have hd : decide (0 < 16 - (k : Int)) = true := decide_eq_true (by omega)
    refine Yld.g1 hd (Yld.idx (by rw [hw]; omega) (by rw [hw, A16.l_len]; omega) ?_)
    rw [hw, hd]
    simp only [idx_dg, et, Bool.true_and]
    refine Yld.ite (fun h => ?_) (fun h => ?_)
    · have h' := of_decide_eq_true h
      refine Yld.some (.inl ⟨_, rfl, ⟨by omega, fun i h1 h2 => ?_⟩, hk'⟩)
      by_cases e : i = 15 - k
      · rw [e]; exact h'
      · exact he i (by omega) h2
    · have h' := of_decide_eq_false h
      refine Yld.some (.inr ⟨_, rfl, by omega, by omega, fun i h1 h2 => he i (by omega) h2, fun _ => ?_⟩)
      have : (16 - (k : Int)).toNat - 1 = 15 - k := by omega
      rw [this]; exact h'
  · have hk2 : k = 16 := by omega
    subst hk2
    refine Yld.g0 (by decide) ?_
    refine Yld.iff (by simp) (Yld.some (.inr ⟨_, rfl, by decide, by decide, fun i _ h2 => he i (by omega) h2, fun h => by simp at h⟩))
end Go.Proofs.YtaigaoifloldcaaDoor

/- The plain law of chapter 03, part b: integers; sums, signs, comparisons. -/
namespace Go.Sk
set_option linter.unusedSimpArgs false
set_option linter.unusedVariables false
def bad : Big := ⟨true, false, A16.zero⟩
/-- the number z; bad if it has too many bits -/
def big (z : Int) : Big := if -MM < z ∧ z < MM then ⟨false, decide (z < 0), toA (if z < 0 then -z else z)⟩ else bad
def toB : Option Int → Big
  | some z => big z
  | none => bad
def inB (x : Big) : Prop := inD 4294967296 x.W.l
def goodB (x : Big) : Bool := !x.Bad && (!decide (x.W = A16.zero) || !x.Neg)
def sv (x : Big) : Int := if x.Neg = true then -av x.W else av x.W
/-- the number that x is, if it is one -/
def iv (x : Big) : Option Int := if goodB x = true then some (sv x) else none
theorem bad_in : inB bad := zero_in
theorem big_in (z : Int) : inB (big z) := by
  unfold big; split
  · exact toA_in _
  · exact bad_in
theorem goodB_bad : goodB bad = false := rfl
theorem iv_bad : iv bad = none := rfl
theorem toA_zero_iff {m : Int} (h0 : 0 ≤ m) (h1 : m < MM) : toA m = A16.zero ↔ m = 0 := by
  rw [zero_iff (toA_in _), av_toA, Int.emod_eq_of_lt h0 h1]
theorem goodB_big {z : Int} (h : -MM < z ∧ z < MM) : goodB (big z) = true := by
  unfold big
  rw [if_pos h]
  by_cases hz : z < 0
  · have : ¬ toA (-z) = A16.zero := by rw [toA_zero_iff (by omega) (by omega)]; omega
    simp [goodB, hz, this]
  · simp [goodB, hz]
theorem iv_big {z : Int} (h : -MM < z ∧ z < MM) : iv (big z) = some z := by
  unfold iv
  rw [if_pos (goodB_big h)]
  unfold big sv
  rw [if_pos h]
  by_cases hz : z < 0
  · simp only [hz, decide_true, if_true]
    rw [av_toA, Int.emod_eq_of_lt (by omega) (by omega)]; simp
  · simp only [hz, decide_false, if_false]
    rw [av_toA, Int.emod_eq_of_lt (by omega) (by omega)]; simp
theorem big_out {z : Int} (h : ¬ (-MM < z ∧ z < MM)) : big z = bad := if_neg h
theorem sv_range {x : Big} (h : inB x) : -MM < sv x ∧ sv x < MM := by
  have := av_range h
  unfold sv
  split <;> omega
/-- a good number is the number that it is -/
theorem big_sv {x : Big} (h : inB x) (hg : goodB x = true) : x = big (sv x) := by
  have hr := sv_range h
  have ha := av_range h
  unfold big
  rw [if_pos hr]
  simp only [goodB, Bool.and_eq_true, Bool.not_eq_true', Bool.or_eq_true, decide_eq_false_iff_not] at hg
  obtain ⟨hb, hz⟩ := hg
  cases x with
  | mk B N W =>
    dsimp only [sv] at *
    subst hb
    cases N with
    | false =>
      have h1 : ¬ av W < 0 := by omega
      simp only [Bool.false_eq_true, if_false, h1, decide_false]
      rw [toA_av h]
    | true =>
      have hw : ¬ W = A16.zero := by simpa using hz
      have h2 : av W ≠ 0 := fun e => hw ((zero_iff h).2 e)
      have h1 : -av W < 0 := by omega
      simp only [if_true, h1, decide_true]
      rw [Int.neg_neg, toA_av h]
theorem iv_some {x : Big} {z : Int} (h : inB x) (hz : iv x = some z) : goodB x = true ∧ x = big z ∧ -MM < z ∧ z < MM := by
  unfold iv at hz
  split at hz
  · next hg =>
    cases hz
    exact ⟨hg, big_sv h hg, sv_range h⟩
  · simp at hz
theorem iv_none {x : Big} (hz : iv x = none) : goodB x = false := by
  unfold iv at hz
  split at hz
  · simp at hz
  · next hg => simpa using hg
theorem iv_big' (z : Int) : iv (big z) = if -MM < z ∧ z < MM then some z else none := by
  split
  · next h => exact iv_big h
  · next h => rw [big_out h, iv_bad]
theorem big_Bad {z : Int} : (big z).Bad = !decide (-MM < z ∧ z < MM) := by
  unfold big
  split
  · next h => simp [h]
  · next h => simp [h, bad]
theorem toB_in (o : Option Int) : inB (toB o) := by cases o; exact bad_in; exact big_in _
theorem big_inj {a b : Int} (ha : -MM < a ∧ a < MM) (hb : -MM < b ∧ b < MM) : big a = big b ↔ a = b := ⟨fun h => by
  have := congrArg iv h
  rw [iv_big ha, iv_big hb] at this
  exact Option.some.inj this, fun h => by rw [h]⟩
end Go.Sk
namespace Go.Proofs.YtaigaoifloldcaaDoor
open Go Go.Sk
set_option linter.unusedSimpArgs false
set_option linter.unusedVariables false
theorem Valid_y (F : Nat) (x : Big) : whole_Valid_S F x = some (if x.Bad = true then decide (x.W = A16.zero) && !x.Neg else !decide (x.W = A16.zero) || !x.Neg) := by
  unfold whole_Valid_S
  split <;> rfl
theorem good_y {F : Nat} (l : List Big) (hF : l.length < F) (hl : l.length ≤ 1000) : whole_good_S F l = some (l.all goodB) := by
  refine Yld.eq ?_
  unfold whole_good_S
  refine Yld.bind (P := fun r => match r with | .inl _ => l.all goodB = true | .inr y => y = false ∧ l.all goodB = false) (Yld.rounds l.length (fun k s => s = (k : Int) ∧ (l.take k).all goodB = true) hF ⟨rfl, by simp⟩ ?_) ?_
  · rintro k i hk ⟨rfl, he⟩
    refine Yld.ite (fun h => ?_) (fun h => ?_)
    · have hk' : k < l.length := by have := of_decide_eq_true h; omega
      refine Yld.idx (by omega) (by omega) ?_
      have hx : idx l (k : Int) = l[k] := by
        have := idx_eq (xs := l) (i := (k : Int)) (by omega) (by omega)
        rw [Int.toNat_natCast, List.getElem?_eq_getElem hk'] at this
        exact (Option.some.inj this).symm
      rw [hx]
      have hstep : (l.take (k + 1)).all goodB = ((l.take k).all goodB && goodB l[k]) := by
        rw [List.take_add_one, List.getElem?_eq_getElem hk', List.all_append]; simp
      have hall : goodB l[k] = false → l.all goodB = false := fun hg => by
        rw [List.all_eq_false]; exact ⟨l[k], List.getElem_mem hk', by simp [hg]⟩
      cases hb : l[k].Bad with
      | true =>
        refine Yld.g0 (by rfl) (Yld.ift (by simp) (Yld.some (.inr ⟨_, rfl, rfl, hall (by simp [goodB, hb])⟩)))
      | false =>
        refine Yld.g1 (by rfl) (Yld.bindE (Valid_y _ _) ?_)
        have hg : goodB l[k] = (!decide (l[k].W = A16.zero) || !l[k].Neg) := by simp [goodB, hb]
        simp only [hb, Bool.false_eq_true, if_false, ← hg]
        refine Yld.ite (fun h => ?_) (fun h => ?_)
        · exact Yld.some (.inr ⟨_, rfl, rfl, hall (by simpa using h)⟩)
        · refine Yld.some (.inl ⟨_, rfl, ⟨by rw [wi64]; omega, ?_⟩, hk'⟩)
          rw [hstep, he]; simpa using h
    · have hk' : k = l.length := by have := of_decide_eq_false h; omega
      subst hk'
      rw [List.take_length] at he
      exact Yld.some (.inr ⟨_, rfl, he⟩)
  · rintro (u | y) h
    · exact Yld.some h.symm
    · exact Yld.some (by rw [h.1, h.2])
theorem good1 {F : Nat} (hF : 100 < F) (x : Big) : whole_good_S F [x] = some (goodB x) := by rw [good_y _ (by simp; omega) (by simp)]; simp
theorem good2 {F : Nat} (hF : 100 < F) (x y : Big) : whole_good_S F [x, y] = some (goodB x && goodB y) := by rw [good_y _ (by simp; omega) (by simp)]; simp
theorem Bad_y (F : Nat) : whole_Bad_S F = some bad := rfl
theorem signed_y (F : Nat) (neg : Bool) {w : A16} (h : inD 4294967296 w.l) : whole_signed_S F neg w = some (big (if neg = true then -av w else av w)) := by
  have hr := av_range h
  unfold whole_signed_S big
  have hz := zero_iff h
  cases neg with
  | false =>
    have h1 : ¬ av w < 0 := by omega
    simp only [Bool.false_eq_true, if_false, h1, decide_false, Bool.false_and]
    rw [if_pos (by omega), toA_av h]
  | true =>
    simp only [if_true, Bool.true_and]
    rw [if_pos (by omega)]
    by_cases e : av w = 0
    · have hw := hz.2 e
      rw [e]
      simp [hw, zero_eq]
    · have hw : ¬ w = A16.zero := fun h => e (hz.1 h)
      have h1 : -av w < 0 := by omega
      simp only [h1, decide_true, if_true, Int.neg_neg, toA_av h]
      simp [hw]
theorem sv_big_W {z : Int} (h : -MM < z ∧ z < MM) : av (big z).W = (if z < 0 then -z else z) ∧ (big z).Neg = decide (z < 0) := by
  unfold big
  rw [if_pos h]
  refine ⟨?_, rfl⟩
  dsimp only
  rw [av_toA, Int.emod_eq_of_lt] <;> split <;> omega
/-- a function of two numbers -/
def two (f : Int → Int → Option Int) (x y : Big) : Big := match iv x, iv y with
  | some a, some b => toB (f a b)
  | _, _ => bad
def one (f : Int → Option Int) (x : Big) : Big := match iv x with
  | some a => toB (f a)
  | none => bad
theorem two_big {f : Int → Int → Option Int} {a b : Int} (ha : -MM < a ∧ a < MM) (hb : -MM < b ∧ b < MM) : two f (big a) (big b) = toB (f a b) := by simp only [two, iv_big ha, iv_big hb]
theorem one_big {f : Int → Option Int} {a : Int} (ha : -MM < a ∧ a < MM) : one f (big a) = toB (f a) := by simp only [one, iv_big ha]
theorem Add_y {F : Nat} (hF : 100 < F) {x y : Big} (hx : inB x) (hy : inB y) : whole_Add_S F x y = some (two (fun a b => some (a + b)) x y) := by
  refine Yld.eq ?_
  unfold whole_Add_S two
  refine Yld.bindE (good2 hF x y) ?_
  cases ha : iv x with
  | none => simp only [iv_none ha, Bool.false_and, Bool.not_false, if_true]; exact Yld.bindE (Bad_y F) (Yld.some rfl)
  | some a =>
    cases hb : iv y with
    | none => simp only [iv_none hb, Bool.and_false, Bool.not_false, if_true]; exact Yld.bindE (Bad_y F) (Yld.some rfl)
    | some b =>
      obtain ⟨ga, rfl, ra⟩ := iv_some hx ha
      obtain ⟨gb, rfl, rb⟩ := iv_some hy hb
      obtain ⟨wa, na⟩ := sv_big_W ra
      obtain ⟨wb, nb⟩ := sv_big_W rb
      simp only [ga, gb, Bool.and_self, Bool.not_true, Bool.false_eq_true, if_false, toB]
      refine Yld.ite (fun hn => ?_) (fun hn => ?_)
      · have hn' : (a < 0) = (b < 0) := by
          rw [na, nb] at hn
          exact propext (decide_eq_decide.1 (eq_of_beq hn))
        refine Yld.bindE (plus_y hF (big_in a) (big_in b)) ?_
        dsimp only [un2]
        rw [wa, wb]
        have hs : (if a < 0 then -a else a) + (if b < 0 then -b else b) = if a + b < 0 then -(a + b) else a + b := by
          by_cases h1 : a < 0
          · have h2 : b < 0 := by rw [← hn']; exact h1
            rw [if_pos h1, if_pos h2, if_pos (by omega)]; omega
          · have h2 : ¬ b < 0 := by rw [← hn']; exact h1
            rw [if_neg h1, if_neg h2, if_neg (by omega)]
        rw [hs]
        refine Yld.ite (fun h => ?_) (fun h => ?_)
        · refine Yld.bindE (Bad_y F) (Yld.some ?_)
          have h' : ¬ (if a + b < 0 then -(a + b) else a + b) < MM := by simpa using h
          exact (big_out (by split at h' <;> omega)).symm
        · have h' : (if a + b < 0 then -(a + b) else a + b) < MM := by simpa using h
          refine Yld.bindE (signed_y F _ (toA_in _)) (Yld.some ?_)
          rw [av_toA, Int.emod_eq_of_lt (by split <;> omega) h', na]
          congr 1
          by_cases h1 : a < 0
          · have h2 : b < 0 := by rw [← hn']; exact h1
            simp only [h1, decide_true, if_true]; rw [if_pos (by omega)]; omega
          · have h2 : ¬ b < 0 := by rw [← hn']; exact h1
            simp only [h1, decide_false, Bool.false_eq_true, if_false]; rw [if_neg (by omega)]
      · have hn' : (a < 0) ≠ (b < 0) := by
          rw [na, nb] at hn
          intro e
          have : decide (a < 0) = decide (b < 0) := decide_eq_decide.2 (Iff.of_eq e)
          rw [this] at hn; simp at hn
        have hcase : (a < 0 ∧ ¬ b < 0) ∨ (¬ a < 0 ∧ b < 0) := by
          by_cases h1 : a < 0
          · by_cases h2 : b < 0
            · exact absurd (propext ⟨fun _ => h2, fun _ => h1⟩) hn'
            · exact .inl ⟨h1, h2⟩
          · by_cases h2 : b < 0
            · exact .inr ⟨h1, h2⟩
            · exact absurd (propext ⟨fun h => absurd h h1, fun h => absurd h h2⟩) hn'
        refine Yld.bindE (order_y hF (big_in a) (big_in b)) ?_
        rw [wa, wb]
        refine Yld.ite (fun h => ?_) (fun h => ?_)
        · have h' := of_decide_eq_true h
          have hle : (if b < 0 then -b else b) ≤ (if a < 0 then -a else a) := by
            by_cases h3 : (if a < 0 then -a else a) < (if b < 0 then -b else b)
            · rw [if_pos h3] at h'; omega
            · omega
          refine Yld.bindE (minus_y hF (big_in a) (big_in b) (by rw [wa, wb]; exact hle)) (Yld.bindE (signed_y F _ (toA_in _)) (Yld.some ?_))
          rw [wa, wb, av_toA, Int.emod_eq_of_lt (by omega) (by split <;> split <;> omega), na]
          congr 1
          rcases hcase with ⟨h1, h2⟩ | ⟨h1, h2⟩
          · simp only [h1, h2, if_true, if_false, decide_true]; omega
          · simp only [h1, h2, if_true, if_false, decide_false, Bool.false_eq_true]; omega
        · have h' := of_decide_eq_false h
          have hle : (if a < 0 then -a else a) ≤ (if b < 0 then -b else b) := by
            by_cases h3 : (if a < 0 then -a else a) < (if b < 0 then -b else b)
            · omega
            · rw [if_neg h3] at h'; split at h' <;> omega
          refine Yld.bindE (minus_y hF (big_in b) (big_in a) (by rw [wa, wb]; exact hle)) (Yld.bindE (signed_y F _ (toA_in _)) (Yld.some ?_))
          rw [wa, wb, av_toA, Int.emod_eq_of_lt (by omega) (by split <;> split <;> omega), nb]
          congr 1
          rcases hcase with ⟨h1, h2⟩ | ⟨h1, h2⟩
          · simp only [h1, h2, if_true, if_false, decide_false, Bool.false_eq_true]; omega
          · simp only [h1, h2, if_true, if_false, decide_true]; omega
end Go.Proofs.YtaigaoifloldcaaDoor

/- The plain law of chapter 03, part c: signs, bits, ints. -/
namespace Go.Sk
set_option linter.unusedSimpArgs false
set_option linter.unusedVariables false
theorem pow2_le {i j : Nat} (h : i ≤ j) : (2 : Int) ^ i ≤ 2 ^ j := by
  have := Nat.pow_le_pow_right (n := 2) (by decide) h
  exact_mod_cast this
/-- how many bits a number has -/
def blen (m : Int) : Int := if m ≤ 0 then 0 else (Nat.log2 m.toNat : Int) + 1
theorem blen_spec {m : Int} (h : 0 < m) : 1 ≤ blen m ∧ 2 ^ ((blen m).toNat - 1) ≤ m ∧ m < 2 ^ (blen m).toNat := by
  obtain ⟨k, rfl⟩ : ∃ k : Nat, m = k := ⟨m.toNat, by omega⟩
  have hk : k ≠ 0 := by omega
  have e : blen (k : Int) = (Nat.log2 k : Int) + 1 := by unfold blen; rw [if_neg (by omega), Int.toNat_natCast]
  rw [e]
  have e1 : ((Nat.log2 k : Int) + 1).toNat = Nat.log2 k + 1 := by omega
  rw [e1, Nat.add_sub_cancel]
  refine ⟨by omega, ?_, ?_⟩
  · have := Nat.log2_self_le hk
    exact_mod_cast this
  · have := @Nat.lt_log2_self k
    exact_mod_cast this
theorem blen_unique {m n : Int} (hn : 1 ≤ n) (h1 : 2 ^ (n.toNat - 1) ≤ m) (h2 : m < 2 ^ n.toNat) : blen m = n := by
  have hm : 0 < m := Int.lt_of_lt_of_le (Int.pow_pos (by decide)) h1
  obtain ⟨k, rfl⟩ : ∃ k : Nat, m = k := ⟨m.toNat, by omega⟩
  have hk : k ≠ 0 := by omega
  unfold blen
  rw [if_neg (by omega), Int.toNat_natCast]
  have a1 : 2 ^ (n.toNat - 1) ≤ k := by exact_mod_cast h1
  have a2 : k < 2 ^ n.toNat := by exact_mod_cast h2
  have b1 := (Nat.le_log2 hk).2 a1
  have b2 := (Nat.log2_lt hk).2 a2
  omega
theorem blen_zero {m : Int} (h : m ≤ 0) : blen m = 0 := if_pos h
theorem blen_nonneg (m : Int) : 0 ≤ blen m := by unfold blen; split <;> omega
theorem blen_le {m : Int} {k : Nat} (h : m < 2 ^ k) : blen m ≤ k := by
  by_cases h0 : m ≤ 0
  · rw [blen_zero h0]; omega
  · have h1 := blen_spec (by omega : 0 < m)
    rcases (by omega : (k : Int) < blen m ∨ blen m ≤ k) with h2 | h2
    · have h3 : (2 : Int) ^ k ≤ 2 ^ ((blen m).toNat - 1) := pow2_le (by omega)
      omega
    · exact h2
theorem lt_blen {m : Int} : m < 2 ^ (blen m).toNat := by
  by_cases h0 : m ≤ 0
  · have : (0 : Int) < 2 ^ (blen m).toNat := Int.pow_pos (by decide)
    omega
  · exact (blen_spec (by omega)).2.2
/-- the bits of what is above k low bits -/
theorem blen_hi {x v : Int} {k : Nat} (hv : x / 2 ^ k = v) (h0 : 0 < v) : blen x = k + blen v := by
  have hp : (0 : Int) < 2 ^ k := Int.pow_pos (by decide)
  obtain ⟨h1, h2, h3⟩ := blen_spec h0
  have hx1 : v * 2 ^ k ≤ x := by rw [← hv]; exact Int.ediv_mul_le _ (by omega)
  have hx2 : x < (v + 1) * 2 ^ k := by rw [← hv]; exact Int.lt_ediv_add_one_mul_self _ hp
  refine blen_unique (by omega) ?_ ?_
  · have e : (k + blen v).toNat - 1 = ((blen v).toNat - 1) + k := by omega
    rw [e, Int.pow_add]
    exact Int.le_trans (Int.mul_le_mul_of_nonneg_right h2 (by omega)) hx1
  · have e : (k + blen v).toNat = (blen v).toNat + k := by omega
    rw [e, Int.pow_add]
    exact Int.lt_of_lt_of_le hx2 (Int.mul_le_mul_of_nonneg_right (by omega) (by omega))
theorem ior_nat (x y : Nat) (hx : x < 2 ^ 64) (hy : y < 2 ^ 64) : ior .u64 (x : Int) (y : Int) = ((x ||| y : Nat) : Int) := by
  have h : x ||| y < 2 ^ 64 := Nat.or_lt_two_pow hx hy
  unfold ior
  have e1 : (BitVec.ofInt 64 (x : Int)).toNat = x := by simp [BitVec.toNat_ofInt]; omega
  have e2 : (BitVec.ofInt 64 (y : Int)).toNat = y := by simp [BitVec.toNat_ofInt]; omega
  show IntKind.u64.wrap ((BitVec.ofInt 64 (x : Int) ||| BitVec.ofInt 64 (y : Int)).toNat : Int) = _
  rw [BitVec.toNat_or, e1, e2, wu64]
  omega
/-- high bits and low bits -/
theorem ior_add {a b : Int} (k : Nat) (ha : 0 ≤ a) (ha' : a < 18446744073709551616) (hk : a % 2 ^ k = 0) (hb : 0 ≤ b) (hb' : b < 2 ^ k) (hb2 : b < 18446744073709551616) : ior .u64 a b = a + b := by
  obtain ⟨x, rfl⟩ : ∃ x : Nat, a = x := ⟨a.toNat, by omega⟩
  obtain ⟨y, rfl⟩ : ∃ y : Nat, b = y := ⟨b.toNat, by omega⟩
  rw [ior_nat x y (by omega) (by omega)]
  have hy : y < 2 ^ k := by exact_mod_cast hb'
  have hx : x % 2 ^ k = 0 := by exact_mod_cast hk
  have e : x = 2 ^ k * (x / 2 ^ k) := by have := Nat.div_add_mod x (2 ^ k); omega
  rw [e, ← Nat.two_pow_add_eq_or_of_lt hy]
  exact Int.natCast_add _ _
theorem ior_comm (a b : Int) : ior .u64 a b = ior .u64 b a := by
  unfold ior
  rw [BitVec.or_comm]
/-- the value of a number of two digits -/
theorem av_two {a b : Int} : av ⟨a, b, 0, 0, 0, 0, 0, 0, 0, 0, 0, 0, 0, 0, 0, 0⟩ = a + b * 4294967296 := by
  simp [av, ds, dg, A16.l]
theorem in_two {a b : Int} (ha : 0 ≤ a ∧ a < 4294967296) (hb : 0 ≤ b ∧ b < 4294967296) : inD 4294967296 (A16.l ⟨a, b, 0, 0, 0, 0, 0, 0, 0, 0, 0, 0, 0, 0, 0, 0⟩) := fun i => by
  match i with
  | 0 => exact ha
  | 1 => exact hb
  | n + 2 =>
    have : dg (A16.l ⟨a, b, 0, 0, 0, 0, 0, 0, 0, 0, 0, 0, 0, 0, 0, 0⟩) (n + 2) = dg (List.replicate 14 0) n := rfl
    rw [this, dg_replicate]; decide
def sgn (z : Int) : Int := if z = 0 then 0 else if z < 0 then -1 else 1
def cmpZ (a b : Int) : Int := if a < b then -1 else if b < a then 1 else 0
def absZ (z : Int) : Int := if z < 0 then -z else z
theorem MM_big : 18446744073709551616 < MM := by rw [MM_eq]; decide
end Go.Sk
namespace Go.Proofs.YtaigaoifloldcaaDoor
open Go Go.Sk
set_option linter.unusedSimpArgs false
set_option linter.unusedVariables false
theorem Neg_y {F : Nat} (hF : 100 < F) {x : Big} (hx : inB x) : whole_Neg_S F x = some (one (fun a => some (-a)) x) := by
  refine Yld.eq ?_
  unfold whole_Neg_S one
  refine Yld.bindE (good1 hF x) ?_
  cases ha : iv x with
  | none => simp only [iv_none ha, Bool.not_false, if_true]; exact Yld.bindE (Bad_y F) (Yld.some rfl)
  | some a =>
    obtain ⟨ga, rfl, ra⟩ := iv_some hx ha
    obtain ⟨wa, na⟩ := sv_big_W ra
    simp only [ga, Bool.not_true, Bool.false_eq_true, if_false, toB]
    refine Yld.bindE (signed_y F _ (big_in a)) (Yld.some ?_)
    rw [wa, na]
    congr 1
    by_cases h : a < 0
    · simp [h]
    · simp [h]
theorem Abs_y {F : Nat} (hF : 100 < F) {x : Big} (hx : inB x) : whole_Abs_S F x = some (one (fun a => some (absZ a)) x) := by
  refine Yld.eq ?_
  unfold whole_Abs_S one
  refine Yld.bindE (good1 hF x) ?_
  cases ha : iv x with
  | none => simp only [iv_none ha, Bool.not_false, if_true]; exact Yld.bindE (Bad_y F) (Yld.some rfl)
  | some a =>
    obtain ⟨ga, rfl, ra⟩ := iv_some hx ha
    obtain ⟨wa, na⟩ := sv_big_W ra
    simp only [ga, Bool.not_true, Bool.false_eq_true, if_false, toB]
    refine Yld.bindE (signed_y F _ (big_in a)) (Yld.some ?_)
    simp only [wa, Bool.false_eq_true, if_false]
    rfl
theorem one_in (f : Int → Option Int) (x : Big) : inB (one f x) := by unfold one; split; exact toB_in _; exact bad_in
theorem two_in (f : Int → Int → Option Int) (x y : Big) : inB (two f x y) := by unfold two; split; exact toB_in _; exact bad_in
theorem Sub_y {F : Nat} (hF : 100 < F) {x y : Big} (hx : inB x) (hy : inB y) : whole_Sub_S F x y = some (two (fun a b => some (a - b)) x y) := by
  refine Yld.eq ?_
  unfold whole_Sub_S
  refine Yld.bindE (Neg_y hF hy) (Yld.bindE (Add_y hF hx (one_in _ _)) (Yld.some ?_))
  unfold two
  cases hb : iv y with
  | none =>
    have : one (fun a => some (-a)) y = bad := by simp only [one, hb]
    rw [this, iv_bad]
    cases iv x <;> rfl
  | some b =>
    obtain ⟨gb, rfl, rb⟩ := iv_some hy hb
    rw [one_big rb]
    simp only [toB]
    rw [iv_big (by omega)]
    cases iv x with
    | none => rfl
    | some a => simp only [toB, Int.sub_eq_add_neg]
theorem Sign_y {F : Nat} (hF : 100 < F) {x : Big} (hx : inB x) : whole_Sign_S F x = some (match iv x with | some a => sgn a | none => 0) := by
  refine Yld.eq ?_
  unfold whole_Sign_S
  refine Yld.bindE (good1 hF x) ?_
  cases ha : iv x with
  | none => simp only [iv_none ha, Bool.not_false, Bool.true_or, if_true]; exact Yld.some rfl
  | some a =>
    obtain ⟨ga, rfl, ra⟩ := iv_some hx ha
    obtain ⟨wa, na⟩ := sv_big_W ra
    simp only [ga, Bool.not_true, Bool.false_or, zero_iff (big_in a), wa, na]
    refine Yld.ite (fun h => ?_) (fun h => ?_)
    · have h' := of_decide_eq_true h
      have : a = 0 := by split at h' <;> omega
      subst this
      exact Yld.some rfl
    · have h' := of_decide_eq_false h
      have h0 : a ≠ 0 := fun e => h' (by rw [e]; rfl)
      unfold sgn
      refine Yld.ite (fun h => ?_) (fun h => ?_)
      · have := of_decide_eq_true h; exact Yld.some (by rw [if_neg h0, if_pos this])
      · have := of_decide_eq_false h; exact Yld.some (by rw [if_neg h0, if_neg this])
theorem Cmp_y {F : Nat} (hF : 100 < F) {x y : Big} (hx : inB x) (hy : inB y) : whole_Cmp_S F x y = some (match iv x, iv y with | some a, some b => cmpZ a b | none, some _ => -1 | some _, none => 1 | none, none => 0) := by
  refine Yld.eq ?_
  unfold whole_Cmp_S
  refine Yld.bindE (good1 hF x) (Yld.bindE (good1 hF y) ?_)
  cases ha : iv x with
  | none =>
    cases hb : iv y with
    | none => simp only [iv_none ha, iv_none hb, Bool.not_false, Bool.and_self, if_true]; exact Yld.some rfl
    | some b =>
      obtain ⟨gb, rfl, rb⟩ := iv_some hy hb
      simp only [iv_none ha, gb, Bool.not_false, Bool.not_true, Bool.and_false, Bool.false_eq_true, if_false, if_true]; exact Yld.some rfl
  | some a =>
    obtain ⟨ga, rfl, ra⟩ := iv_some hx ha
    cases hb : iv y with
    | none => simp only [ga, iv_none hb, Bool.not_false, Bool.not_true, Bool.false_and, Bool.false_eq_true, if_false, if_true]; exact Yld.some rfl
    | some b =>
      obtain ⟨gb, rfl, rb⟩ := iv_some hy hb
      obtain ⟨wa, na⟩ := sv_big_W ra
      obtain ⟨wb, nb⟩ := sv_big_W rb
      simp only [ga, gb, Bool.not_true, Bool.and_self, Bool.false_eq_true, if_false, na, nb]
      unfold cmpZ
      refine Yld.ite (fun h => ?_) (fun h => ?_)
      · by_cases h1 : a < 0
        · simp only [h1, decide_true, if_true]
          have h2 : ¬ b < 0 := fun h2 => by simp [h1, h2] at h
          exact Yld.some (by rw [if_pos (by omega)])
        · simp only [h1, decide_false, Bool.false_eq_true, if_false]
          have h2 : b < 0 := by
            rcases (by omega : b < 0 ∨ 0 ≤ b) with h2 | h2
            · exact h2
            · have h3 : ¬ b < 0 := by omega
              simp [h1, h3] at h
          exact Yld.some (by rw [if_neg (by omega), if_pos (by omega)])
      · by_cases h1 : a < 0
        · simp only [h1, decide_true, if_true]
          have h2 : b < 0 := by
            rcases (by omega : b < 0 ∨ 0 ≤ b) with h2 | h2
            · exact h2
            · have h3 : ¬ b < 0 := by omega
              simp [h1, h3] at h
          refine Yld.bindE (order_y hF (big_in b) (big_in a)) (Yld.some ?_)
          rw [wa, wb, if_pos h1, if_pos h2]
          by_cases h3 : a < b
          · rw [if_pos h3, if_pos (by omega)]
          · rw [if_neg h3, if_neg (by omega)]
            by_cases h4 : b < a
            · rw [if_pos h4, if_pos (by omega)]
            · rw [if_neg h4, if_neg (by omega)]
        · simp only [h1, decide_false, Bool.false_eq_true, if_false]
          have h2 : ¬ b < 0 := fun h2 => by simp [h1, h2] at h
          refine Yld.bindE (order_y hF (big_in a) (big_in b)) (Yld.some ?_)
          rw [wa, wb, if_neg h1, if_neg h2]
end Go.Proofs.YtaigaoifloldcaaDoor

/- The plain law of chapter 03, part d: bits, ints, products. -/
namespace Go.Sk
set_option linter.unusedSimpArgs false
set_option linter.unusedVariables false
def len8 : Str := [0, 1, 2, 2, 3, 3, 3, 3, 4, 4, 4, 4, 4, 4, 4, 4, 5, 5, 5, 5, 5, 5, 5, 5, 5, 5, 5, 5, 5, 5, 5, 5, 6, 6, 6, 6, 6, 6, 6, 6, 6, 6, 6, 6, 6, 6, 6, 6, 6, 6, 6, 6, 6, 6, 6, 6, 6, 6, 6, 6, 6, 6, 6, 6, 7, 7, 7, 7, 7, 7, 7, 7, 7, 7, 7, 7, 7, 7, 7, 7, 7, 7, 7, 7, 7, 7, 7, 7, 7, 7, 7, 7, 7, 7, 7, 7, 7, 7, 7, 7, 7, 7, 7, 7, 7, 7, 7, 7, 7, 7, 7, 7, 7, 7, 7, 7, 7, 7, 7, 7, 7, 7, 7, 7, 7, 7, 7, 7, 8, 8, 8, 8, 8, 8, 8, 8, 8, 8, 8, 8, 8, 8, 8, 8, 8, 8, 8, 8, 8, 8, 8, 8, 8, 8, 8, 8, 8, 8, 8, 8, 8, 8, 8, 8, 8, 8, 8, 8, 8, 8, 8, 8, 8, 8, 8, 8, 8, 8, 8, 8, 8, 8, 8, 8, 8, 8, 8, 8, 8, 8, 8, 8, 8, 8, 8, 8, 8, 8, 8, 8, 8, 8, 8, 8, 8, 8, 8, 8, 8, 8, 8, 8, 8, 8, 8, 8, 8, 8, 8, 8, 8, 8, 8, 8, 8, 8, 8, 8, 8, 8, 8, 8, 8, 8, 8, 8, 8, 8, 8, 8, 8, 8, 8, 8, 8, 8, 8, 8, 8, 8, 8, 8, 8, 8, 8, 8]
theorem len8_fin : ∀ v : _root_.Fin 256, ((len8.getD v.val 0).toNat : Int) = blen v.val := by decide +kernel
theorem len8_at {v : Int} (h0 : 0 ≤ v) (h1 : v < 256) : ((idx len8 v).toNat : Int) = blen v := by
  obtain ⟨k, rfl⟩ : ∃ k : Nat, v = k := ⟨v.toNat, by omega⟩
  exact len8_fin ⟨k, by omega⟩
theorem len8_len : len8.length = 256 := by decide +kernel
theorem p8 : (2 : Int) ^ 8 = 256 := by decide
theorem p32 : (2 : Int) ^ 32 = 4294967296 := by decide
theorem p64 : (2 : Int) ^ 64 = 18446744073709551616 := by decide
theorem pow32 (m : Nat) : (4294967296 : Int) ^ m = 2 ^ (32 * m) := by rw [Int.pow_mul]; rfl
theorem A32.set_dg {w : A32} {i x : Int} (h0 : 0 ≤ i) (h1 : i < 32) (j : Nat) : dg (w.set i x).l j = if j = i.toNat then x else dg w.l j := by
  rw [A32.set_l, dg_set (by rw [A32.l_len]; omega)]
theorem A32.ds_set {b : Int} {w : A32} {k : Nat} {x : Int} (h : k < 32) : ds b (dg (w.set (k : Int) x).l) (k + 1) = ds b (dg w.l) k + x * b ^ k := ds_upd fun i => by rw [A32.set_dg (by omega) (by omega), Int.toNat_natCast]
theorem A32.set_in {w : A32} {i x : Int} (h : inD 4294967296 w.l) (h0 : 0 ≤ i) (h1 : i < 32) (hx : 0 ≤ x ∧ x < 4294967296) : inD 4294967296 (w.set i x).l := fun j => by
  rw [A32.set_dg h0 h1]
  split
  · exact hx
  · exact h j
theorem A32.zero_in : inD 4294967296 A32.zero.l := fun i => by
  have : A32.zero.l = List.replicate 32 0 := rfl
  rw [this, dg_replicate]; decide
theorem A32.zero_dg (i : Nat) : dg A32.zero.l i = 0 := by
  have : A32.zero.l = List.replicate 32 0 := rfl
  rw [this, dg_replicate]
theorem mul_bound {a b m : Int} (ha : 0 ≤ a ∧ a < m) (hb : 0 ≤ b ∧ b < m) : 0 ≤ a * b ∧ a * b ≤ (m - 1) * (m - 1) := ⟨Int.mul_nonneg ha.1 hb.1, Int.mul_le_mul (by omega) (by omega) hb.1 (by omega)⟩
theorem mul_step {b O0 O c x c' ai bk ok V : Int} {i k : Nat} (h : O + c * b ^ (i + k) = O0 + ai * b ^ i * V) (e : c + ai * bk + ok = x + c' * b) : (O + x * b ^ (i + k)) + c' * b ^ (i + k + 1) = (O0 + ok * b ^ (i + k)) + ai * b ^ i * (V + bk * b ^ k) := by
  rw [Int.pow_succ]
  have e1 : b ^ (i + k) = b ^ i * b ^ k := Int.pow_add _ _ _
  rw [e1] at *
  grind
end Go.Sk
namespace Go.Proofs.YtaigaoifloldcaaDoor
open Go Go.Sk
set_option linter.unusedSimpArgs false
set_option linter.unusedVariables false
theorem Len32_y (F : Nat) {x : Int} (h0 : 0 ≤ x) (h1 : x < 4294967296) : bits_Len32_S F x = some (blen x) := by
  refine Yld.eq ?_
  unfold bits_Len32_S
  refine Yld.bind (P := fun r => 0 ≤ r.1 ∧ r.1 < 65536 ∧ 0 ≤ r.2 ∧ r.2 ≤ 16 ∧ blen x = r.2 + blen r.1) ?_ ?_
  · refine Yld.ite (fun h => ?_) (fun h => ?_)
    · have := of_decide_eq_true h
      refine Yld.some ⟨by omega, by omega, by omega, by omega, ?_⟩
      exact blen_hi (k := 16) rfl (by omega)
    · have := of_decide_eq_false h
      exact Yld.some ⟨by omega, by omega, by omega, by omega, by dsimp only; omega⟩
  · rintro ⟨y, n⟩ ⟨y0, y1, n0, n1, e⟩
    dsimp only at y0 y1 n0 n1 e
    refine Yld.bind (P := fun r => 0 ≤ r.1 ∧ r.1 < 256 ∧ 0 ≤ r.2 ∧ r.2 ≤ 24 ∧ blen x = r.2 + blen r.1) ?_ ?_
    · refine Yld.ite (fun h => ?_) (fun h => ?_)
      · have := of_decide_eq_true h
        have e2 := blen_hi (x := y) (v := y / 256) (k := 8) rfl (by omega)
        refine Yld.some ⟨by omega, by omega, ?_, ?_, ?_⟩ <;> dsimp only <;> rw [wi64] <;> omega
      · have := of_decide_eq_false h
        exact Yld.some ⟨by omega, by omega, by omega, by omega, by dsimp only; omega⟩
    · rintro ⟨z, m⟩ ⟨z0, z1, m0, m1, e2⟩
      dsimp only at z0 z1 m0 m1 e2
      have hw : IntKind.u8.wrap z = z := by rw [wu8]; omega
      dsimp only [un2]
      rw [hw]
      refine Yld.idx (l := len8) z0 (by rw [len8_len]; omega) (Yld.ln (Yld.some ?_))
      rw [len8_at z0 z1]
      have hb := blen_le (m := z) (k := 8) (by rw [p8]; omega)
      have hb0 := blen_nonneg z
      rw [wi64' (z := blen z) (by omega) (by omega), wi64] 
      omega
theorem bits_fin {m : Nat} {v : Int} (hm : m ≤ 15) (h0 : 0 ≤ v) (h1 : v ≤ ((32 : Nat) : Int)) : IntKind.i64.wrap (IntKind.i64.wrap (32 * (m : Int)) + v) = ((32 * m : Nat) : Int) + v := by
  simp only [wi64]
  omega
theorem Bits_y {F : Nat} (hF : 100 < F) {x : Big} (hx : inB x) : whole_Bits_S F x = some (match iv x with | some a => blen (absZ a) | none => 0) := by
  refine Yld.eq ?_
  unfold whole_Bits_S
  refine Yld.bind (size_y hF) fun n hn => ?_
  obtain ⟨n0, n1, nz, nt⟩ := hn
  refine Yld.bindE (good1 hF x) ?_
  cases ha : iv x with
  | none => simp only [iv_none ha, Bool.not_false, Bool.true_or, if_true]; exact Yld.some rfl
  | some a =>
    obtain ⟨ga, rfl, ra⟩ := iv_some hx ha
    obtain ⟨wa, na⟩ := sv_big_W ra
    have hval : absZ a = ds 4294967296 (dg (big a).W.l) n.toNat := by
      have h1 : absZ a = av (big a).W := by rw [wa]; rfl
      rw [h1]
      exact ds_ext (by omega) nz
    simp only [ga, Bool.not_true, Bool.false_or]
    refine Yld.ite (fun h => ?_) (fun h => ?_)
    · have h' := of_decide_eq_true h
      subst h'
      refine Yld.some ?_
      rw [hval]; rfl
    · have h' := of_decide_eq_false h
      have hm : n.toNat = (n.toNat - 1) + 1 := by omega
      have hw : IntKind.i64.wrap (n - 1) = ((n.toNat - 1 : Nat) : Int) := by rw [wi64]; omega
      rw [hw]
      have hd := big_in a (n.toNat - 1)
      have hd0 := nt (by omega)
      refine Yld.ln (Yld.idx (by omega) (by rw [A16.l_len]; omega) ?_)
      rw [idx_dg, Int.toNat_natCast]
      refine Yld.bindE (Len32_y F hd.1 hd.2) (Yld.some ?_)
      have hb := blen_le (m := dg (big a).W.l (n.toNat - 1)) (k := 32) (by rw [p32]; omega)
      have hb0 := blen_nonneg (dg (big a).W.l (n.toNat - 1))
      have key : blen (absZ a) = ((32 * (n.toNat - 1) : Nat) : Int) + blen (dg (big a).W.l (n.toNat - 1)) := by
        refine blen_hi ?_ (by omega)
        have hp : (0 : Int) < 2 ^ (32 * (n.toNat - 1)) := Int.pow_pos (by decide)
        have hlo := ds_lt (b := 4294967296) (by decide) (f := dg (big a).W.l) (n := n.toNat - 1) fun i _ => big_in a i
        have hlo0 := ds_nonneg (b := 4294967296) (by decide) (f := dg (big a).W.l) (n := n.toNat - 1) fun i _ => (big_in a i).1
        rw [hval, hm, ds_succ, pow32, Nat.add_sub_cancel]
        rw [pow32] at hlo
        rw [Int.add_mul_ediv_right _ _ (by omega), Int.ediv_eq_zero_of_lt hlo0 hlo, Int.zero_add]
      show IntKind.i64.wrap (IntKind.i64.wrap (32 * ((n.toNat - 1 : Nat) : Int)) + blen (dg (big a).W.l (n.toNat - 1))) = blen (absZ a)
      rw [key]
      exact bits_fin (by omega) hb0 hb
theorem Of_y (F : Nat) {n : Int} (h0 : -9223372036854775808 ≤ n) (h1 : n ≤ 9223372036854775807) : whole_Of_S F n = some (big n) := by
  refine Yld.eq ?_
  unfold whole_Of_S
  refine Yld.bind (P := fun u => u = absZ n) ?_ ?_
  · unfold absZ
    refine Yld.ite (fun h => ?_) (fun h => ?_)
    · have := of_decide_eq_true h
      refine Yld.ln (Yld.some ?_)
      rw [if_pos this]
      simp only [wu64]; omega
    · have := of_decide_eq_false h
      refine Yld.some ?_
      rw [if_neg this]
      simp only [wu64]; omega
  · rintro u rfl
    have hu : 0 ≤ absZ n ∧ absZ n ≤ 9223372036854775808 := by unfold absZ; split <;> omega
    refine Yld.ln ?_
    refine Yld.bindE (signed_y F _ (in_two (by simp only [wu32]; omega) (by simp only [wu32]; omega))) (Yld.some ?_)
    rw [av_two]
    simp only [wu32]
    congr 1
    unfold absZ at *
    by_cases h : n < 0
    · simp only [h, decide_true, if_true] at *; omega
    · simp only [h, decide_false, Bool.false_eq_true, if_false] at *; omega
theorem small_val {w : A16} (h : inD 4294967296 w.l) (hv : av w < 18446744073709551616) : w.a0 + w.a1 * 4294967296 = av w := by
  have e := ds_split 4294967296 (dg w.l) 2 14
  have h2 : ds 4294967296 (dg w.l) 2 = w.a0 + w.a1 * 4294967296 := by simp [ds, dg, A16.l]
  have h3 := ds_nonneg (b := 4294967296) (by decide) (f := fun i => dg w.l (2 + i)) (n := 14) fun i _ => (h (2 + i)).1
  have a0 := h 0
  have a1 := h 1
  have e0 : dg w.l 0 = w.a0 := rfl
  have e1 : dg w.l 1 = w.a1 := rfl
  rw [e0] at a0
  rw [e1] at a1
  have hav : av w = ds 4294967296 (dg w.l) (2 + 14) := rfl
  rw [hav] at hv ⊢
  rw [e, h2] at hv ⊢
  have hp : (4294967296 : Int) ^ 2 = 18446744073709551616 := by decide
  rw [hp] at hv ⊢
  omega
theorem Small_y {F : Nat} (hF : 100 < F) {x : Big} (hx : inB x) : whole_Small_S F x = some (match iv x with | some a => if -9223372036854775808 ≤ a ∧ a ≤ 9223372036854775807 then (a, true) else (0, false) | none => (0, false)) := by
  refine Yld.eq ?_
  unfold whole_Small_S
  refine Yld.bindE (good1 hF x) ?_
  cases ha : iv x with
  | none =>
    simp only [iv_none ha]
    exact Yld.g0 (by rfl) (Yld.ift (by rfl) (Yld.some rfl))
  | some a =>
    obtain ⟨ga, rfl, ra⟩ := iv_some hx ha
    obtain ⟨wa, na⟩ := sv_big_W ra
    simp only [ga]
    refine Yld.g1 (by rfl) (Yld.bindE (Bits_y hF (big_in a)) ?_)
    rw [iv_big ra]
    simp only [Bool.not_true, Bool.false_or]
    refine Yld.ite (fun h => ?_) (fun h => ?_)
    · have h' := of_decide_eq_true h
      refine Yld.some ?_
      rw [if_neg]
      intro hh
      have := blen_le (m := absZ a) (k := 64) (by rw [p64]; unfold absZ; split <;> omega)
      omega
    · have h' := of_decide_eq_false h
      have hlt : absZ a < 18446744073709551616 := by
        have h2 := lt_blen (m := absZ a)
        have h3 : (2 : Int) ^ (blen (absZ a)).toNat ≤ 2 ^ 64 := pow2_le (by omega)
        rw [p64] at h3
        omega
      have hs := small_val (big_in a) (by rw [wa]; exact hlt)
      rw [wa] at hs
      have b0 := big_in a 0
      have b1 := big_in a 1
      have e0 : dg (big a).W.l 0 = (big a).W.a0 := rfl
      have e1 : dg (big a).W.l 1 = (big a).W.a1 := rfl
      rw [e0] at b0
      rw [e1] at b1
      have habs : absZ a = if a < 0 then -a else a := rfl
      rw [← habs] at hs
      have habs0 : 0 ≤ absZ a := by unfold absZ; split <;> omega
      refine Yld.lnE ((big a).W.a1 * 4294967296) (by simp only [wu64]; omega) (Yld.lnE (absZ a) ?_ ?_)
      · have e2 : IntKind.u64.wrap (big a).W.a0 = (big a).W.a0 := by rw [wu64]; omega
        rw [e2, ior_add 32 (by omega) (by omega) (by rw [p32]; omega) b0.1 (by rw [p32]; omega) (by omega)]
        omega
      · rw [na]
        refine Yld.ite (fun h => ?_) (fun h => ?_)
        · simp only [Bool.and_eq_true, decide_eq_true_eq] at h
          rw [if_pos h.1] at habs
          refine Yld.ln (Yld.some ?_)
          rw [if_pos (by omega)]
          simp only [wu64, wi64]
          congr 1
          omega
        · refine Yld.ite (fun h2 => ?_) (fun h2 => ?_)
          · simp only [Bool.and_eq_true, Bool.not_eq_true', decide_eq_true_eq, decide_eq_false_iff_not] at h2
            rw [if_neg h2.1] at habs
            refine Yld.some ?_
            rw [if_pos (by omega), wi64]
            congr 1
            omega
          · refine Yld.some ?_
            rw [if_neg]
            intro hh
            by_cases h3 : a < 0
            · rw [if_pos h3] at habs
              simp only [h3, decide_true, Bool.true_and, decide_eq_false_iff_not] at h
              omega
            · rw [if_neg h3] at habs
              simp only [h3, decide_false, Bool.not_false, Bool.true_and, decide_eq_false_iff_not] at h2
              omega
end Go.Proofs.YtaigaoifloldcaaDoor

/- The plain law of chapter 03, part v: what a number is, by the reference. -/
namespace Go.Proofs.YtaigaoifloldcaaDoor
open Go Go.Sk
set_option linter.unusedSimpArgs false
set_option linter.unusedVariables false
theorem rValid_y {F : Nat} (hF : 100000 < F) {x : Big} (hx : inB x) : skewbackref03_Valid_S F x = some (if x.Bad = true then decide (x.W = A16.zero) && !x.Neg else !decide (x.W = A16.zero) || !x.Neg) := by
  refine Yld.eq ?_
  unfold skewbackref03_Valid_S
  refine Yld.bind (P := fun z => z = decide (x.W = A16.zero)) (Yld.rounds 16 (fun k s => s.2 = (k : Int) ∧ (s.1 = true ↔ ∀ i, i < k → dg x.W.l i = 0)) (by omega) ⟨rfl, by simp⟩ ?_) ?_
  · rintro k ⟨z, kx⟩ hk ⟨rfl, hz⟩
    dsimp only at hz
    dsimp only [un2]
    refine Yld.ite (fun h => ?_) (fun h => ?_)
    · have hk' : k < 16 := by have := of_decide_eq_true h; omega
      cases z with
      | true =>
        refine Yld.g1 rfl (Yld.idx (by omega) (by rw [A16.l_len]; omega) (Yld.some (.inl ⟨_, rfl, ⟨by dsimp only; rw [wi64]; omega, ?_⟩, hk'⟩)))
        simp only [idx_dg, Int.toNat_natCast, Bool.true_and]
        constructor
        · intro h1 i hi
          by_cases e : i = k
          · rw [e]; exact of_decide_eq_true h1
          · exact hz.1 rfl i (by omega)
        · intro h1; exact decide_eq_true (h1 k (by omega))
      | false =>
        refine Yld.g0 rfl (Yld.some (.inl ⟨_, rfl, ⟨by dsimp only; rw [wi64]; omega, ?_⟩, hk'⟩))
        simp only [Bool.false_and, Bool.false_eq_true, false_iff]
        intro h1
        exact absurd (hz.2 fun i hi => h1 i (by omega)) (by simp)
    · have hk' : k = 16 := by have := of_decide_eq_false h; omega
      subst hk'
      refine Yld.some (.inr ⟨_, rfl, ?_⟩)
      rw [Bool.eq_iff_iff, hz, decide_eq_true_eq]
      constructor
      · intro h1
        rw [zero_iff hx]
        exact ds_zero h1
      · intro h1 i _
        rw [h1]
        have : A16.zero.l = List.replicate 16 0 := rfl
        rw [this, dg_replicate]
  · rintro z rfl
    refine Yld.ite (fun h => ?_) (fun h => ?_)
    · rw [h]; exact Yld.some rfl
    · rw [h]; exact Yld.some rfl
theorem rGood_y {F : Nat} (hF : 100000 < F) {x : Big} (hx : inB x) : skewbackref03_Good_S F x = some (goodB x) := by
  refine Yld.eq ?_
  unfold skewbackref03_Good_S
  refine Yld.bindE (rValid_y hF hx) (Yld.some ?_)
  unfold goodB
  cases x.Bad <;> simp
end Go.Proofs.YtaigaoifloldcaaDoor

/- The plain law of chapter 03, part e: products. -/
namespace Go.Sk
set_option linter.unusedSimpArgs false
set_option linter.unusedVariables false
theorem mulfin {c ai bk ok : Int} (h1 : 0 ≤ c ∧ c < 4294967296) (h2 : 0 ≤ ai * bk ∧ ai * bk ≤ 18446744065119617025) (h3 : 0 ≤ ok ∧ ok < 4294967296) (ha : 0 ≤ ai ∧ ai < 4294967296) (hb : 0 ≤ bk ∧ bk < 4294967296) :
    IntKind.u64.wrap (c + IntKind.u64.wrap (IntKind.u64.wrap (IntKind.u64.wrap ai * IntKind.u64.wrap bk) + IntKind.u64.wrap ok)) = c + ai * bk + ok := by
  have e1 : IntKind.u64.wrap ai = ai := by rw [wu64]; omega
  have e2 : IntKind.u64.wrap bk = bk := by rw [wu64]; omega
  rw [e1, e2]
  generalize ai * bk = p at *
  simp only [wu64]
  omega
/-- the parts of 32 digits -/
def lo16 (o : A32) : A16 := ⟨o.a0, o.a1, o.a2, o.a3, o.a4, o.a5, o.a6, o.a7, o.a8, o.a9, o.a10, o.a11, o.a12, o.a13, o.a14, o.a15⟩
def hi16 (o : A32) : A16 := ⟨o.a16, o.a17, o.a18, o.a19, o.a20, o.a21, o.a22, o.a23, o.a24, o.a25, o.a26, o.a27, o.a28, o.a29, o.a30, o.a31⟩
theorem lo16_l (o : A32) : (lo16 o).l = o.l.take 16 := rfl
theorem hi16_l (o : A32) : (hi16 o).l = o.l.drop 16 := rfl
theorem lo16_in {o : A32} (h : inD 4294967296 o.l) : inD 4294967296 (lo16 o).l := fun i => by
  rw [lo16_l, dg_take]; split
  · exact h i
  · decide
theorem hi16_in {o : A32} (h : inD 4294967296 o.l) : inD 4294967296 (hi16 o).l := fun i => by
  rw [hi16_l, dg_drop]; exact h _
theorem halves (o : A32) : ds 4294967296 (dg o.l) 32 = av (lo16 o) + MM * av (hi16 o) := by
  rw [show (32 : Nat) = 16 + 16 from rfl, ds_split]
  have e1 : ds 4294967296 (dg o.l) 16 = av (lo16 o) := ds_congr fun i hi => by rw [lo16_l, dg_take, if_pos hi]
  have e2 : ds 4294967296 (fun i => dg o.l (16 + i)) 16 = av (hi16 o) := ds_congr fun i _ => by rw [hi16_l, dg_drop]
  rw [e1, e2]
  rfl
theorem absZ_mul (a b : Int) : absZ (a * b) = absZ a * absZ b := by
  unfold absZ
  by_cases ha : a < 0
  · by_cases hb : b < 0
    · rw [if_pos ha, if_pos hb, if_neg (by have := Int.mul_pos_of_neg_of_neg ha hb; omega), Int.neg_mul_neg]
    · rw [if_pos ha, if_neg hb]
      have := Int.mul_nonpos_of_nonpos_of_nonneg (Int.le_of_lt ha) (by omega : 0 ≤ b)
      by_cases h0 : a * b < 0
      · rw [if_pos h0, Int.neg_mul]
      · rw [if_neg h0, Int.neg_mul]; omega
  · by_cases hb : b < 0
    · rw [if_neg ha, if_pos hb]
      have := Int.mul_nonpos_of_nonneg_of_nonpos (by omega : 0 ≤ a) (Int.le_of_lt hb)
      by_cases h0 : a * b < 0
      · rw [if_pos h0, Int.mul_neg]
      · rw [if_neg h0, Int.mul_neg]; omega
    · rw [if_neg ha, if_neg hb, if_neg (by have := Int.mul_nonneg (by omega : 0 ≤ a) (by omega : 0 ≤ b); omega)]
theorem sgn_mul {a b : Int} (h : (decide (a < 0) != decide (b < 0)) = true) : a * b = -(absZ a * absZ b) := by
  rw [← absZ_mul]
  unfold absZ
  by_cases ha : a < 0
  · have hb : ¬ b < 0 := fun hb => by simp [ha, hb] at h
    have := Int.mul_nonpos_of_nonpos_of_nonneg (Int.le_of_lt ha) (by omega : 0 ≤ b)
    split <;> omega
  · by_cases hb : b < 0
    · have := Int.mul_nonpos_of_nonneg_of_nonpos (by omega : 0 ≤ a) (Int.le_of_lt hb)
      split <;> omega
    · simp [ha, hb] at h
theorem sgn_mul' {a b : Int} (h : (decide (a < 0) != decide (b < 0)) = false) : a * b = absZ a * absZ b := by
  rw [← absZ_mul]
  unfold absZ
  by_cases ha : a < 0
  · by_cases hb : b < 0
    · have := Int.mul_pos_of_neg_of_neg ha hb
      rw [if_neg (by omega)]
    · simp [ha, hb] at h
  · have hb : ¬ b < 0 := fun hb => by simp [ha, hb] at h
    have := Int.mul_nonneg (by omega : 0 ≤ a) (by omega : 0 ≤ b)
    rw [if_neg (by omega)]
theorem absZ_lt {a : Int} (h : -MM < a ∧ a < MM) : 0 ≤ absZ a ∧ absZ a < MM := by unfold absZ; split <;> omega
theorem absZ_in {a : Int} : (-MM < a ∧ a < MM) ↔ absZ a < MM := by unfold absZ; split <;> omega
end Go.Sk
namespace Go.Proofs.YtaigaoifloldcaaDoor
open Go Go.Sk
set_option linter.unusedSimpArgs false
set_option linter.unusedVariables false
theorem Mul_y {F : Nat} (hF : 100 < F) {x y : Big} (hx : inB x) (hy : inB y) : whole_Mul_S F x y = some (two (fun a b => some (a * b)) x y) := by
  refine Yld.eq ?_
  unfold whole_Mul_S two
  refine Yld.bindE (good2 hF x y) ?_
  cases ha : iv x with
  | none => simp only [iv_none ha, Bool.false_and, Bool.not_false, if_true]; exact Yld.bindE (Bad_y F) (Yld.some rfl)
  | some a =>
    cases hb : iv y with
    | none => simp only [iv_none hb, Bool.and_false, Bool.not_false, if_true]; exact Yld.bindE (Bad_y F) (Yld.some rfl)
    | some b =>
      obtain ⟨ga, rfl, ra⟩ := iv_some hx ha
      obtain ⟨gb, rfl, rb⟩ := iv_some hy hb
      obtain ⟨wa, na⟩ := sv_big_W ra
      obtain ⟨wb, nb⟩ := sv_big_W rb
      have ia : inD 4294967296 (big a).W.l := big_in a
      have ib : inD 4294967296 (big b).W.l := big_in b
      have habs : av (big a).W = absZ a := wa
      have hbbs : av (big b).W = absZ b := wb
      clear wa wb ha hb hx hy
      simp only [ga, gb, Bool.and_self, Bool.not_true, Bool.false_eq_true, if_false, toB, na, nb]
      generalize (big a).W = A at *
      generalize (big b).W = B at *
      refine Yld.bind (size_y hF) fun n hn => Yld.bind (size_y hF) fun m hm => ?_
      obtain ⟨n0, n1, nz, _⟩ := hn
      obtain ⟨m0, m1, mz, _⟩ := hm
      obtain ⟨N, rfl⟩ : ∃ N : Nat, n = N := ⟨n.toNat, by omega⟩
      obtain ⟨M, rfl⟩ : ∃ M : Nat, m = M := ⟨m.toNat, by omega⟩
      simp only [Int.toNat_natCast] at nz mz
      have hA : absZ a = ds 4294967296 (dg A.l) N := by rw [← habs]; exact ds_ext (by omega) nz
      have hB : absZ b = ds 4294967296 (dg B.l) M := by rw [← hbbs]; exact ds_ext (by omega) mz
      refine Yld.bind (P := fun out => inD 4294967296 out.l ∧ ds 4294967296 (dg out.l) 32 = absZ a * absZ b) (Yld.rounds N (fun i s => s.2 = (i : Int) ∧ inD 4294967296 s.1.l ∧ (∀ j, i + M ≤ j → dg s.1.l j = 0) ∧ ds 4294967296 (dg s.1.l) (i + M) = ds 4294967296 (dg A.l) i * absZ b) (by omega) ⟨rfl, A32.zero_in, fun j _ => A32.zero_dg j, ?_⟩ ?_) ?_
      · show ds 4294967296 (dg A32.zero.l) (0 + M) = 0 * absZ b
        rw [Int.zero_mul]
        exact ds_zero fun j _ => A32.zero_dg j
      · rintro i ⟨o0, ix⟩ hi ⟨rfl, oin, oz, os⟩
        dsimp only at oin oz os
        dsimp only [un2]
        refine Yld.ite (fun h => ?_) (fun h => ?_)
        · have hi' : i < N := by have := of_decide_eq_true h; omega
          have hai := ia i
          refine Yld.bind (P := fun o1 => inD 4294967296 o1.l ∧ (∀ j, i + 1 + M ≤ j → dg o1.l j = 0) ∧ ds 4294967296 (dg o1.l) (i + 1 + M) = ds 4294967296 (dg A.l) (i + 1) * absZ b) ?_ ?_
          · refine Yld.bind (P := fun r => inD 4294967296 r.1.l ∧ 0 ≤ r.2 ∧ r.2 < 4294967296 ∧ (∀ j, i + M ≤ j → dg r.1.l j = dg o0.l j) ∧ ds 4294967296 (dg r.1.l) (i + M) + r.2 * 4294967296 ^ (i + M) = ds 4294967296 (dg o0.l) (i + M) + dg A.l i * 4294967296 ^ i * ds 4294967296 (dg B.l) M)
              (Yld.rounds M (fun k s => s.2.2 = (k : Int) ∧ inD 4294967296 s.1.l ∧ 0 ≤ s.2.1 ∧ s.2.1 < 4294967296 ∧ (∀ j, i + k ≤ j → dg s.1.l j = dg o0.l j) ∧ ds 4294967296 (dg s.1.l) (i + k) + s.2.1 * 4294967296 ^ (i + k) = ds 4294967296 (dg o0.l) (i + k) + dg A.l i * 4294967296 ^ i * ds 4294967296 (dg B.l) k) (by omega) ⟨rfl, oin, Int.le_refl _, (by decide : (0 : Int) < 4294967296), fun _ _ => rfl, ?_⟩ ?_) ?_
            · show ds 4294967296 (dg o0.l) (i + 0) + 0 * 4294967296 ^ (i + 0) = ds 4294967296 (dg o0.l) (i + 0) + dg A.l i * 4294967296 ^ i * 0
              rw [Int.zero_mul, Int.mul_zero]
            · rintro k ⟨o, c, kx⟩ hk ⟨rfl, pin, c0, c1, pk, ps⟩
              dsimp only at pin c0 c1 pk ps
              dsimp only [un3]
              refine Yld.ite (fun h2 => ?_) (fun h2 => ?_)
              · have hk' : k < M := by have := of_decide_eq_true h2; omega
                have hw : IntKind.i64.wrap ((i : Int) + (k : Int)) = ((i + k : Nat) : Int) := by rw [wi64]; omega
                have hbk := ib k
                have hok := pin (i + k)
                rw [hw]
                have hmb := mul_bound hai hbk
                have hfin := mulfin ⟨c0, c1⟩ (by have e : ((4294967296 : Int) - 1) * (4294967296 - 1) = 18446744065119617025 := by decide
                                                 rw [e] at hmb; exact hmb) hok hai hbk
                have hlt : c + dg A.l i * dg B.l k + dg o.l (i + k) ≤ 18446744073709551615 := by
                  have e : ((4294967296 : Int) - 1) * (4294967296 - 1) = 18446744065119617025 := by decide
                  rw [e] at hmb
                  omega
                refine Yld.idx (by omega) (by rw [A16.l_len]; omega) (Yld.idx (by omega) (by rw [A16.l_len]; omega) (Yld.idx (by omega) (by rw [A32.l_len]; omega) (Yld.ln (Yld.idx (by omega) (by rw [A32.l_len]; omega) (Yld.ln (Yld.some (.inl ⟨_, rfl, ?_, hk'⟩)))))))
                simp only [idx_dg, Int.toNat_natCast]
                rw [hfin]
                generalize hp : dg A.l i * dg B.l k = p at *
                have hmb0 := hmb.1
                clear hfin hmb
                refine ⟨by rw [wi64]; omega, A32.set_in pin (by omega) (by omega) (by rw [wu32]; omega), by omega, by omega, fun j hj => ?_, ?_⟩
                · rw [A32.set_dg (by omega) (by omega), Int.toNat_natCast, if_neg (by omega)]
                  exact pk j (by omega)
                · have hok0 := pk (i + k) (Nat.le_refl _)
                  show ds 4294967296 (dg (A32.set o ((i + k : Nat) : Int) _).l) (i + k + 1) + _ * 4294967296 ^ (i + k + 1) = ds 4294967296 (dg o0.l) (i + k + 1) + dg A.l i * 4294967296 ^ i * ds 4294967296 (dg B.l) (k + 1)
                  rw [A32.ds_set (by omega), ds_succ 4294967296 (dg o0.l), ds_succ 4294967296 (dg B.l), ← hok0]
                  refine mul_step ps ?_
                  rw [hp, wu32]
                  omega
              · have hk' : k = M := by have := of_decide_eq_false h2; omega
                subst hk'
                exact Yld.some (.inr ⟨_, rfl, pin, c0, c1, pk, ps⟩)
            · rintro ⟨o, c⟩ ⟨pin, c0, c1, pk, ps⟩
              dsimp only at pin c0 c1 pk ps
              dsimp only [un2]
              have hw : IntKind.i64.wrap ((i : Int) + (M : Int)) = ((i + M : Nat) : Int) := by rw [wi64]; omega
              rw [hw]
              refine Yld.idx (by omega) (by rw [A32.l_len]; omega) (Yld.some ?_)
              have hwc : IntKind.u32.wrap c = c := by rw [wu32]; omega
              rw [hwc]
              refine ⟨A32.set_in pin (by omega) (by omega) ⟨c0, c1⟩, fun j hj => ?_, ?_⟩
              · rw [A32.set_dg (by omega) (by omega), Int.toNat_natCast, if_neg (by omega), pk j (by omega), oz j (by omega)]
              · have e : i + 1 + M = i + M + 1 := by omega
                rw [e, A32.ds_set (by omega), ps, os, ds_succ, ← hB, Int.add_mul]
          · rintro o1 ⟨h1, h2, h3⟩
            exact Yld.some (.inl ⟨_, rfl, ⟨by rw [wi64]; omega, h1, h2, h3⟩, hi'⟩)
        · have hi' : i = N := by have := of_decide_eq_false h; omega
          subst hi'
          refine Yld.some (.inr ⟨_, rfl, oin, ?_⟩)
          rw [hA, ← os]
          exact ds_ext (by omega) fun j h1 _ => oz j h1
      · rintro out ⟨oin, os⟩
        rw [halves] at os
        have rl := av_range (lo16_in oin)
        have rh := av_range (hi16_in oin)
        refine Yld.ln ?_
        show Yld (if decide (hi16 out ≠ A16.zero) = true then _ else _) _
        refine Yld.ite (fun h => ?_) (fun h => ?_)
        · have h' := of_decide_eq_true h
          have h1 : av (hi16 out) ≠ 0 := fun e => h' ((zero_iff (hi16_in oin)).2 e)
          refine Yld.bindE (Bad_y F) (Yld.some ?_)
          refine (big_out ?_).symm
          rw [absZ_in, absZ_mul, ← os]
          have h2 : MM * 1 ≤ MM * av (hi16 out) := Int.mul_le_mul_of_nonneg_left (by omega) (Int.le_of_lt MM_pos)
          omega
        · have h' : hi16 out = A16.zero := by simpa using h
          have h1 : av (hi16 out) = 0 := by rw [h', av_zero]
          rw [h1, Int.mul_zero, Int.add_zero] at os
          show Yld (Option.bind (whole_signed_S F (decide (a < 0) != decide (b < 0)) (lo16 out)) _) _
          refine Yld.bindE (signed_y F _ (lo16_in oin)) (Yld.some ?_)
          rw [os]
          congr 1
          cases hs : (decide (a < 0) != decide (b < 0)) with
          | true => rw [if_pos rfl, sgn_mul hs]
          | false => rw [if_neg (by simp), sgn_mul' hs]
end Go.Proofs.YtaigaoifloldcaaDoor

/- The plain law of chapter 03, part f: the reference's lists of digits. -/
namespace Go.Sk
set_option linter.unusedSimpArgs false
set_option linter.unusedVariables false
/-- the value of a list of digits -/
def lv (l : List Int) : Int := ds 65536 (dg l) l.length
def Tight (l : List Int) : Prop := 0 < l.length → dg l (l.length - 1) ≠ 0
theorem lv_at {l : List Int} {n : Nat} (h : l.length ≤ n) : ds 65536 (dg l) n = lv l := ds_ext h fun i h1 _ => dg_ge h1
theorem lv_nil : lv [] = 0 := rfl
theorem lv_nonneg {l : List Int} (h : inD 65536 l) : 0 ≤ lv l := ds_nonneg (by decide) fun i _ => (h i).1
theorem lv_lt {l : List Int} (h : inD 65536 l) : lv l < 65536 ^ l.length := ds_lt (by decide) fun i _ => h i
theorem lv_ge {l : List Int} (h : inD 65536 l) (ht : Tight l) (h0 : 0 < l.length) : 65536 ^ (l.length - 1) ≤ lv l := by
  have e : l.length = (l.length - 1) + 1 := by omega
  have h1 := ht h0
  have h2 := h (l.length - 1)
  have h3 := ds_nonneg (b := 65536) (by decide) (f := dg l) (n := l.length - 1) fun i _ => (h i).1
  unfold lv
  rw [e, ds_succ, Nat.add_sub_cancel]
  have h4 : 1 * (65536 : Int) ^ (l.length - 1) ≤ dg l (l.length - 1) * 65536 ^ (l.length - 1) := Int.mul_le_mul_of_nonneg_right (by omega) (Int.le_of_lt (Int.pow_pos (by decide)))
  omega
theorem pow_le65 {i j : Nat} (h : i ≤ j) : (65536 : Int) ^ i ≤ 65536 ^ j := pow_mono (by decide) h
theorem llen_le {l : List Int} {n : Nat} (h : inD 65536 l) (ht : Tight l) (hv : lv l < 65536 ^ n) : l.length ≤ n := by
  rcases Nat.lt_or_ge n l.length with h1 | h1
  · have h2 := lv_ge h ht (by omega)
    have h3 := pow_le65 (show n ≤ l.length - 1 by omega)
    omega
  · exact h1
theorem lv_pos {l : List Int} (h : inD 65536 l) (ht : Tight l) : l = [] ↔ lv l = 0 := by
  constructor
  · rintro rfl; rfl
  · intro e
    have := llen_le (n := 0) h ht (by rw [e]; decide)
    exact List.eq_nil_of_length_eq_zero (by omega)
theorem len_pos {l : List Int} (h : inD 65536 l) (ht : Tight l) : 0 < l.length ↔ lv l ≠ 0 := by
  rw [ne_eq, ← lv_pos h ht]
  constructor
  · intro h1 e; subst e; simp at h1
  · intro h1; exact List.length_pos_iff.2 h1
theorem nil_in : inD 65536 [] := fun i => by rw [dg_nil]; decide
theorem app_in {l m : List Int} (hl : inD 65536 l) (hm : inD 65536 m) : inD 65536 (l ++ m) := fun i => by
  rw [dg_append]; split
  · exact hl i
  · exact hm _
theorem one_inD {b x : Int} (hb : 0 < b) (h : 0 ≤ x ∧ x < b) : inD b [x] := fun i => by
  cases i with
  | zero => exact h
  | succ i => exact ⟨Int.le_refl _, hb⟩
theorem ds_app {b : Int} (l m : List Int) (n : Nat) : ds b (dg (l ++ m)) (l.length + n) = ds b (dg l) l.length + b ^ l.length * ds b (dg m) n := by
  rw [ds_split]
  congr 1
  · exact ds_congr fun i hi => by rw [dg_append, if_pos hi]
  · congr 1
    exact ds_congr fun i _ => by rw [dg_append, if_neg (by omega), Nat.add_sub_cancel_left]
theorem lv_app (l m : List Int) : lv (l ++ m) = lv l + 65536 ^ l.length * lv m := by
  unfold lv
  rw [List.length_append, ds_app]
theorem lv_one (x : Int) : lv [x] = x := by simp [lv, ds, dg]
theorem take_in {b : Int} {l : List Int} {n : Nat} (hb : 0 < b) (h : inD b l) : inD b (l.take n) := fun i => by
  rw [dg_take]; split
  · exact h i
  · exact ⟨Int.le_refl _, hb⟩
theorem av_set {w : A16} {k : Nat} {x : Int} (hk : k < 16) : av (w.set (k : Int) x) = av w + (x - dg w.l k) * 4294967296 ^ k := by
  unfold av
  have e : (16 : Nat) = (k + 1) + (15 - k) := by omega
  rw [e, ds_split, ds_split 4294967296 (dg w.l), A16.ds_set hk, ds_succ]
  have : ds 4294967296 (fun i => dg (w.set (k : Int) x).l (k + 1 + i)) (15 - k) = ds 4294967296 (fun i => dg w.l (k + 1 + i)) (15 - k) := ds_congr fun i _ => by
    rw [set_dg (by omega) (by omega), Int.toNat_natCast, if_neg (by omega)]
  rw [this, Int.sub_mul]
  omega
theorem pow65 (j : Nat) : (65536 : Int) ^ (2 * j) = 4294967296 ^ j := by rw [Int.pow_mul]; rfl
theorem pow65' (j : Nat) : (65536 : Int) ^ (2 * j + 1) = 4294967296 ^ j * 65536 := by rw [Int.pow_succ, pow65]
theorem MM65 : MM = 65536 ^ 32 := by unfold MM; rw [← pow65]
end Go.Sk
namespace Go.Proofs.YtaigaoifloldcaaDoor
open Go Go.Sk
set_option linter.unusedSimpArgs false
set_option linter.unusedVariables false
abbrev Trim (l c : List Int) : Prop := inD 65536 c ∧ Tight c ∧ lv c = lv l ∧ c.length ≤ l.length
theorem trim_y {F : Nat} {l : List Int} (hF : l.length < F) (hl : l.length ≤ 100000) (hin : inD 65536 l) : Yld (skewbackref03_trim_S F l) (Trim l) := by
  unfold skewbackref03_trim_S
  refine Yld.bind (P := fun (n : Int) => 0 ≤ n ∧ n ≤ l.length ∧ (∀ i, n.toNat ≤ i → dg l i = 0) ∧ (0 < n → dg l (n.toNat - 1) ≠ 0)) (Yld.rounds l.length (fun k s => s = (l.length : Int) - (k : Int) ∧ ∀ i, l.length ≤ i + k → dg l i = 0) hF ⟨by omega, fun i h1 => dg_ge (by omega)⟩ ?_) ?_
  · rintro k n hk ⟨rfl, he⟩
    by_cases hk' : k < l.length
    · have hw : IntKind.i64.wrap ((l.length : Int) - (k : Int) - 1) = ((l.length - 1 - k : Nat) : Int) := by rw [wi64]; omega
      have hd : decide (0 < (l.length : Int) - (k : Int)) = true := decide_eq_true (by omega)
      refine Yld.g1 hd (Yld.idx (by rw [hw]; omega) (by rw [hw]; omega) ?_)
      rw [hw, hd]
      simp only [idx_dg, Int.toNat_natCast, Bool.true_and]
      refine Yld.ite (fun h => ?_) (fun h => ?_)
      · have h' := of_decide_eq_true h
        refine Yld.some (.inl ⟨_, rfl, ⟨by omega, fun i h1 => ?_⟩, hk'⟩)
        by_cases e : i = l.length - 1 - k
        · rw [e]; exact h'
        · exact he i (by omega)
      · have h' := of_decide_eq_false h
        refine Yld.some (.inr ⟨_, rfl, by omega, by omega, fun i h1 => he i (by omega), fun _ => ?_⟩)
        have : ((l.length : Int) - (k : Int)).toNat - 1 = l.length - 1 - k := by omega
        rw [this]; exact h'
    · have hk2 : k = l.length := by omega
      subst hk2
      refine Yld.g0 (by simp) ?_
      refine Yld.iff (by simp) (Yld.some (.inr ⟨_, rfl, by omega, by omega, fun i _ => he i (by omega), fun h => by omega⟩))
  · rintro n ⟨n0, n1, nz, nt⟩
    refine Yld.take n0 n1 (Yld.some ?_)
    have hlen : (l.take n.toNat).length = n.toNat := by simp; omega
    refine ⟨take_in (by decide) hin, fun h => ?_, ?_, by omega⟩
    · rw [hlen] at h ⊢
      rw [dg_take, if_pos (by omega)]
      exact nt (by omega)
    · unfold lv
      rw [hlen]
      have e1 : ds 65536 (dg (l.take n.toNat)) n.toNat = ds 65536 (dg l) n.toNat := ds_congr fun i hi => by rw [dg_take, if_pos hi]
      rw [e1]
      exact (ds_ext (by omega) fun i h1 _ => nz i h1).symm
theorem digit_y (F : Nat) {l : List Int} {k : Int} (h0 : 0 ≤ k) : skewbackref03_digit_S F l k = some (dg l k.toNat) := by
  refine Yld.eq ?_
  unfold skewbackref03_digit_S
  refine Yld.ite (fun h => ?_) (fun h => ?_)
  · have := of_decide_eq_true h
    exact Yld.idx h0 this (Yld.some rfl)
  · have := of_decide_eq_false h
    exact Yld.some (dg_ge (by omega)).symm
theorem rplus_y {F : Nat} (hF : 100000 < F) {a b : List Int} (ha : inD 65536 a) (hb : inD 65536 b) (la : a.length ≤ 9999) (lb : b.length ≤ 9999) :
    Yld (skewbackref03_plus_S F a b) fun c => inD 65536 c ∧ Tight c ∧ lv c = lv a + lv b ∧ c.length ≤ max a.length b.length + 1 := by
  unfold skewbackref03_plus_S
  obtain ⟨m, hm⟩ : ∃ m : Nat, m = max a.length b.length := ⟨_, rfl⟩
  have hmi : (max (a.length : Int) (b.length : Int)) = (m : Int) := by omega
  have hw : IntKind.i64.wrap ((m : Int) + 1) = ((m + 1 : Nat) : Int) := by rw [wi64]; omega
  refine Yld.bind (P := fun o => inD 65536 o ∧ o.length = m + 1 ∧ lv o = lv a + lv b) (Yld.rounds (m + 1) (fun k s => s.2.2 = (k : Int) ∧ inD 65536 s.1 ∧ s.1.length = k ∧ 0 ≤ s.2.1 ∧ s.2.1 ≤ 1 ∧ ds 65536 (dg a) k + ds 65536 (dg b) k = lv s.1 + s.2.1 * 65536 ^ k) (by omega) ⟨rfl, nil_in, rfl, Int.le_refl _, (by decide : (0 : Int) ≤ 1), rfl⟩ ?_) ?_
  · rintro k ⟨o, c, kx⟩ hk ⟨rfl, oin, ol, c0, c1, os⟩
    dsimp only at oin ol c0 c1 os
    dsimp only [un3]
    refine Yld.lnE (m : Int) hmi ?_
    rw [hw]
    refine Yld.ite (fun h => ?_) (fun h => ?_)
    · have hk' : k < m + 1 := by have := of_decide_eq_true h; omega
      have h1 := ha k
      have h2 := hb k
      refine Yld.bindE (digit_y F (by omega)) (Yld.bindE (digit_y F (by omega)) ?_)
      simp only [Int.toNat_natCast]
      refine Yld.lnE (dg a k + dg b k + c) (by simp only [wi64]; omega) ?_
      have ht : Int.tmod (dg a k + dg b k + c) 65536 = (dg a k + dg b k + c) % 65536 := tmod_pos (by omega)
      refine Yld.app (by simp; omega) (Yld.quo (by decide) (Yld.some (.inl ⟨_, rfl, ?_, hk'⟩)))
      rw [ht, tdiv_pos (by omega)]
      dsimp only
      refine ⟨by rw [wi64]; omega, app_in oin (one_inD (by decide) (by omega)), by simp [ol], by rw [wi64]; omega, by rw [wi64]; omega, ?_⟩
      rw [ds_succ, ds_succ, lv_app, lv_one, ol]
      have hq : IntKind.i64.wrap ((dg a k + dg b k + c) / 65536) = (dg a k + dg b k + c) / 65536 := by rw [wi64]; omega
      rw [hq, Int.mul_comm ((65536 : Int) ^ k)]
      exact carry_step os (by omega)
    · have hk' : k = m + 1 := by have := of_decide_eq_false h; omega
      subst hk'
      refine Yld.some (.inr ⟨_, rfl, oin, ol, ?_⟩)
      rw [lv_at (by omega), lv_at (by omega)] at os
      have r1 := lv_lt ha
      have r2 := lv_lt hb
      have p1 := pow_le65 (show a.length ≤ m by omega)
      have p2 := pow_le65 (show b.length ≤ m by omega)
      have p3 : (65536 : Int) ^ (m + 1) = 65536 ^ m * 65536 := Int.pow_succ _ _
      have r3 := lv_nonneg oin
      have p0 : (0 : Int) < 65536 ^ m := Int.pow_pos (by decide)
      have : c = 0 := by
        rcases (by omega : c = 0 ∨ c = 1) with h | h
        · exact h
        · subst h; omega
      subst this
      omega
  · rintro o ⟨oin, ol, os⟩
    refine Yld.bind (trim_y (by omega) (by omega) oin) fun c hc => Yld.some ⟨hc.1, hc.2.1, by rw [hc.2.2.1, os], by have := hc.2.2.2; omega⟩
theorem rminus_y {F : Nat} (hF : 100000 < F) {a b : List Int} (ha : inD 65536 a) (hb : inD 65536 b) (la : a.length ≤ 9999) (lb : b.length ≤ 9999) (hle : lv b ≤ lv a) :
    Yld (skewbackref03_minus_S F a b) fun c => inD 65536 c ∧ Tight c ∧ lv c = lv a - lv b ∧ c.length ≤ a.length := by
  unfold skewbackref03_minus_S
  have hbn : ds 65536 (dg b) a.length = lv b := by
    have e := ds_split 65536 (dg b) a.length b.length
    rw [lv_at (by omega)] at e
    have h1 := ds_nonneg (b := 65536) (by decide) (f := fun i => dg b (a.length + i)) (n := b.length) fun i _ => (hb _).1
    have h2 := ds_nonneg (b := 65536) (by decide) (f := dg b) (n := a.length) fun i _ => (hb _).1
    have h3 := lv_lt ha
    rcases (by omega : ds 65536 (fun i => dg b (a.length + i)) b.length = 0 ∨ 1 ≤ ds 65536 (fun i => dg b (a.length + i)) b.length) with h4 | h4
    · rw [h4] at e; omega
    · have h5 : (65536 : Int) ^ a.length * 1 ≤ 65536 ^ a.length * ds 65536 (fun i => dg b (a.length + i)) b.length := Int.mul_le_mul_of_nonneg_left h4 (Int.le_of_lt (Int.pow_pos (by decide)))
      omega
  refine Yld.bind (P := fun o => inD 65536 o ∧ o.length = a.length ∧ lv o = lv a - lv b) (Yld.rounds a.length (fun k s => s.2.2 = (k : Int) ∧ inD 65536 s.1 ∧ s.1.length = k ∧ 0 ≤ s.2.1 ∧ s.2.1 ≤ 1 ∧ ds 65536 (dg a) k + s.2.1 * 65536 ^ k = ds 65536 (dg b) k + lv s.1) (by omega) ⟨rfl, nil_in, rfl, Int.le_refl _, (by decide : (0 : Int) ≤ 1), rfl⟩ ?_) ?_
  · rintro k ⟨o, c, kx⟩ hk ⟨rfl, oin, ol, c0, c1, os⟩
    dsimp only at oin ol c0 c1 os
    dsimp only [un3]
    refine Yld.ite (fun h => ?_) (fun h => ?_)
    · have hk' : k < a.length := by have := of_decide_eq_true h; omega
      have h1 := ha k
      have h2 := hb k
      refine Yld.bind (P := fun r => inD 65536 r.1 ∧ r.1.length = k + 1 ∧ 0 ≤ r.2 ∧ r.2 ≤ 1 ∧ ds 65536 (dg a) (k + 1) + r.2 * 65536 ^ (k + 1) = ds 65536 (dg b) (k + 1) + lv r.1) ?_ ?_
      · refine Yld.idx (by omega) (by omega) (Yld.bindE (digit_y F (by omega)) ?_)
        simp only [idx_dg, Int.toNat_natCast]
        have e0 : IntKind.i64.wrap (IntKind.i64.wrap (dg a k - dg b k) - c) = dg a k - dg b k - c := by simp only [wi64]; omega
        refine Yld.bind (P := fun r => 0 ≤ r.1 ∧ r.1 ≤ 1 ∧ 0 ≤ r.2 ∧ r.2 < 65536 ∧ dg a k - dg b k - c = r.2 - r.1 * 65536) ?_ ?_
        · refine Yld.lnE _ e0 (Yld.ite (fun h3 => ?_) (fun h3 => ?_))
          · have h3' := of_decide_eq_true h3
            refine Yld.lnE _ e0 (Yld.some ?_)
            refine ⟨(by decide : (0 : Int) ≤ 1), (by decide : (1 : Int) ≤ 1), ?_, ?_, ?_⟩ <;> dsimp only <;> rw [wi64] <;> omega
          · have h3' := of_decide_eq_false h3
            refine Yld.some ?_
            refine ⟨(by decide : (0 : Int) ≤ 0), (by decide : (0 : Int) ≤ 1), ?_, ?_, ?_⟩ <;> dsimp only <;> rw [e0] <;> omega
        · rintro ⟨bo, x⟩ ⟨b0, b1, x0, x1, e⟩
          dsimp only at b0 b1 x0 x1 e
          dsimp only [un2]
          refine Yld.app (by simp; omega) (Yld.some ⟨app_in oin (one_inD (by decide) ⟨x0, x1⟩), by simp [ol], b0, b1, ?_⟩)
          dsimp only
          rw [ds_succ, ds_succ, lv_app, lv_one, ol, Int.mul_comm ((65536 : Int) ^ k)]
          exact borrow_step os e
      · rintro ⟨o1, bo⟩ ⟨q1, q2, q3, q4, q5⟩
        exact Yld.some (.inl ⟨_, rfl, ⟨by dsimp only; rw [wi64]; omega, q1, q2, q3, q4, q5⟩, hk'⟩)
    · have hk' : k = a.length := by have := of_decide_eq_false h; omega
      subst hk'
      refine Yld.some (.inr ⟨_, rfl, oin, ol, ?_⟩)
      rw [hbn] at os
      have r3 := lv_lt oin
      rw [ol] at r3
      have hl : ds 65536 (dg a) a.length = lv a := rfl
      rw [hl] at os
      have : c = 0 := by
        rcases (by omega : c = 0 ∨ c = 1) with h | h
        · exact h
        · subst h; omega
      subst this
      omega
  · rintro o ⟨oin, ol, os⟩
    refine Yld.bind (trim_y (by omega) (by omega) oin) fun c hc => Yld.some ⟨hc.1, hc.2.1, by rw [hc.2.2.1, os], by have := hc.2.2.2; omega⟩
theorem less_y {F : Nat} (hF : 100000 < F) {a b : List Int} (ha : inD 65536 a) (hb : inD 65536 b) (la : a.length ≤ 9999) (lb : b.length ≤ 9999) : skewbackref03_less_S F a b = some (decide (lv a < lv b)) := by
  refine Yld.eq ?_
  unfold skewbackref03_less_S
  obtain ⟨m, hm⟩ : ∃ m : Nat, m = max a.length b.length := ⟨_, rfl⟩
  have hmi : (max (a.length : Int) (b.length : Int)) = (m : Int) := by omega
  have hw : IntKind.i64.wrap ((m : Int) - 1) = (m : Int) - 1 := by rw [wi64]; omega
  have va : ds 65536 (dg a) m = lv a := lv_at (by omega)
  have vb : ds 65536 (dg b) m = lv b := lv_at (by omega)
  refine Yld.bind (P := fun r => match r with | .inl _ => lv a = lv b | .inr y => y = decide (lv a < lv b)) ?_ ?_
  · refine Yld.lnE _ hmi ?_
    rw [hw]
    refine Yld.rounds m (fun k s => s = (m : Int) - 1 - (k : Int) ∧ ∀ i, m ≤ i + k → i < m → dg a i = dg b i) (by omega) ⟨by omega, fun i h1 h2 => by omega⟩ ?_
    rintro k i hk ⟨rfl, he⟩
    refine Yld.ite (fun h => ?_) (fun h => ?_)
    · have hk' : k < m := by have := of_decide_eq_true h; omega
      have et : ((m : Int) - 1 - (k : Int)).toNat = m - 1 - k := by omega
      refine Yld.bindE (digit_y F (by omega)) (Yld.bindE (digit_y F (by omega)) (Yld.ite (fun hne => ?_) (fun heq => ?_)))
      · refine Yld.bindE (digit_y F (by omega)) (Yld.bindE (digit_y F (by omega)) (Yld.some (.inr ⟨_, rfl, ?_⟩)))
        have hne' := of_decide_eq_true hne
        rw [et] at hne' ⊢
        show decide _ = decide _
        rw [decide_eq_decide, ← va, ← vb]
        constructor
        · intro h1
          exact ds_lt_of (by decide) (k := m - 1 - k) (by omega) ha hb (fun i h2 h3 => he i (by omega) h3) h1
        · intro h1
          rcases (by omega : dg a (m - 1 - k) < dg b (m - 1 - k) ∨ dg b (m - 1 - k) < dg a (m - 1 - k)) with h2 | h2
          · exact h2
          · have := ds_lt_of (b := 65536) (by decide) (k := m - 1 - k) (n := m) (by omega) hb ha (fun i h2 h3 => (he i (by omega) h3).symm) h2
            omega
      · have heq' : dg a (m - 1 - k) = dg b (m - 1 - k) := by rw [et] at heq; simpa using heq
        refine Yld.some (.inl ⟨_, rfl, ⟨by rw [wi64]; omega, fun i h1 h2 => ?_⟩, hk'⟩)
        by_cases e : i = m - 1 - k
        · rw [e]; exact heq'
        · exact he i (by omega) h2
    · have hk' : k = m := by have := of_decide_eq_false h; omega
      subst hk'
      refine Yld.some (.inr ⟨_, rfl, ?_⟩)
      show lv a = lv b
      rw [← va, ← vb]
      exact ds_congr fun i hi => he i (by omega) hi
  · rintro (u | y) h
    · have h' : lv a = lv b := h
      exact Yld.some (by rw [h']; simp)
    · exact Yld.some h
end Go.Proofs.YtaigaoifloldcaaDoor

/- The plain law of chapter 03, part g: the reference's numbers; sums. -/
namespace Go.Sk
set_option linter.unusedSimpArgs false
set_option linter.unusedVariables false
theorem toA_in' (z : Int) : inD 4294967296 (toA z).l := toA_in z
theorem four_in {a b c d : Int} (ha : 0 ≤ a ∧ a < 65536) (hb : 0 ≤ b ∧ b < 65536) (hc : 0 ≤ c ∧ c < 65536) (hd : 0 ≤ d ∧ d < 65536) : inD 65536 [a, b, c, d] := fun i => by
  match i with
  | 0 => exact ha
  | 1 => exact hb
  | 2 => exact hc
  | 3 => exact hd
  | n + 4 => exact ⟨Int.le_refl _, (by decide : (0 : Int) < 65536)⟩
theorem lv_four (a b c d : Int) : lv [a, b, c, d] = a + b * 65536 + c * 4294967296 + d * 281474976710656 := by simp [lv, ds, dg]
theorem two_inD {x y : Int} (hx : 0 ≤ x ∧ x < 65536) (hy : 0 ≤ y ∧ y < 65536) : inD 65536 [x, y] := fun i => by
  match i with
  | 0 => exact hx
  | 1 => exact hy
  | n + 2 => exact ⟨Int.le_refl _, (by decide : (0 : Int) < 65536)⟩
theorem lv_two (x y : Int) : lv [x, y] = x + y * 65536 := by simp [lv, ds, dg]
end Go.Sk
namespace Go.Proofs.YtaigaoifloldcaaDoor
open Go Go.Sk
set_option linter.unusedSimpArgs false
set_option linter.unusedVariables false
theorem rBad_y (F : Nat) : skewbackref03_Bad_S F = some bad := rfl
theorem digits_y {F : Nat} (hF : 100000 < F) {x : Big} (hx : inB x) : Yld (skewbackref03_digits_S F x) fun c => inD 65536 c ∧ Tight c ∧ lv c = av x.W ∧ c.length ≤ 32 := by
  unfold skewbackref03_digits_S
  refine Yld.bind (P := fun o => inD 65536 o ∧ o.length = 32 ∧ lv o = av x.W) (Yld.rounds 16 (fun k s => s.2 = (k : Int) ∧ inD 65536 s.1 ∧ s.1.length = 2 * k ∧ lv s.1 = ds 4294967296 (dg x.W.l) k) (by omega) ⟨rfl, nil_in, rfl, rfl⟩ ?_) ?_
  · rintro k ⟨o, kx⟩ hk ⟨rfl, oin, ol, os⟩
    dsimp only at oin ol os
    dsimp only [un2]
    refine Yld.ite (fun h => ?_) (fun h => ?_)
    · have hk' : k < 16 := by have := of_decide_eq_true h; omega
      have hd := hx k
      refine Yld.idx (by omega) (by rw [A16.l_len]; omega) (Yld.idx (by omega) (by rw [A16.l_len]; omega) (Yld.quo (by decide) ?_))
      simp only [idx_dg, Int.toNat_natCast]
      have e1 : IntKind.i64.wrap (Int.tmod (dg x.W.l k) 65536) = dg x.W.l k % 65536 := by rw [tmod_pos hd.1, wi64]; omega
      have e2 : IntKind.i64.wrap (IntKind.u32.wrap (Int.tdiv (dg x.W.l k) 65536)) = dg x.W.l k / 65536 := by rw [tdiv_pos hd.1, wu32, wi64]; omega
      rw [e1, e2]
      refine Yld.app (by simp; omega) (Yld.some (.inl ⟨_, rfl, ⟨by dsimp only; rw [wi64]; omega, app_in oin (two_inD (by omega) (by omega)), by simp [ol]; omega, ?_⟩, hk'⟩))
      dsimp only
      rw [lv_app, lv_two, os, ds_succ, ol, pow65, Int.mul_comm ((4294967296 : Int) ^ k)]
      congr 2
      omega
    · have hk' : k = 16 := by have := of_decide_eq_false h; omega
      subst hk'
      exact Yld.some (.inr ⟨_, rfl, oin, ol, os⟩)
  · rintro o ⟨oin, ol, os⟩
    refine Yld.bind (trim_y (by omega) (by omega) oin) fun c hc => Yld.some ⟨hc.1, hc.2.1, by rw [hc.2.2.1, os], by have := hc.2.2.2; omega⟩
theorem number_y {F : Nat} (hF : 100000 < F) (neg : Bool) {l : List Int} (hl : l.length ≤ 9999) (hin : inD 65536 l) : skewbackref03_number_S F neg l = some (if lv l < MM then big (if neg = true then -lv l else lv l) else bad) := by
  refine Yld.eq ?_
  unfold skewbackref03_number_S
  refine Yld.bind (trim_y (by omega) (by omega) hin) ?_
  rintro c ⟨cin, ct, cv, cl⟩
  rw [← cv]
  have c0 := lv_nonneg cin
  clear hin cv cl hl
  refine Yld.ite (fun h => ?_) (fun h => ?_)
  · have h' := of_decide_eq_true h
    refine Yld.bindE (rBad_y F) (Yld.some ?_)
    rw [if_neg]
    intro h1
    rw [MM65] at h1
    have := llen_le cin ct h1
    omega
  · have h' := of_decide_eq_false h
    have hlt : lv c < MM := by
      have h1 := lv_lt cin
      have h2 := pow_le65 (show c.length ≤ 32 by omega)
      rw [MM65]; omega
    rw [if_pos hlt]
    refine Yld.ln ?_
    refine Yld.bind (P := fun o => o.Bad = false ∧ o.Neg = (neg && decide (0 < (c.length : Int))) ∧ inD 4294967296 o.W.l ∧ av o.W = lv c) (Yld.rounds c.length (fun (k : Nat) (s : Big × Int) => s.2 = (k : Int) ∧ s.1.Bad = false ∧ s.1.Neg = (neg && decide (0 < (c.length : Int))) ∧ inD 4294967296 s.1.W.l ∧ (∀ j, k ≤ 2 * j → dg s.1.W.l j = 0) ∧ (∀ j, k ≤ 2 * j + 1 → dg s.1.W.l j < 65536) ∧ av s.1.W = ds 65536 (dg c) k) (by omega) ?_ ?_) ?_
    · refine ⟨rfl, rfl, rfl, zero_in, fun j _ => ?_, fun j _ => ?_, av_zero⟩
      · have : A16.zero.l = List.replicate 16 0 := rfl
        show dg A16.zero.l j = 0
        rw [this, dg_replicate]
      · have : A16.zero.l = List.replicate 16 0 := rfl
        show dg A16.zero.l j < 65536
        rw [this, dg_replicate]; decide
    · rintro k ⟨⟨Bd, Ng, w⟩, kx⟩ hk ⟨rfl, b0, n0, win, wz, wl, ws⟩
      dsimp only at b0 n0 win wz wl ws
      dsimp only [un2]
      refine Yld.ite (fun h2 => ?_) (fun h2 => ?_)
      · have hk' : k < c.length := by have := of_decide_eq_true h2; omega
        have hk3 : k < 32 := by omega
        have hd := cin k
        have hdiv : IntKind.i64.wrap (Int.tdiv (k : Int) 2) = ((k / 2 : Nat) : Int) := by rw [tdiv_pos (by omega), wi64]; omega
        have hj16 : k / 2 < 16 := by omega
        refine Yld.bind (P := fun o => o.Bad = false ∧ o.Neg = (neg && decide (0 < (c.length : Int))) ∧ inD 4294967296 o.W.l ∧ (∀ j, k + 1 ≤ 2 * j → dg o.W.l j = 0) ∧ (∀ j, k + 1 ≤ 2 * j + 1 → dg o.W.l j < 65536) ∧ av o.W = ds 65536 (dg c) (k + 1)) ?_ ?_
        · refine Yld.ite (fun h3 => ?_) (fun h3 => ?_)
          · have h3' := of_decide_eq_true h3
            rw [tmod_pos (by omega)] at h3'
            obtain ⟨j, rfl⟩ : ∃ j, k = 2 * j := ⟨k / 2, by omega⟩
            have hjj : 2 * j / 2 = j := by omega
            refine Yld.quo (by decide) (Yld.quo (by decide) ?_)
            rw [hdiv, hjj]
            refine Yld.idx (by omega) (by rw [A16.l_len]; omega) (Yld.idx (by omega) (by omega) (Yld.idx (by omega) (by rw [A16.l_len]; omega) (Yld.some ?_)))
            simp only [idx_dg, Int.toNat_natCast]
            have hz := wz j (by omega)
            have e1 : IntKind.u32.wrap (dg w.l j + IntKind.u32.wrap (dg c (2 * j))) = dg c (2 * j) := by rw [hz]; simp only [wu32]; omega
            rw [e1]
            refine ⟨b0, n0, set_in win (by omega) (by omega) (by omega), fun i hi => ?_, fun i hi => ?_, ?_⟩
            · rw [set_dg (by omega) (by omega), Int.toNat_natCast, if_neg (by omega)]; exact wz i (by omega)
            · rw [set_dg (by omega) (by omega), Int.toNat_natCast]
              split
              · exact hd.2
              · exact wl i (by omega)
            · rw [av_set (by omega), hz, ws, ds_succ, pow65, Int.sub_zero]
          · have h3' := of_decide_eq_false h3
            rw [tmod_pos (by omega)] at h3'
            obtain ⟨j, rfl⟩ : ∃ j, k = 2 * j + 1 := ⟨k / 2, by omega⟩
            have hjj : (2 * j + 1) / 2 = j := by omega
            refine Yld.quo (by decide) (Yld.quo (by decide) ?_)
            rw [hdiv, hjj]
            refine Yld.idx (by omega) (by rw [A16.l_len]; omega) (Yld.idx (by omega) (by omega) (Yld.idx (by omega) (by rw [A16.l_len]; omega) (Yld.some ?_)))
            simp only [idx_dg, Int.toNat_natCast]
            have hz := wl j (by omega)
            have hz0 := (win j).1
            have e1 : IntKind.u32.wrap (dg w.l j + IntKind.u32.wrap (IntKind.u32.wrap (dg c (2 * j + 1)) * 65536)) = dg w.l j + dg c (2 * j + 1) * 65536 := by simp only [wu32]; omega
            rw [e1]
            refine ⟨b0, n0, set_in win (by omega) (by omega) (by omega), fun i hi => ?_, fun i hi => ?_, ?_⟩
            · rw [set_dg (by omega) (by omega), Int.toNat_natCast, if_neg (by omega)]; exact wz i (by omega)
            · rw [set_dg (by omega) (by omega), Int.toNat_natCast, if_neg (by omega)]; exact wl i (by omega)
            · rw [av_set (by omega), ws, ds_succ 65536 (dg c) (2 * j + 1), pow65']
              have : dg w.l j + dg c (2 * j + 1) * 65536 - dg w.l j = dg c (2 * j + 1) * 65536 := by omega
              rw [this, Int.mul_comm ((4294967296 : Int) ^ j), ← Int.mul_assoc]
        · rintro o ⟨q1, q2, q3, q4, q5, q6⟩
          exact Yld.some (.inl ⟨_, rfl, ⟨by dsimp only; rw [wi64]; omega, q1, q2, q3, q4, q5, q6⟩, hk'⟩)
      · have hk' : k = c.length := by have := of_decide_eq_false h2; omega
        subst hk'
        exact Yld.some (.inr ⟨_, rfl, b0, n0, win, ws⟩)
    · rintro ⟨Bd, Ng, w⟩ ⟨b0, n0, win, ws⟩
      dsimp only at b0 n0 win ws
      refine Yld.some ?_
      subst b0 n0
      have hw : w = toA (lv c) := eq_toA win ws
      subst hw
      have hlen := len_pos cin ct
      unfold big
      cases neg with
      | false =>
        have h1 : ¬ lv c < 0 := by omega
        simp only [Bool.false_and, Bool.false_eq_true, if_false, h1, decide_false]
        rw [if_pos (by omega)]
      | true =>
        simp only [if_true, Bool.true_and]
        rw [if_pos (by omega)]
        by_cases e : lv c = 0
        · have : ¬ 0 < c.length := fun h => hlen.1 h e
          have h2 : ¬ ((0 : Int) < c.length) := by omega
          rw [e, decide_eq_false h2]
          simp
        · have : 0 < c.length := hlen.2 e
          have h2 : ((0 : Int) < c.length) := by omega
          have h1 : -lv c < 0 := by omega
          simp only [h1, h2, decide_true, if_true, Int.neg_neg]
theorem num_big {neg : Bool} {m : Int} (h0 : 0 ≤ m) : (if m < MM then big (if neg = true then -m else m) else bad) = big (if neg = true then -m else m) := by
  split
  · rfl
  · next h => exact (big_out (by split <;> omega)).symm
theorem word_y {F : Nat} (hF : 100000 < F) {x : Big} (hx : inB x) : skewbackref03_word_S F x = some (match iv x with | some a => if absZ a < 4611686018427387904 then (a, true) else (0, false) | none => (0, false)) := by
  refine Yld.eq ?_
  unfold skewbackref03_word_S
  refine Yld.bindE (rGood_y hF hx) ?_
  cases ha : iv x with
  | none => simp only [iv_none ha, Bool.not_false, Bool.true_or, if_true]; exact Yld.some rfl
  | some a =>
    obtain ⟨ga, rfl, ra⟩ := iv_some hx ha
    obtain ⟨wa, na⟩ := sv_big_W ra
    have ia : inD 4294967296 (big a).W.l := big_in a
    have habs : av (big a).W = absZ a := wa
    simp only [ga, Bool.not_true, Bool.false_or, na]
    generalize (big a).W = A at *
    have a0 := ia 0
    have a1 := ia 1
    have e0 : dg A.l 0 = A.a0 := rfl
    have e1 : dg A.l 1 = A.a1 := rfl
    rw [e0] at a0
    rw [e1] at a1
    have hsum : absZ a = A.a0 + A.a1 * 4294967296 + 18446744073709551616 * ds 4294967296 (fun i => dg A.l (2 + i)) 14 := by
      rw [← habs]
      show ds 4294967296 (dg A.l) (2 + 14) = _
      rw [ds_split]
      have h2 : ds 4294967296 (dg A.l) 2 = A.a0 + A.a1 * 4294967296 := by simp [ds, dg, A16.l]
      rw [h2]
      rfl
    have hrest := ds_nonneg (b := 4294967296) (by decide) (f := fun i => dg A.l (2 + i)) (n := 14) fun i _ => (ia (2 + i)).1
    refine Yld.ite (fun h => ?_) (fun h => ?_)
    · have h' := of_decide_eq_true h
      refine Yld.some ?_
      rw [if_neg (by omega)]
    · have h' := of_decide_eq_false h
      refine Yld.bind (P := fun r => match r with | .inl _ => ∀ i, i < 14 → dg A.l (2 + i) = 0 | .inr y => y = (0, false) ∧ ∃ i, i < 14 ∧ dg A.l (2 + i) ≠ 0) (Yld.rounds 14 (fun (k : Nat) (s : Int) => s = ((2 + k : Nat) : Int) ∧ ∀ i, i < k → dg A.l (2 + i) = 0) (by omega) ⟨rfl, fun i h => absurd h (Nat.not_lt_zero i)⟩ ?_) ?_
      · rintro k i hk ⟨rfl, hz⟩
        refine Yld.ite (fun h => ?_) (fun h => ?_)
        · have hk' : k < 14 := by have := of_decide_eq_true h; omega
          refine Yld.idx (by omega) (by rw [A16.l_len]; omega) ?_
          simp only [idx_dg, Int.toNat_natCast]
          refine Yld.ite (fun h => ?_) (fun h => ?_)
          · exact Yld.some (.inr ⟨_, rfl, rfl, k, hk', of_decide_eq_true h⟩)
          · have h2 : dg A.l (2 + k) = 0 := by have := of_decide_eq_false h; omega
            refine Yld.some (.inl ⟨_, rfl, ⟨by rw [wi64]; omega, fun i hi => ?_⟩, hk'⟩)
            by_cases e : i = k
            · rw [e]; exact h2
            · exact hz i (by omega)
        · have hk' : k = 14 := by have := of_decide_eq_false h; omega
          subst hk'
          exact Yld.some (.inr ⟨_, rfl, hz⟩)
      · rintro (u | y) h
        · have hz : ds 4294967296 (fun i => dg A.l (2 + i)) 14 = 0 := ds_zero h
          rw [hz, Int.mul_zero, Int.add_zero] at hsum
          have hlt : absZ a < 4611686018427387904 := by omega
          rw [if_pos hlt]
          refine Yld.lnE (A.a1 * 4294967296) (by simp only [wi64]; omega) (Yld.lnE (absZ a) (by simp only [wi64]; omega) ?_)
          unfold absZ at *
          refine Yld.ite (fun h => ?_) (fun h => ?_)
          · have h1 := of_decide_eq_true h
            rw [if_pos h1] at *
            exact Yld.some (by rw [wi64' (by omega) (by omega), Int.neg_neg])
          · have h1 := of_decide_eq_false h
            rw [if_neg h1] at *
            exact Yld.some rfl
        · obtain ⟨rfl, i, hi, hne⟩ := h
          refine Yld.some ?_
          have : 1 ≤ ds 4294967296 (fun i => dg A.l (2 + i)) 14 := by
            rcases (by omega : ds 4294967296 (fun i => dg A.l (2 + i)) 14 = 0 ∨ 1 ≤ ds 4294967296 (fun i => dg A.l (2 + i)) 14) with h | h
            · have h0 : ds 4294967296 (fun i => dg A.l (2 + i)) 14 = ds 4294967296 (fun _ => 0) 14 := by rw [h, ds_zero]; intro _ _; rfl
              exact absurd (ds_inj (by decide) (fun j _ => ia (2 + j)) (fun j _ => by decide) h0 i hi) hne
            · exact h
          rw [if_neg (by omega)]
theorem rOf_y {F : Nat} (hF : 100000 < F) {n : Int} (h0 : -9223372036854775808 ≤ n) (h1 : n ≤ 9223372036854775807) : skewbackref03_Of_S F n = some (big n) := by
  refine Yld.eq ?_
  unfold skewbackref03_Of_S
  refine Yld.ite (fun h => ?_) (fun h => ?_)
  · have h' := of_decide_eq_true h
    refine Yld.quo (by decide) (Yld.quo (by decide) (Yld.quo (by decide) ?_))
    have q1 : IntKind.i64.wrap (Int.tdiv n 65536) = n / 65536 := by rw [tdiv_pos h', wi64]; omega
    have q2 : IntKind.i64.wrap (Int.tdiv n 4294967296) = n / 4294967296 := by rw [tdiv_pos h', wi64]; omega
    have q3 : IntKind.i64.wrap (Int.tdiv n 281474976710656) = n / 281474976710656 := by rw [tdiv_pos h', wi64]; omega
    rw [q1, q2, q3, tmod_pos h', tmod_pos (by omega), tmod_pos (by omega)]
    have hv : lv [n % 65536, n / 65536 % 65536, n / 4294967296 % 65536, n / 281474976710656] = n := by rw [lv_four]; omega
    refine Yld.bindE (number_y hF false (by simp) (four_in (by omega) (by omega) (by omega) (by omega))) (Yld.some ?_)
    rw [hv, num_big h']
    simp
  · have h' := of_decide_eq_false h
    refine Yld.lnE (-(n + 1)) (by simp only [wi64]; omega) ?_
    have hm : 0 ≤ -(n + 1) := by omega
    generalize hmm : -(n + 1) = m at *
    refine Yld.quo (by decide) (Yld.quo (by decide) (Yld.quo (by decide) ?_))
    have q1 : IntKind.i64.wrap (Int.tdiv m 65536) = m / 65536 := by rw [tdiv_pos hm, wi64]; omega
    have q2 : IntKind.i64.wrap (Int.tdiv m 4294967296) = m / 4294967296 := by rw [tdiv_pos hm, wi64]; omega
    have q3 : IntKind.i64.wrap (Int.tdiv m 281474976710656) = m / 281474976710656 := by rw [tdiv_pos hm, wi64]; omega
    rw [q1, q2, q3, tmod_pos hm, tmod_pos (by omega), tmod_pos (by omega)]
    have hv : lv [m % 65536, m / 65536 % 65536, m / 4294967296 % 65536, m / 281474976710656] = m := by rw [lv_four]; omega
    refine Yld.bind (rplus_y hF (four_in (by omega) (by omega) (by omega) (by omega)) (one_inD (by decide) (x := 1) (by decide)) (by simp) (by simp)) fun c hc => ?_
    obtain ⟨c1, _, c2, c3⟩ := hc
    rw [hv, lv_one] at c2
    refine Yld.bindE (number_y hF true (by simp at c3; omega) c1) (Yld.some ?_)
    rw [c2, num_big (by omega)]
    simp only [if_true]
    congr 1
    omega
end Go.Proofs.YtaigaoifloldcaaDoor

/- The plain law of chapter 03, part t: the reference's words and digits. -/
namespace Go.Sk
set_option linter.unusedSimpArgs false
set_option linter.unusedVariables false
def wd : Option Int → Int × Bool
  | some a => if absZ a < 4611686018427387904 then (a, true) else (0, false)
  | none => (0, false)
theorem wd_true {o : Option Int} {p : Int} (h : wd o = (p, true)) : o = some p ∧ absZ p < 4611686018427387904 := by
  unfold wd at h
  split at h
  · split at h
    · next h1 => simp only [Prod.mk.injEq, and_true] at h; subst h; exact ⟨rfl, h1⟩
    · simp at h
  · simp at h
theorem absZ_abs {a : Int} : absZ a = if a < 0 then -a else a := rfl
theorem lv_dig {l : List Int} (h : inD 65536 l) (i : Nat) : dg l i = lv l / 65536 ^ i % 65536 := by
  have h1 := lv_at (l := l) (n := l.length + (i + 1)) (by omega)
  have h2 := ds_dig (b := 65536) (by decide) (f := dg l) (n := l.length + (i + 1)) (i := i) (by omega) h
  rw [h1] at h2
  exact h2.symm
end Go.Sk
namespace Go.Proofs.YtaigaoifloldcaaDoor
open Go Go.Sk
set_option linter.unusedSimpArgs false
set_option linter.unusedVariables false
theorem word_y' {F : Nat} (hF : 100000 < F) {x : Big} (hx : inB x) : skewbackref03_word_S F x = some (wd (iv x)) := by
  rw [word_y hF hx]
  cases iv x <;> rfl
/-- the digits of a number that is one -/
theorem dig_y {F : Nat} (hF : 100000 < F) {a : Int} (ra : -MM < a ∧ a < MM) : Yld (skewbackref03_digits_S F (big a)) fun c => inD 65536 c ∧ Tight c ∧ lv c = absZ a ∧ c.length ≤ 32 := by
  have h := digits_y hF (big_in a)
  rw [(sv_big_W ra).1] at h
  exact h
theorem num_y {F : Nat} (hF : 100000 < F) (neg : Bool) {l : List Int} (hl : l.length ≤ 9999) (hin : inD 65536 l) : skewbackref03_number_S F neg l = some (big (if neg = true then -lv l else lv l)) := by
  rw [number_y hF neg hl hin, num_big (lv_nonneg hin)]
end Go.Proofs.YtaigaoifloldcaaDoor

/- The plain law of chapter 03, part j: the reference's products of lists. -/
namespace Go.Sk
set_option linter.unusedSimpArgs false
set_option linter.unusedVariables false
theorem ds_setl {b : Int} {l : List Int} {k n : Nat} {x : Int} (hk : k < n) (hl : k < l.length) : ds b (dg (l.set k x)) n = ds b (dg l) n + (x - dg l k) * b ^ k := by
  obtain ⟨m, rfl⟩ : ∃ m, n = k + 1 + m := ⟨n - k - 1, by omega⟩
  have e1 : ds b (dg (l.set k x)) (k + 1) = ds b (dg l) k + x * b ^ k := ds_upd fun i => dg_set hl
  have e2 : ds b (fun i => dg (l.set k x) (k + 1 + i)) m = ds b (fun i => dg l (k + 1 + i)) m := ds_congr fun i _ => by rw [dg_set hl, if_neg (by omega)]
  rw [ds_split b _ (k + 1), ds_split b _ (k + 1), e1, e2, ds_succ]
  grind
theorem set_inl {b : Int} {l : List Int} {k : Nat} {x : Int} (hl : k < l.length) (h : inD b l) (hx : 0 ≤ x ∧ x < b) : inD b (l.set k x) := fun i => by
  rw [dg_set hl]; split
  · exact hx
  · exact h i
theorem rep_in (n : Nat) : inD 65536 (List.replicate n 0) := fun i => by rw [dg_replicate]; decide
theorem lv_rep (n : Nat) : lv (List.replicate n 0) = 0 := ds_zero fun i _ => dg_replicate
theorem mul_fit {x y : Int} (hx : 0 ≤ x ∧ x < 65536) (hy : 0 ≤ y ∧ y < 65536) : 0 ≤ x * y ∧ x * y ≤ 4294836225 := by
  have := mul_bound hx hy
  exact this
end Go.Sk
namespace Go.Proofs.YtaigaoifloldcaaDoor
open Go Go.Sk
set_option linter.unusedSimpArgs false
set_option linter.unusedVariables false
theorem times_y {F : Nat} (hF : 100000 < F) {a b : List Int} (ha : inD 65536 a) (hb : inD 65536 b) (la : a.length ≤ 9999) (lb : b.length ≤ 9999) :
    Yld (skewbackref03_times_S F a b) fun c => inD 65536 c ∧ Tight c ∧ lv c = lv a * lv b ∧ c.length ≤ a.length + b.length + 1 := by
  unfold skewbackref03_times_S
  obtain ⟨n, hn⟩ : ∃ n : Nat, n = a.length + b.length + 1 := ⟨_, rfl⟩
  refine Yld.lnE ((a.length + b.length : Nat) : Int) (by rw [wi64]; omega) ?_
  have hw : IntKind.i64.wrap (((a.length + b.length : Nat) : Int) + 1) = (n : Int) := by rw [wi64]; omega
  rw [hw]
  have hmk : mk? (0 : Int) (n : Int) (n : Int) = some (List.replicate n 0) := by
    unfold mk?
    rw [if_pos (by omega), Int.toNat_natCast]
  refine Yld.bindE hmk ?_
  refine Yld.bind (P := fun o => inD 65536 o ∧ o.length = n ∧ lv o = lv a * lv b) (Yld.rounds a.length (fun k s => s.2 = (k : Int) ∧ inD 65536 s.1 ∧ s.1.length = n ∧ lv s.1 = ds 65536 (dg a) k * lv b) (by omega) ⟨rfl, rep_in n, by simp, by rw [lv_rep]; simp [ds]⟩ ?_) ?_
  · rintro i ⟨o, ix⟩ hi ⟨rfl, oin, ol, os⟩
    dsimp only at oin ol os
    dsimp only [un2]
    refine Yld.ite (fun h => ?_) (fun h => ?_)
    · have hi' : i < a.length := by have := of_decide_eq_true h; omega
      have hai := ha i
      refine Yld.bind (P := fun o => inD 65536 o ∧ o.length = n ∧ lv o = ds 65536 (dg a) (i + 1) * lv b) ?_ ?_
      · refine Yld.bind (P := fun p => (∀ j, 0 ≤ dg p j ∧ dg p j < 4294967296) ∧ p.length = n ∧ ds 65536 (dg p) n = ds 65536 (dg a) (i + 1) * lv b) (Yld.rounds b.length (fun k s => s.2 = (k : Int) ∧ (∀ j, 0 ≤ dg s.1 j ∧ dg s.1 j < 4294967296) ∧ (∀ j, i + k ≤ j → dg s.1 j < 65536) ∧ s.1.length = n ∧ ds 65536 (dg s.1) n = ds 65536 (dg a) i * lv b + dg a i * 65536 ^ i * ds 65536 (dg b) k) (by omega) ⟨rfl, fun j => ⟨(oin j).1, by have := (oin j).2; dsimp only; omega⟩, fun j _ => (oin j).2, ol, ?_⟩ ?_) ?_
        · dsimp only
          rw [← ol]
          show lv o = _
          rw [os]; simp [ds]
        · rintro k ⟨p, kx⟩ hk ⟨rfl, pin, phi, pl, ps⟩
          dsimp only at pin phi pl ps
          dsimp only [un2]
          refine Yld.ite (fun h => ?_) (fun h => ?_)
          · have hk' : k < b.length := by have := of_decide_eq_true h; omega
            have hbk := hb k
            have hwi : IntKind.i64.wrap ((i : Int) + (k : Int)) = ((i + k : Nat) : Int) := by rw [wi64]; omega
            rw [hwi]
            refine Yld.idx (by omega) (by omega) (Yld.idx (by omega) (by omega) (Yld.idx (by omega) (by omega) (Yld.idx (by omega) (by omega) ?_)))
            simp only [idx_dg, Int.toNat_natCast]
            have hm := mul_fit hai hbk
            have hp := pin (i + k)
            have hp2 := phi (i + k) (by omega)
            have e1 : IntKind.i64.wrap (dg p (i + k) + IntKind.i64.wrap (dg a i * dg b k)) = dg p (i + k) + dg a i * dg b k := by
              rw [wi64' (z := dg a i * dg b k) (by omega) (by omega), wi64' (by omega) (by omega)]
            rw [e1]
            refine Yld.some (.inl ⟨_, rfl, ⟨by dsimp only; rw [wi64]; omega, fun j => ?_, fun j hj => ?_, by simp [pl], ?_⟩, hk'⟩)
            · dsimp only
              rw [dg_set (by omega)]
              split
              · omega
              · exact pin j
            · dsimp only
              rw [dg_set (by omega), if_neg (by omega)]
              exact phi j (by omega)
            · dsimp only
              rw [ds_setl (by omega) (by omega), ps, ds_succ]
              have : (65536 : Int) ^ (i + k) = 65536 ^ i * 65536 ^ k := Int.pow_add _ _ _
              grind
          · have hk' : k = b.length := by have := of_decide_eq_false h; omega
            subst hk'
            refine Yld.some (.inr ⟨_, rfl, pin, pl, ?_⟩)
            rw [ps, ds_succ]
            have : ds 65536 (dg b) b.length = lv b := rfl
            rw [this]
            grind
        · rintro p ⟨pin, pl, ps⟩
          have htot : ds 65536 (dg a) (i + 1) * lv b < 65536 ^ n := by
            have h1 := ds_lt (b := 65536) (by decide) (f := dg a) (n := i + 1) fun j _ => ha j
            have h2 := lv_lt hb
            have h3 := lv_nonneg hb
            have h4 := ds_nonneg (b := 65536) (by decide) (f := dg a) (n := i + 1) fun j _ => (ha j).1
            have h5 : ds 65536 (dg a) (i + 1) * lv b ≤ 65536 ^ (i + 1) * 65536 ^ b.length := Int.mul_le_mul (by omega) (by omega) h3 (by omega)
            rw [← Int.pow_add] at h5
            have h6 : (65536 : Int) ^ (i + 1 + b.length) < 65536 ^ n := by
              have h7 : (65536 : Int) ^ (i + 1 + b.length + 1) ≤ 65536 ^ n := pow_le65 (by omega)
              have h8 : (0 : Int) < 65536 ^ (i + 1 + b.length) := Int.pow_pos (by decide)
              rw [Int.pow_succ] at h7
              omega
            omega
          refine Yld.bind (P := fun o => inD 65536 o ∧ o.length = n ∧ lv o = ds 65536 (dg a) (i + 1) * lv b) (Yld.rounds n (fun k s => s.2.2 = (k : Int) ∧ 0 ≤ s.2.1 ∧ s.2.1 < 4294967296 ∧ (∀ j, 0 ≤ dg s.1 j) ∧ (∀ j, j < k → dg s.1 j < 65536) ∧ (∀ j, k ≤ j → dg s.1 j = dg p j) ∧ s.1.length = n ∧ ds 65536 (dg s.1) k + s.2.1 * 65536 ^ k = ds 65536 (dg p) k) (by omega) ⟨rfl, Int.le_refl _, (by decide : (0 : Int) < 4294967296), fun j => (pin j).1, fun j h => absurd h (Nat.not_lt_zero j), fun j _ => rfl, pl, by simp [ds]⟩ ?_) ?_
          · rintro k ⟨o, c, kx⟩ hk ⟨rfl, c0, c1, o0, olo, ohi, ol, os⟩
            dsimp only at c0 c1 o0 olo ohi ol os
            dsimp only [un3]
            refine Yld.ite (fun h => ?_) (fun h => ?_)
            · have hk' : k < n := by have := of_decide_eq_true h; omega
              have hpk := pin k
              have hok := ohi k (Nat.le_refl k)
              refine Yld.idx (by omega) (by omega) ?_
              simp only [idx_dg, Int.toNat_natCast, hok]
              rw [wi64' (by omega) (by omega), tmod_pos (by omega)]
              refine Yld.ln (Yld.idx (by omega) (by omega) (Yld.quo (by decide) (Yld.some (.inl ⟨_, rfl, ?_, hk'⟩))))
              rw [tdiv_pos (by omega)]
              have hq : IntKind.i64.wrap ((dg p k + c) / 65536) = (dg p k + c) / 65536 := by rw [wi64]; omega
              rw [hq]
              dsimp only
              refine ⟨by rw [wi64]; omega, by omega, by omega, fun j => ?_, fun j hj => ?_, fun j hj => ?_, by simp [ol], ?_⟩
              · rw [dg_set (by omega)]
                split
                · omega
                · exact o0 j
              · rw [dg_set (by omega)]
                split
                · omega
                · exact olo j (by omega)
              · rw [dg_set (by omega), if_neg (by omega)]; exact ohi j (by omega)
              · have e1 : ds 65536 (dg (o.set k ((dg p k + c) % 65536))) (k + 1) = ds 65536 (dg o) k + (dg p k + c) % 65536 * 65536 ^ k := ds_upd fun i => dg_set (by omega)
                rw [e1, ds_succ, ← os, Int.pow_succ]
                have e2 : dg p k + c = (dg p k + c) % 65536 + (dg p k + c) / 65536 * 65536 := by omega
                generalize (dg p k + c) % 65536 = u at *
                generalize (dg p k + c) / 65536 = v at *
                have e3 : dg p k = u + v * 65536 - c := by omega
                rw [e3]
                grind
            · have hk' : k = n := by have := of_decide_eq_false h; omega
              subst hk'
              have oin' : inD 65536 o := fun j => by
                by_cases hj : j < k
                · exact ⟨o0 j, olo j hj⟩
                · rw [dg_ge (by omega)]; decide
              refine Yld.some (.inr ⟨_, rfl, oin', ol, ?_⟩)
              have hlo := ds_nonneg (b := 65536) (by decide) (f := dg o) (n := k) fun j _ => o0 j
              have hpw : (0 : Int) < 65536 ^ k := Int.pow_pos (by decide)
              rw [ps] at os
              have hc : c = 0 := by
                rcases (by omega : c = 0 ∨ 1 ≤ c) with h | h
                · exact h
                · have : 1 * (65536 : Int) ^ k ≤ c * 65536 ^ k := Int.mul_le_mul_of_nonneg_right h (by omega)
                  omega
              subst hc
              have : lv o = ds 65536 (dg o) k := (lv_at (by omega)).symm
              omega
          · rintro o ho
            exact Yld.some ho
      · rintro o ⟨o1, o2, o3⟩
        exact Yld.some (.inl ⟨_, rfl, ⟨by dsimp only; rw [wi64]; omega, o1, o2, o3⟩, hi'⟩)
    · have hi' : i = a.length := by have := of_decide_eq_false h; omega
      subst hi'
      exact Yld.some (.inr ⟨_, rfl, oin, ol, os⟩)
  · rintro o ⟨oin, ol, os⟩
    refine Yld.bind (trim_y (by omega) (by omega) oin) fun c hc => Yld.some ⟨hc.1, hc.2.1, by rw [hc.2.2.1, os], by have := hc.2.2.2; omega⟩
end Go.Proofs.YtaigaoifloldcaaDoor

/- The plain law of chapter 03, part o: shifts of digits, division by one digit. -/
namespace Go.Sk
set_option linter.unusedSimpArgs false
set_option linter.unusedVariables false
theorem ds_top {b : Int} {f : Nat → Int} {n k : Nat} (h : ∀ i, n ≤ i → f i = 0) (hk : n ≤ k) : ds b f k = ds b f n := ds_ext hk fun i h1 _ => h i h1
theorem pow2_pos (n : Nat) : (0 : Int) < 2 ^ n := Int.pow_pos (by decide)
theorem pow2_31 {n : Nat} (h : n ≤ 31) : (2 : Int) ^ n ≤ 2147483648 := by
  have := pow2_le h
  have e : (2 : Int) ^ 31 = 2147483648 := by decide
  omega
theorem shl_val {x : Int} {n : Nat} (hn : n ≤ 31) (hx : 0 ≤ x ∧ x < 4294967296) : shl? .u64 x (n : Int) = some (x * 2 ^ n) := by
  unfold shl?
  rw [if_neg (by omega)]
  have e4 : min ((n : Int)).toNat IntKind.u64.bits = n := by
    rw [Int.toNat_natCast]
    show min n 64 = _
    omega
  have hp := pow2_pos n
  have hq := pow2_31 hn
  have h1 := Int.mul_nonneg hx.1 (Int.le_of_lt hp)
  have h2 : x * 2 ^ n ≤ 4294967295 * 2147483648 := Int.mul_le_mul (by omega) hq (Int.le_of_lt hp) (by omega)
  rw [e4, wu64]
  congr 1
  omega
/-- the high half and the low half of a shift -/
theorem mid_of {X : Int} {n : Nat} (hn : n ≤ 32) : X % 18446744073709551616 / 2 ^ n % 4294967296 = X / 2 ^ n % 4294967296 := by
  have hp := pow2_pos n
  have e : (18446744073709551616 : Int) = 2 ^ n * (2 ^ (32 - n) * 4294967296) := by
    have : (18446744073709551616 : Int) = 2 ^ (n + (32 - n) + 32) := by rw [show n + (32 - n) + 32 = 64 by omega]; decide
    rw [this, Int.pow_add, Int.pow_add, Int.mul_assoc]; rfl
  have e2 : X = X % 18446744073709551616 + 2 ^ n * ((2 ^ (32 - n) * 4294967296) * (X / 18446744073709551616)) := by
    rw [← Int.mul_assoc, ← e]; exact (Int.emod_add_mul_ediv X 18446744073709551616).symm
  have e3 : X / 2 ^ n = X % 18446744073709551616 / 2 ^ n + 2 ^ (32 - n) * 4294967296 * (X / 18446744073709551616) := by
    rw [← Int.add_mul_ediv_left (X % 18446744073709551616) _ (by omega : (2 : Int) ^ n ≠ 0), ← e2]
  have e4 : 2 ^ (32 - n) * 4294967296 * (X / 18446744073709551616) = 4294967296 * (2 ^ (32 - n) * (X / 18446744073709551616)) := by grind
  rw [e3, e4, Int.add_mul_emod_self_left]
/-- a digit and its neighbour, of the value -/
theorem av_pair {w : A16} (h : inD 4294967296 w.l) (i : Nat) : dg w.l i + dg w.l (i + 1) * 4294967296 = av w / 4294967296 ^ i % 18446744073709551616 := by
  have h1 : av w = ds 4294967296 (dg w.l) (16 + (i + 2)) := (ds_top (fun j hj => dg_ge (by rw [A16.l_len]; exact hj)) (by omega)).symm
  have h2 : 16 + (i + 2) = i + (2 + 16) := by omega
  rw [h1, h2, ds_hi (by decide) h, ds_split]
  have e : ds 4294967296 (fun j => dg w.l (i + j)) 2 = dg w.l i + dg w.l (i + 1) * 4294967296 := by simp [ds]
  have p : (4294967296 : Int) ^ 2 = 18446744073709551616 := by decide
  have a := h i
  have b := h (i + 1)
  rw [e, p, Int.add_mul_emod_self_left]
  omega
theorem toA_ext {w : A16} {z : Int} (h : ∀ i, i < 16 → dg w.l i = nd 4294967296 z i) : w = toA z := by
  have hin : inD 4294967296 w.l := fun i => by
    by_cases hi : i < 16
    · rw [h i hi]; exact nd_range _ _ (by decide) i
    · rw [dg_ge (by rw [A16.l_len]; omega)]; decide
  refine eq_toA' hin ?_
  unfold av
  rw [ds_congr h, ds_nd (by decide)]
  rfl
end Go.Sk
namespace Go.Proofs.YtaigaoifloldcaaDoor
open Go Go.Sk
set_option linter.unusedSimpArgs false
set_option linter.unusedVariables false
theorem up_y {F : Nat} (hF : 100 < F) {w : A16} (hw : inD 4294967296 w.l) {n : Nat} (hn : n ≤ 31) : Yld (whole_up_S F w (n : Int)) fun p => inD 4294967296 p.1.l ∧ 0 ≤ p.2 ∧ p.2 < 2 ^ n ∧ av p.1 + p.2 * MM = av w * 2 ^ n := by
  unfold whole_up_S
  have hp := pow2_pos n
  have hq := pow2_31 hn
  refine Yld.bind (P := fun p => inD 4294967296 p.1.l ∧ 0 ≤ p.2 ∧ p.2 < 2 ^ n ∧ av p.1 + p.2 * MM = av w * 2 ^ n) (Yld.rounds 16 (fun (k : Nat) (s : A16 × Int × Int) => s.2.2 = (k : Int) ∧ inD 4294967296 s.1.l ∧ 0 ≤ s.2.1 ∧ s.2.1 < 2 ^ n ∧ ds 4294967296 (dg s.1.l) k + s.2.1 * 4294967296 ^ k = ds 4294967296 (dg w.l) k * 2 ^ n) (by omega) ⟨rfl, zero_in, Int.le_refl _, hp, by simp [ds]⟩ ?_) ?_
  · rintro k ⟨o, c, kx⟩ hk ⟨rfl, oin, c0, c1, os⟩
    dsimp only at oin c0 c1 os
    dsimp only [un3]
    refine Yld.ite (fun h => ?_) (fun h => ?_)
    · have hk' : k < 16 := by have := of_decide_eq_true h; omega
      have hd := hw k
      refine Yld.idx (by omega) (by rw [A16.l_len]; omega) ?_
      simp only [idx_dg, Int.toNat_natCast]
      have hu : IntKind.u64.wrap (dg w.l k) = dg w.l k := by rw [wu64]; omega
      rw [hu]
      refine Yld.bindE (shl_val hn hd) ?_
      have hv : dg w.l k * 2 ^ n ≤ 4294967295 * 2 ^ n := Int.mul_le_mul_of_nonneg_right (by omega) (by omega)
      have hv0 : 0 ≤ dg w.l k * 2 ^ n := Int.mul_nonneg hd.1 (by omega)
      have hior : ior .u64 c (dg w.l k * 2 ^ n) = dg w.l k * 2 ^ n + c := by
        rw [ior_comm]
        exact ior_add n hv0 (by omega) (Int.mul_emod_left _ _) c0 c1 (by omega)
      rw [hior, wu32]
      refine Yld.ln (Yld.idx (by omega) (by rw [A16.l_len]; omega) (Yld.some (.inl ⟨_, rfl, ⟨by dsimp only; rw [wi64]; omega, set_in oin (by omega) (by omega) (by omega), by dsimp only; omega, by dsimp only; omega, ?_⟩, hk'⟩)))
      dsimp only
      rw [A16.ds_set hk', ds_succ, Int.add_mul, ← os, Int.pow_succ]
      have e2 : dg w.l k * 2 ^ n + c = (dg w.l k * 2 ^ n + c) % 4294967296 + (dg w.l k * 2 ^ n + c) / 4294967296 * 4294967296 := by omega
      generalize (dg w.l k * 2 ^ n + c) % 4294967296 = u at *
      generalize (dg w.l k * 2 ^ n + c) / 4294967296 = v at *
      have e3 : dg w.l k * 2 ^ n = u + v * 4294967296 - c := by omega
      have e4 : dg w.l k * 4294967296 ^ k * 2 ^ n = (dg w.l k * 2 ^ n) * 4294967296 ^ k := by grind
      rw [e4, e3]
      grind
    · have hk' : k = 16 := by have := of_decide_eq_false h; omega
      subst hk'
      exact Yld.some (.inr ⟨_, rfl, oin, c0, c1, os⟩)
  · rintro ⟨o, c⟩ ⟨oin, c0, c1, os⟩
    dsimp only at oin c0 c1 os
    dsimp only [un2]
    have hu : IntKind.u32.wrap c = c := by rw [wu32]; omega
    rw [hu]
    exact Yld.some ⟨oin, c0, c1, os⟩
theorem shr_val {x : Int} {n : Nat} (hn : n ≤ 31) : shr? .u64 x (n : Int) = some (x / 2 ^ n) := by
  unfold shr?
  rw [if_neg (by omega)]
  have e4 : min ((n : Int)).toNat IntKind.u64.bits = n := by
    rw [Int.toNat_natCast]
    show min n 64 = _
    omega
  rw [e4]
theorem p32' : (2 : Int) ^ 32 = 4294967296 := by decide
theorem down_y {F : Nat} (hF : 100 < F) {w : A16} (hw : inD 4294967296 w.l) {n : Nat} (hn : n ≤ 31) : whole_down_S F w (n : Int) = some (toA (av w / 2 ^ n)) := by
  refine Yld.eq ?_
  unfold whole_down_S
  have hp := pow2_pos n
  refine Yld.bind (P := fun o => o = toA (av w / 2 ^ n)) (Yld.rounds 16 (fun (k : Nat) (s : A16 × Int) => s.2 = (k : Int) ∧ ∀ i, i < k → dg s.1.l i = nd 4294967296 (av w / 2 ^ n) i) (by omega) ⟨rfl, fun i h => absurd h (Nat.not_lt_zero i)⟩ ?_) (fun o ho => Yld.some ho)
  rintro k ⟨o, kx⟩ hk ⟨rfl, os⟩
  dsimp only at os
  dsimp only [un2]
  refine Yld.ite (fun h => ?_) (fun h => ?_)
  · have hk' : k < 16 := by have := of_decide_eq_true h; omega
    have hd := hw k
    have hd1 := hw (k + 1)
    have hw1 : IntKind.i64.wrap ((k : Int) + 1) = ((k + 1 : Nat) : Int) := by rw [wi64]; omega
    rw [hw1]
    refine Yld.bind (P := fun o' => o' = o.set (k : Int) (nd 4294967296 (av w / 2 ^ n) k)) ?_ ?_
    · refine Yld.bind (P := fun z => z = dg w.l (k + 1)) ?_ ?_
      · refine Yld.ite (fun h => ?_) (fun h => ?_)
        · have h' := of_decide_eq_true h
          refine Yld.idx (by omega) (by rw [A16.l_len]; omega) (Yld.some ?_)
          simp only [idx_dg, Int.toNat_natCast]
          rw [wu64]; omega
        · have h' := of_decide_eq_false h
          exact Yld.some (dg_ge (by rw [A16.l_len]; omega)).symm
      · rintro z rfl
        refine Yld.lnE (dg w.l (k + 1) * 4294967296) (by rw [wu64]; omega) (Yld.idx (by omega) (by rw [A16.l_len]; omega) ?_)
        simp only [idx_dg, Int.toNat_natCast]
        have hu : IntKind.u64.wrap (dg w.l k) = dg w.l k := by rw [wu64]; omega
        have hior : ior .u64 (dg w.l (k + 1) * 4294967296) (dg w.l k) = dg w.l (k + 1) * 4294967296 + dg w.l k := ior_add 32 (by omega) (by omega) (by rw [p32']; omega) hd.1 (by rw [p32']; omega) (by omega)
        rw [hu, hior]
        refine Yld.bindE (shr_val hn) (Yld.idx (by omega) (by rw [A16.l_len]; omega) (Yld.some ?_))
        congr 1
        have e : dg w.l (k + 1) * 4294967296 + dg w.l k = av w / 4294967296 ^ k % 18446744073709551616 := by rw [← av_pair hw]; omega
        rw [e, wu32, mid_of (by omega)]
        unfold nd
        rw [Int.ediv_ediv_of_nonneg (Int.le_of_lt (Int.pow_pos (by decide))), Int.ediv_ediv_of_nonneg (by omega), Int.mul_comm]
    · rintro o' rfl
      refine Yld.some (.inl ⟨_, rfl, ⟨rfl, fun i hi => ?_⟩, hk'⟩)
      dsimp only
      rw [set_dg (by omega) (by omega), Int.toNat_natCast]
      split
      · next e => rw [e]
      · exact os i (by omega)
  · have hk' : k = 16 := by have := of_decide_eq_false h; omega
    subst hk'
    exact Yld.some (.inr ⟨_, rfl, toA_ext os⟩)
theorem short_y {F : Nat} (hF : 100 < F) {a : A16} (ha : inD 4294967296 a.l) {b : Int} (hb : 0 < b ∧ b < 4294967296) : whole_short_S F a b = some (toA (av a / b), av a % b) := by
  refine Yld.eq ?_
  unfold whole_short_S
  have hub : IntKind.u64.wrap b = b := by rw [wu64]; omega
  rw [hub]
  refine Yld.bind (P := fun p => p = (toA (av a / b), av a % b)) (Yld.rounds 16 (fun (k : Nat) (s : A16 × Int × Int) => s.2.2 = 15 - (k : Int) ∧ inD 4294967296 s.1.l ∧ 0 ≤ s.2.1 ∧ s.2.1 < b ∧ ds 4294967296 (fun i => dg a.l (16 - k + i)) k = ds 4294967296 (fun i => dg s.1.l (16 - k + i)) k * b + s.2.1) (by omega) ⟨by decide, zero_in, Int.le_refl _, hb.1, by simp [ds]⟩ ?_) ?_
  · rintro k ⟨q, r, kx⟩ hk ⟨rfl, qin, r0, r1, hs⟩
    dsimp only at qin r0 r1 hs
    dsimp only [un3]
    refine Yld.ite (fun h => ?_) (fun h => ?_)
    · have hk' : k < 16 := by have := of_decide_eq_true h; omega
      have et : (15 - (k : Int)).toNat = 15 - k := by omega
      have hd := ha (15 - k)
      refine Yld.idx (by omega) (by rw [A16.l_len]; omega) ?_
      simp only [idx_dg, et]
      have hu : IntKind.u64.wrap (dg a.l (15 - k)) = dg a.l (15 - k) := by rw [wu64]; omega
      have hr : IntKind.u64.wrap (r * 4294967296) = r * 4294967296 := by rw [wu64]; omega
      have hior : ior .u64 (r * 4294967296) (dg a.l (15 - k)) = r * 4294967296 + dg a.l (15 - k) := ior_add 32 (by omega) (by omega) (by rw [p32]; omega) hd.1 (by rw [p32]; omega) (by omega)
      rw [hu, hr, hior]
      obtain ⟨v, hv⟩ : ∃ v, v = r * 4294967296 + dg a.l (15 - k) := ⟨_, rfl⟩
      rw [← hv]
      have hv0 : 0 ≤ v := by omega
      have hd1 := Int.mul_ediv_add_emod v b
      have hm0 := Int.emod_nonneg v (show b ≠ 0 by omega)
      have hm1 := Int.emod_lt_of_pos v hb.1
      have hq0 : 0 ≤ v / b := Int.ediv_nonneg hv0 (by omega)
      have hq1 : v / b < 4294967296 := by rw [Int.ediv_lt_iff_lt_mul hb.1]; omega
      refine Yld.ln (Yld.quo (by omega) (Yld.idx (by omega) (by rw [A16.l_len]; omega) (Yld.rem (by omega) (Yld.some (.inl ⟨_, rfl, ?_, hk'⟩)))))
      rw [tdiv_pos hv0, tmod_pos hv0]
      have e1 : IntKind.u32.wrap (IntKind.u64.wrap (v / b)) = v / b := by simp only [wu32, wu64]; omega
      rw [e1]
      have ei : (15 - (k : Int)) = ((15 - k : Nat) : Int) := by omega
      dsimp only
      refine ⟨by rw [wi64]; omega, by rw [ei]; exact set_in qin (by omega) (by omega) (by omega), hm0, hm1, ?_⟩
      have ea : ∀ (f : Nat → Int), ds 4294967296 (fun i => f (16 - (k + 1) + i)) (k + 1) = f (15 - k) + 4294967296 * ds 4294967296 (fun i => f (16 - k + i)) k := fun f => by
        rw [ds_succ']
        have e1 : 16 - (k + 1) + 0 = 15 - k := by omega
        have e2 : ∀ i, 16 - (k + 1) + (i + 1) = 16 - k + i := fun i => by omega
        simp only [e1, e2]
      rw [ea (dg a.l), ea (dg (q.set (15 - (k : Int)) (v / b)).l), ei]
      have e3 : dg (q.set ((15 - k : Nat) : Int) (v / b)).l (15 - k) = v / b := by rw [set_dg (by omega) (by omega), Int.toNat_natCast, if_pos rfl]
      have e4 : ds 4294967296 (fun i => dg (q.set ((15 - k : Nat) : Int) (v / b)).l (16 - k + i)) k = ds 4294967296 (fun i => dg q.l (16 - k + i)) k := ds_congr fun i _ => by rw [set_dg (by omega) (by omega), Int.toNat_natCast, if_neg (by omega)]
      rw [e3, e4, hs]
      generalize v / b = Q at *
      generalize v % b = M at *
      grind
    · have hk' : k = 16 := by have := of_decide_eq_false h; omega
      subst hk'
      refine Yld.some (.inr ⟨_, rfl, ?_⟩)
      have e1 : ∀ i, 16 - 16 + i = i := fun i => by omega
      simp only [e1] at hs
      have hs' : av a = av q * b + r := hs
      have hm := Int.emod_emod_of_dvd
      have hB : b ≠ 0 := by omega
      have e : av a = r + b * av q := by rw [hs', Int.mul_comm]; omega
      have q1 : av a / b = av q := by rw [e, Int.add_mul_ediv_left _ _ hB, Int.ediv_eq_zero_of_lt r0 r1, Int.zero_add]
      have q2 : av a % b = r := by rw [e, Int.add_mul_emod_self_left, Int.emod_eq_of_lt r0 r1]
      rw [q1, q2, toA_av qin]
  · rintro ⟨q, r⟩ he
    dsimp only [un2]
    cases he
    refine Yld.some ?_
    have hm0 := Int.emod_nonneg (av a) (show b ≠ 0 by omega)
    have hm1 := Int.emod_lt_of_pos (av a) hb.1
    have : IntKind.u32.wrap (av a % b) = av a % b := by rw [wu32]; omega
    rw [this]
end Go.Proofs.YtaigaoifloldcaaDoor

/- The plain law of chapter 03, part aa: decimal numerals. -/
namespace Go.Sk
set_option linter.unusedSimpArgs false
set_option linter.unusedVariables false
open Go
theorem dd_small {u : Nat} (h : u < 10) : Lib.decDigits u = [UInt8.ofNat (48 + u)] := by rw [Lib.decDigits, dif_pos h]
theorem dd_big {u : Nat} (h : ¬ u < 10) : Lib.decDigits u = Lib.decDigits (u / 10) ++ [UInt8.ofNat (48 + u % 10)] := by rw [Lib.decDigits, dif_neg h]
/-- the last k digits -/
def fd : Nat → Nat → Str
  | 0, _ => []
  | k + 1, r => fd k (r / 10) ++ [UInt8.ofNat (48 + r % 10)]
theorem fd_len : ∀ k r, (fd k r).length = k
  | 0, _ => rfl
  | k + 1, r => by simp [fd, fd_len k]
theorem fd_zero : ∀ k, fd k 0 = List.replicate k 48
  | 0 => rfl
  | k + 1 => by
    show fd k (0 / 10) ++ [UInt8.ofNat (48 + 0 % 10)] = _
    have : fd k (0 / 10) = List.replicate k 48 := fd_zero k
    rw [this, List.replicate_succ']
    rfl
theorem dd_split {q : Nat} (hq : 0 < q) : ∀ (k r : Nat), r < 10 ^ k → Lib.decDigits (q * 10 ^ k + r) = Lib.decDigits q ++ fd k r
  | 0, r, h => by
    have h0 : r = 0 := by rw [Nat.pow_zero] at h; omega
    subst h0
    rw [Nat.pow_zero, Nat.mul_one, Nat.add_zero]
    simp [fd]
  | k + 1, r, h => by
    have e : q * 10 ^ (k + 1) = 10 * (q * 10 ^ k) := by rw [Nat.pow_succ]; grind
    rw [Nat.pow_succ] at h
    have hp : 1 ≤ q * 10 ^ k := Nat.mul_pos hq (Nat.pow_pos (by decide))
    have h1 : ¬ q * 10 ^ (k + 1) + r < 10 := by omega
    rw [dd_big h1]
    have e1 : (q * 10 ^ (k + 1) + r) / 10 = q * 10 ^ k + r / 10 := by omega
    have e2 : (q * 10 ^ (k + 1) + r) % 10 = r % 10 := by omega
    rw [e1, e2, dd_split hq k (r / 10) (by omega), List.append_assoc]
    rfl
theorem dd_pos (u : Nat) : 1 ≤ (Lib.decDigits u).length := by
  by_cases h : u < 10
  · rw [dd_small h]; exact Nat.le_refl _
  · rw [dd_big h]; simp
theorem dd_len_le : ∀ (k u : Nat), u < 10 ^ (k + 1) → (Lib.decDigits u).length ≤ k + 1
  | 0, u, h => by rw [dd_small (by simpa using h)]; exact Nat.le_refl _
  | k + 1, u, h => by
    by_cases h1 : u < 10
    · rw [dd_small h1]; simp
    · rw [Nat.pow_succ] at h
      rw [dd_big h1, List.length_append]
      have := dd_len_le k (u / 10) (by omega)
      simp
      omega
theorem fd_pad : ∀ (k r : Nat), r < 10 ^ (k + 1) → fd (k + 1) r = List.replicate (k + 1 - (Lib.decDigits r).length) 48 ++ Lib.decDigits r
  | 0, r, h => by
    have h1 : r < 10 := by simpa using h
    rw [dd_small h1]
    show [] ++ [UInt8.ofNat (48 + r % 10)] = _
    rw [Nat.mod_eq_of_lt h1]
    rfl
  | k + 1, r, h => by
    show fd (k + 1) (r / 10) ++ [UInt8.ofNat (48 + r % 10)] = _
    by_cases h1 : r < 10
    · rw [dd_small h1, Nat.div_eq_of_lt h1, fd_zero, Nat.mod_eq_of_lt h1]
      simp
    · rw [Nat.pow_succ] at h
      rw [fd_pad k (r / 10) (by omega), dd_big h1, List.length_append]
      have := dd_len_le k (r / 10) (by omega)
      rw [List.append_assoc]
      congr 2
      simp
/-- the value of a numeral -/
def dv (l : Str) : Nat := l.foldl (fun acc c => 10 * acc + (c.toNat - 48)) 0
theorem dv_app (l : Str) (c : UInt8) : dv (l ++ [c]) = 10 * dv l + (c.toNat - 48) := by simp [dv]
def isDig (c : UInt8) : Prop := 48 ≤ c.toNat ∧ c.toNat ≤ 57
theorem dig_of {d : Nat} (h : d < 10) : (UInt8.ofNat (48 + d)).toNat = 48 + d := by simp; omega
theorem dig_to {c : UInt8} (h : isDig c) : UInt8.ofNat (48 + (c.toNat - 48)) = c := by
  have e : 48 + (c.toNat - 48) = c.toNat := by unfold isDig at h; omega
  rw [e]
  exact UInt8.ofNat_toNat
theorem dd_dig (u : Nat) : ∀ c ∈ Lib.decDigits u, isDig c := by
  induction u using Nat.strongRecOn with
  | _ u ih =>
    by_cases h : u < 10
    · rw [dd_small h]
      intro c hc
      rw [List.mem_singleton.1 hc]
      unfold isDig
      rw [dig_of h]; omega
    · rw [dd_big h]
      intro c hc
      rcases List.mem_append.1 hc with g | g
      · exact ih _ (by omega) c g
      · rw [List.mem_singleton.1 g]
        unfold isDig
        rw [dig_of (by omega)]; omega
theorem dv_dd (u : Nat) : dv (Lib.decDigits u) = u := by
  induction u using Nat.strongRecOn with
  | _ u ih =>
    by_cases h : u < 10
    · rw [dd_small h]
      show 10 * 0 + ((UInt8.ofNat (48 + u)).toNat - 48) = u
      rw [dig_of h]; omega
    · rw [dd_big h, dv_app, ih _ (by omega), dig_of (by omega)]; omega
theorem head_app {m x : Str} (h : m ≠ []) : (m ++ x).head? = m.head? := by
  cases m with
  | nil => exact absurd rfl h
  | cons _ _ => rfl
/-- no zero ahead -/
def NoLead (l : Str) : Prop := l ≠ [] ∧ (l.head? = some 48 → l = [48])
theorem dd_head (u : Nat) : NoLead (Lib.decDigits u) := by
  induction u using Nat.strongRecOn with
  | _ u ih =>
    by_cases h : u < 10
    · rw [dd_small h]
      refine ⟨by simp, fun hh => ?_⟩
      rw [Option.some.inj hh]
    · rw [dd_big h]
      obtain ⟨h1, h2⟩ := ih (u / 10) (by omega)
      refine ⟨by simp, fun hh => ?_⟩
      rw [head_app h1] at hh
      have h3 := h2 hh
      have h4 := dv_dd (u / 10)
      rw [h3] at h4
      have : dv [48] = 0 := rfl
      omega
theorem dd_dv (l : Str) (hd : ∀ c ∈ l, isDig c) (hn : NoLead l) : Lib.decDigits (dv l) = l := by
  have key : ∀ n (l : Str), l.length = n → (∀ c ∈ l, isDig c) → NoLead l → Lib.decDigits (dv l) = l ∧ (l.head? ≠ some 48 → 0 < dv l) := by
    intro n
    induction n with
    | zero => intro l hl _ hn; exact absurd (List.length_eq_zero_iff.1 hl) hn.1
    | succ n ih =>
      intro l hl hd hn
      obtain ⟨m, c, rfl⟩ : ∃ m c, l = m ++ [c] := ⟨l.dropLast, l.getLast hn.1, (List.dropLast_concat_getLast hn.1).symm⟩
      have hc := hd c (by simp)
      have hc2 : c.toNat - 48 < 10 := by unfold isDig at hc; omega
      rw [dv_app]
      by_cases hm : m = []
      · subst hm
        have e : dv [] = 0 := rfl
        rw [e, Nat.mul_zero, Nat.zero_add, dd_small hc2, dig_to hc]
        refine ⟨rfl, fun h => ?_⟩
        rcases (by omega : 0 < c.toNat - 48 ∨ c.toNat - 48 = 0) with g | g
        · exact g
        · exfalso
          apply h
          have : c = 48 := by rw [← dig_to hc, g]; rfl
          rw [this]; rfl
      · have hhead : (m ++ [c]).head? = m.head? := head_app hm
        have hne : m.head? ≠ some 48 := fun h => by
          have := hn.2 (by rw [hhead]; exact h)
          have h2 : (m ++ [c]).length = 1 := by rw [this]; rfl
          rw [List.length_append] at h2
          have : m.length = 0 := by simp at h2; simpa using h2
          exact hm (List.length_eq_zero_iff.1 this)
        obtain ⟨i1, i2⟩ := ih m (by simpa using hl) (fun x hx => hd x (by simp [hx])) ⟨hm, fun h => absurd h hne⟩
        have hp := i2 hne
        have h10 : ¬ 10 * dv m + (c.toNat - 48) < 10 := by omega
        rw [dd_big h10]
        have e1 : (10 * dv m + (c.toNat - 48)) / 10 = dv m := by omega
        have e2 : (10 * dv m + (c.toNat - 48)) % 10 = c.toNat - 48 := by omega
        rw [e1, e2, i1, dig_to hc]
        exact ⟨rfl, fun _ => by omega⟩
  exact (key l.length l rfl hd hn).1
end Go.Sk

/- The plain law of chapter 03, part ab: the text of a number. -/
namespace Go.Sk
set_option linter.unusedSimpArgs false
set_option linter.unusedVariables false
open Go
theorem join_flat (xs : List Str) : Lib.join xs [] = xs.flatten := by
  cases xs with
  | nil => rfl
  | cons x r =>
    rw [Lib.join_cons]
    show x ++ (r.map ([] ++ ·)).flatten = _
    simp
theorem idx_get {α : Type} [Inhabited α] {l : List α} {i : Nat} (h : i < l.length) : l[i]? = some (idx l (i : Int)) := by
  have := idx_eq (xs := l) (i := (i : Int)) (by omega) (by omega)
  rw [Int.toNat_natCast] at this
  exact this
theorem MM155 : MM < 10 ^ 155 := by rw [MM_eq]; decide +kernel
theorem dd_MM {a : Int} (h : a < MM) : (Lib.decDigits a.toNat).length ≤ 155 := by
  refine dd_len_le 154 _ ?_
  have h2 := MM155
  have h3 : a < 10 ^ 155 := by omega
  rcases (by omega : a ≤ 0 ∨ 0 < a) with g | g
  · have : a.toNat = 0 := by omega
    rw [this]; exact Nat.pow_pos (by decide)
  · have : (a.toNat : Int) < ((10 ^ 155 : Nat) : Int) := by
      have e : ((10 ^ 155 : Nat) : Int) = 10 ^ 155 := by rw [Int.natCast_pow]; rfl
      rw [e]; omega
    exact Int.ofNat_lt.1 this
theorem itoa_nn {a : Int} (h : 0 ≤ a) : Lib.itoa a = Lib.decDigits a.toNat := by unfold Lib.itoa; rw [if_neg (by omega)]
theorem half_pow {W W' : Int} {k : Nat} (h0 : 0 ≤ W') (h : W' * 1000000000 ≤ W) (hk : W * 2 ^ k < MM) : W' * 2 ^ (k + 1) < MM := by
  have hp := pow2_pos k
  have h1 : W' * 2 ≤ W := by omega
  have h2 := Int.mul_le_mul_of_nonneg_right h1 (Int.le_of_lt hp)
  rw [Int.pow_succ]
  have e : W' * (2 ^ k * 2) = W' * 2 * 2 ^ k := by grind
  omega
theorem pow_bd {W : Int} {k : Nat} (h0 : 0 < W) (h : W * 2 ^ k < MM) : k < 512 := by
  have hp := pow2_pos k
  have h1 := Int.mul_le_mul_of_nonneg_right (show 1 ≤ W by omega) (Int.le_of_lt hp)
  rcases (by omega : k < 512 ∨ 512 ≤ k) with g | g
  · exact g
  · have h2 := pow2_le g
    have e : MM = 2 ^ 512 := by rw [MM_eq]; decide +kernel
    omega
/-- a number and its last nine digits -/
theorem dd_nine {W : Int} (h0 : 0 < W / 1000000000) (hW : 0 ≤ W) : Lib.decDigits W.toNat = Lib.decDigits (W / 1000000000).toNat ++ fd 9 (W % 1000000000).toNat := by
  have e : W.toNat = (W / 1000000000).toNat * 10 ^ 9 + (W % 1000000000).toNat := by
    have : (10 : Nat) ^ 9 = 1000000000 := by decide
    omega
  rw [e]
  refine dd_split (by omega) 9 _ ?_
  have : (10 : Nat) ^ 9 = 1000000000 := by decide
  omega
end Go.Sk
namespace Go.Proofs.YtaigaoifloldcaaDoor
open Go Go.Sk
set_option linter.unusedSimpArgs false
set_option linter.unusedVariables false
theorem Reverse_y {F : Nat} {l : List Str} (hl : l.length ≤ 100000) (hF : 100000 < F) : slices_Reverse_S F l = some l.reverse := by
  refine Yld.eq ?_
  unfold slices_Reverse_S
  have hw : IntKind.i64.wrap ((l.length : Int) - 1) = (l.length : Int) - 1 := by rw [wi64]; omega
  rw [hw]
  refine Yld.ln (Yld.bind (P := (· = l.reverse)) (Yld.rounds l.length (fun (k : Nat) (st : List Str × Int × Int) => st.2.1 = (k : Int) ∧ st.2.2 = (l.length : Int) - 1 - (k : Int) ∧ st.1.length = l.length ∧ ∀ m, m < l.length → st.1[m]? = if m < k ∨ l.length < m + k + 1 then l[l.length - 1 - m]? else l[m]?) (by omega) ⟨rfl, by dsimp only; omega, rfl, fun m hm => by rw [if_neg (by omega)]⟩ ?_) (fun y hy => Yld.some hy))
  rintro k ⟨s, i, j⟩ hk ⟨rfl, rfl, sl, hs⟩
  dsimp only at sl hs
  dsimp only [un3]
  refine Yld.ite (fun h => ?_) (fun h => ?_)
  · have h' := of_decide_eq_true h
    have ej : (l.length : Int) - 1 - (k : Int) = ((l.length - 1 - k : Nat) : Int) := by omega
    rw [ej]
    refine Yld.idx (by omega) (by omega) (Yld.idx (by omega) (by omega) (Yld.idx (by omega) (by omega) (Yld.idx (by omega) (by rw [List.length_set]; omega) (Yld.some (.inl ⟨_, rfl, ⟨by dsimp only; rw [wi64]; omega, by dsimp only; rw [wi64]; omega, by simp [sl], fun m hm => ?_⟩, by omega⟩)))))
    dsimp only
    simp only [Int.toNat_natCast]
    have g1 := idx_get (l := s) (i := k) (by omega)
    have g2 := idx_get (l := s) (i := l.length - 1 - k) (by omega)
    rw [hs k (by omega), if_neg (by omega)] at g1
    rw [hs _ (by omega), if_neg (by omega)] at g2
    rw [List.getElem?_set, List.length_set, List.getElem?_set]
    by_cases e1 : l.length - 1 - k = m
    · rw [if_pos e1, if_pos (by omega), if_pos (by omega), ← g1]
      congr 1; omega
    · rw [if_neg e1]
      by_cases e2 : k = m
      · rw [if_pos e2, if_pos (by omega), if_pos (by omega), ← g2, e2]
      · rw [if_neg e2, hs m hm]
        by_cases e3 : m < k ∨ l.length < m + k + 1
        · rw [if_pos e3, if_pos (by omega)]
        · rw [if_neg e3, if_neg (by omega)]
  · have h' := of_decide_eq_false h
    refine Yld.some (.inr ⟨_, rfl, ?_⟩)
    apply List.ext_getElem?
    intro m
    by_cases hm : m < l.length
    · rw [hs m hm, List.getElem?_reverse hm]
      split
      · rfl
      · congr 1; omega
    · rw [List.getElem?_eq_none (by omega), List.getElem?_eq_none (by rw [List.length_reverse]; omega)]
theorem Text_y {F : Nat} (hF : 100000 < F) {x : Big} (hx : inB x) : whole_Text_S F x = some (match iv x with | some a => Lib.itoa a | none => []) := by
  refine Yld.eq ?_
  unfold whole_Text_S
  refine Yld.bindE (good1 (by omega) x) ?_
  cases ha : iv x with
  | none => rw [iv_none ha]; exact Yld.ift rfl (Yld.some rfl)
  | some a =>
    obtain ⟨ga, rfl, ra⟩ := iv_some hx ha
    obtain ⟨wa, na⟩ := sv_big_W ra
    have wa' : av (big a).W = absZ a := wa
    have hla := absZ_lt ra
    rw [ga, na]
    refine Yld.iff rfl ?_
    have hlen := dd_MM hla.2
    refine Yld.bind (P := fun p => p.length ≤ 1000 ∧ p.reverse.flatten = Lib.decDigits (absZ a).toNat) (Yld.rounds 512 (fun (k : Nat) (st : List Str × A16) => inD 4294967296 st.2.l ∧ st.1.length = k ∧ av st.2 * 2 ^ k < MM ∧ Lib.decDigits (absZ a).toNat = Lib.decDigits (av st.2).toNat ++ st.1.reverse.flatten) (by omega) ⟨big_in a, rfl, by dsimp only; rw [wa', Int.pow_zero, Int.mul_one]; exact hla.2, by dsimp only; rw [wa']; simp⟩ ?_) ?_
    · rintro k ⟨ps, w⟩ hk ⟨win_, pl, wb, hs⟩
      dsimp only at win_ pl wb hs
      dsimp only [un2]
      have hw0 := (av_range win_).1
      have hw1 := (av_range win_).2
      refine Yld.bindE (short_y (by omega) win_ (b := 1000000000) (by decide)) ?_
      dsimp only [un2]
      obtain ⟨r, hr⟩ : ∃ r, r = av w % 1000000000 := ⟨_, rfl⟩
      have hr0 : 0 ≤ r ∧ r < 1000000000 := by omega
      rw [← hr, wi64' (by omega) (by omega)]
      have hrl : (Lib.decDigits r.toNat).length ≤ 9 := dd_len_le 8 _ (by have : (10 : Nat) ^ (8 + 1) = 1000000000 := by decide
                                                                         omega)
      have hit : strconv_Itoa_S F r = some (Lib.decDigits r.toNat) := by
        unfold strconv_Itoa_S itoa?
        rw [itoa_nn hr0.1, if_pos (by omega)]
      refine Yld.bindE hit ?_
      have hq0 : 0 ≤ av w / 1000000000 := Int.ediv_nonneg hw0 (by decide)
      refine Yld.ite (fun h => ?_) (fun h => ?_)
      · have hz : av w / 1000000000 = 0 := (toA_zero_iff hq0 (by omega)).1 (of_decide_eq_true h)
        have hwr : av w = r := by omega
        refine Yld.app (by simp; omega) (Yld.some (.inr ⟨_, rfl, by simp; omega, ?_⟩))
        rw [List.reverse_append, List.flatten_append, hs, hwr]
        simp
      · have hz : av w / 1000000000 ≠ 0 := fun e => (of_decide_eq_false h) ((toA_zero_iff hq0 (by omega)).2 e)
        have hqp : 0 < av w / 1000000000 := by omega
        have hwl : IntKind.i64.wrap (9 - ((Lib.decDigits r.toNat).length : Int)) = ((9 - (Lib.decDigits r.toNat).length : Nat) : Int) := by rw [wi64]; omega
        have hrep : strings_Repeat_S F [48] ((9 - (Lib.decDigits r.toNat).length : Nat) : Int) = some (List.replicate (9 - (Lib.decDigits r.toNat).length) 48) := by
          unfold strings_Repeat_S repeat?
          rw [Int.toNat_natCast, if_pos ⟨by omega, by omega, by simp; omega⟩]
          have := Lib.repeatL_replicate 48 1 (9 - (Lib.decDigits r.toNat).length)
          rw [Nat.mul_one] at this
          exact congrArg some this
        rw [hwl]
        refine Yld.ln (Yld.bindE hrep (Yld.app (by simp; omega) (Yld.app (by simp; omega) (Yld.some (.inl ⟨_, rfl, ?_⟩)))))
        have hb := half_pow hq0 (by omega) wb
        have hqm : av (toA (av w / 1000000000)) = av w / 1000000000 := by rw [av_toA, Int.emod_eq_of_lt hq0 (by omega)]
        have hk2 := pow_bd hqp hb
        refine ⟨⟨toA_in _, by simp [pl], by dsimp only; rw [hqm]; exact hb, ?_⟩, by omega⟩
        dsimp only
        rw [hqm, hs, dd_nine hqp hw0, ← hr, fd_pad 8 r.toNat (by have : (10 : Nat) ^ (8 + 1) = 1000000000 := by decide
                                                                 omega), List.reverse_append, List.flatten_append]
        simp
    · rintro ps ⟨pl, pf⟩
      refine Yld.bind (P := fun p => p.length ≤ 2000 ∧ p.reverse.flatten = Lib.itoa a) ?_ ?_
      · refine Yld.ite (fun h => ?_) (fun h => ?_)
        · have hneg : a < 0 := of_decide_eq_true h
          refine Yld.app (by simp; omega) (Yld.some ⟨by simp; omega, ?_⟩)
          rw [List.reverse_append, List.flatten_append, pf]
          unfold Lib.itoa
          rw [if_pos hneg]
          have e : (absZ a).toNat = a.natAbs := by unfold absZ; rw [if_pos hneg]; omega
          rw [e]; rfl
        · have hneg : ¬ a < 0 := of_decide_eq_false h
          refine Yld.some ⟨by omega, ?_⟩
          rw [pf]
          unfold Lib.itoa
          have e : absZ a = a := if_neg hneg
          rw [if_neg hneg, e]
      · rintro p ⟨p1, p2⟩
        refine Yld.bindE (Reverse_y (by omega) hF) ?_
        have hj : strings_Join_S F p.reverse [] = some (Lib.itoa a) := by
          unfold strings_Join_S join?
          rw [join_flat, p2, if_pos]
          refine ⟨by simp; omega, ?_⟩
          unfold Lib.itoa
          have h1 := hlen
          split
          · next hneg =>
            have e : (absZ a).toNat = a.natAbs := by unfold absZ; rw [if_pos hneg]; omega
            rw [e] at h1
            simp; omega
          · next hneg =>
            have e : absZ a = a := if_neg hneg
            rw [e] at h1
            omega
        exact Yld.bindE hj (Yld.some rfl)
end Go.Proofs.YtaigaoifloldcaaDoor

/- The plain law of chapter 03, part ac: the reference's text. -/
namespace Go.Sk
set_option linter.unusedSimpArgs false
set_option linter.unusedVariables false
theorem rep_in' (n : Nat) : inD 65536 (List.replicate n 0) := fun i => by rw [dg_replicate]; decide
theorem set_inl' {b : Int} {l : List Int} {k : Nat} {x : Int} (hl : k < l.length) (h : inD b l) (hx : 0 ≤ x ∧ x < b) : inD b (l.set k x) := fun i => by
  rw [dg_set hl]; split
  · exact hx
  · exact h i
theorem ten_pow {V V' : Int} {k : Nat} (h0 : 0 ≤ V') (h : V' * 10 ≤ V) (hk : V * 2 ^ k < MM) : V' * 2 ^ (k + 1) < MM := by
  have hp := pow2_pos k
  have h1 : V' * 2 ≤ V := by omega
  have h2 := Int.mul_le_mul_of_nonneg_right h1 (Int.le_of_lt hp)
  rw [Int.pow_succ]
  have e : V' * (2 ^ k * 2) = V' * 2 * 2 ^ k := by grind
  omega
end Go.Sk
namespace Go.Proofs.YtaigaoifloldcaaDoor
open Go Go.Sk
set_option linter.unusedSimpArgs false
set_option linter.unusedVariables false
theorem rText_y {F : Nat} (hF : 100000 < F) {x : Big} (hx : inB x) : skewbackref03_Text_S F x = some (match iv x with | some a => Lib.itoa a | none => []) := by
  refine Yld.eq ?_
  unfold skewbackref03_Text_S
  refine Yld.bindE (rGood_y hF hx) ?_
  cases ha : iv x with
  | none => rw [iv_none ha]; exact Yld.ift rfl (Yld.some rfl)
  | some a =>
    obtain ⟨ga, rfl, ra⟩ := iv_some hx ha
    obtain ⟨wa, na⟩ := sv_big_W ra
    have hla := absZ_lt ra
    show Yld _ (fun z => z = Lib.itoa a)
    rw [ga, na]
    refine Yld.iff rfl (Yld.bind (dig_y hF ra) ?_)
    rintro d0 ⟨d1, d2, d3, d4⟩
    have hd0 := len_pos d1 d2
    rw [d3] at hd0
    refine Yld.ite (fun h => ?_) (fun h => ?_)
    · have h' := of_decide_eq_true h
      have hz : a = 0 := by
        have : absZ a = 0 := by
          by_cases e : absZ a = 0
          · exact e
          · have := hd0.2 e; omega
        unfold absZ at this; split at this <;> omega
      subst hz
      refine Yld.some ?_
      rw [itoa_nn (by decide)]
      exact (dd_small (u := 0) (by decide)).symm
    · have h' := of_decide_eq_false h
      have hVp : 0 < absZ a := by have := hd0.1 (by omega); omega
      have hlen := dd_MM hla.2
      refine Yld.bind (P := fun out => out = Lib.decDigits (absZ a).toNat) (Yld.rounds 512 (fun (k : Nat) (st : List Int × Str) => inD 65536 st.1 ∧ Tight st.1 ∧ st.1.length ≤ 32 ∧ st.2.length = k ∧ lv st.1 * 2 ^ k < MM ∧ Lib.decDigits (absZ a).toNat = (if lv st.1 = 0 then [] else Lib.decDigits (lv st.1).toNat) ++ st.2) (by omega) ⟨d1, d2, d4, rfl, by dsimp only; rw [d3, Int.pow_zero, Int.mul_one]; exact hla.2, by dsimp only; rw [d3, if_neg (by omega)]; simp⟩ ?_) ?_
      · rintro k ⟨d, out⟩ hk ⟨din, dt, dl, ol, db, ds_⟩
        dsimp only at din dt dl ol db ds_
        dsimp only [un2]
        have hdp := len_pos din dt
        have hd0 := lv_nonneg din
        refine Yld.ite (fun h => ?_) (fun h => ?_)
        · have hl : 0 < d.length := by have := of_decide_eq_true h; omega
          have hvp : 0 < lv d := by have := hdp.1 hl; omega
          have hmk : mk? (0 : Int) (d.length : Int) (d.length : Int) = some (List.replicate d.length 0) := by
            unfold mk?
            rw [if_pos (by omega), Int.toNat_natCast]
          have hw3 : IntKind.i64.wrap ((d.length : Int) - 1) = (d.length : Int) - 1 := by rw [wi64]; omega
          refine Yld.bindE hmk ?_
          rw [hw3]
          refine Yld.bind (P := fun p => p.1 = lv d % 10 ∧ inD 65536 p.2 ∧ p.2.length = d.length ∧ lv p.2 = lv d / 10) (Yld.ln (Yld.rounds d.length (fun (k : Nat) (s : Int × List Int × Int) => s.2.2 = (d.length : Int) - 1 - (k : Int) ∧ 0 ≤ s.1 ∧ s.1 < 10 ∧ inD 65536 s.2.1 ∧ s.2.1.length = d.length ∧ ds 65536 (fun i => dg d (d.length - k + i)) k = ds 65536 (fun i => dg s.2.1 (d.length - k + i)) k * 10 + s.1) (by omega) ⟨by dsimp only; omega, Int.le_refl _, (by decide : (0 : Int) < 10), rep_in' _, by simp, by simp [ds]⟩ ?_)) ?_
          · rintro k ⟨r, q, kx⟩ hk ⟨rfl, r0, r1, qin, ql, hs⟩
            dsimp only at r0 r1 qin ql hs
            dsimp only [un3]
            refine Yld.ite (fun h => ?_) (fun h => ?_)
            · have hk' : k < d.length := by have := of_decide_eq_true h; omega
              have et : ((d.length : Int) - 1 - (k : Int)).toNat = d.length - 1 - k := by omega
              have hdk := din (d.length - 1 - k)
              refine Yld.idx (by omega) (by omega) ?_
              simp only [idx_dg, et]
              refine Yld.lnE (65536 * r + dg d (d.length - 1 - k)) (by simp only [wi64]; omega) (Yld.quo (by decide) (Yld.idx (by omega) (by omega) (Yld.some (.inl ⟨_, rfl, ?_, hk'⟩))))
              rw [tmod_pos (by omega), tdiv_pos (by omega)]
              have hq : IntKind.i64.wrap ((65536 * r + dg d (d.length - 1 - k)) / 10) = (65536 * r + dg d (d.length - 1 - k)) / 10 := by rw [wi64]; omega
              rw [hq]
              dsimp only
              refine ⟨by rw [wi64]; omega, by omega, by omega, set_inl' (by omega) qin (by omega), by simp [ql], ?_⟩
              have ea : ∀ (f : Nat → Int), ds 65536 (fun i => f (d.length - (k + 1) + i)) (k + 1) = f (d.length - 1 - k) + 65536 * ds 65536 (fun i => f (d.length - k + i)) k := fun f => by
                rw [ds_succ']
                have e1 : d.length - (k + 1) + 0 = d.length - 1 - k := by omega
                have e2 : ∀ i, d.length - (k + 1) + (i + 1) = d.length - k + i := fun i => by omega
                simp only [e1, e2]
              generalize hQ : (65536 * r + dg d (d.length - 1 - k)) / 10 = Q at *
              rw [ea (dg d), ea (dg (q.set (d.length - 1 - k) Q))]
              have e3 : dg (q.set (d.length - 1 - k) Q) (d.length - 1 - k) = Q := by rw [dg_set (by omega), if_pos rfl]
              have e4 : ds 65536 (fun i => dg (q.set (d.length - 1 - k) Q) (d.length - k + i)) k = ds 65536 (fun i => dg q (d.length - k + i)) k := ds_congr fun i _ => by rw [dg_set (by omega), if_neg (by omega)]
              rw [e3, e4, hs]
              omega
            · have hk' : k = d.length := by have := of_decide_eq_false h; omega
              subst hk'
              have e1 : ∀ i, d.length - d.length + i = i := fun i => by omega
              simp only [e1] at hs
              have e2 : ds 65536 (dg q) d.length = lv q := by unfold lv; rw [ql]
              rw [e2] at hs
              have hs' : lv d = lv q * 10 + r := hs
              exact Yld.some (.inr ⟨_, rfl, by dsimp only; omega, qin, ql, by dsimp only; omega⟩)
          · rintro ⟨r, q⟩ ⟨rfl, qin, ql, qv⟩
            dsimp only at qin ql qv
            dsimp only [un2]
            refine Yld.bind (trim_y (by omega) (by omega) qin) ?_
            rintro c ⟨cin, ct, cv, cl⟩
            rw [qv] at cv
            have hm : 0 ≤ lv d % 10 ∧ lv d % 10 < 10 := by omega
            have hwc : IntKind.u8.wrap (IntKind.i64.wrap (48 + lv d % 10)) = 48 + lv d % 10 := by rw [wi64, wu8]; omega
            have hk3 := pow_bd hvp db
            refine Yld.lnE _ hwc (Yld.app (by simp [toStr]; omega) (Yld.some (.inl ⟨_, rfl, ⟨cin, ct, by dsimp only; omega, by simp [toStr, ol], by dsimp only; rw [cv]; exact ten_pow (by omega) (by omega) db, ?_⟩, hk3⟩)))
            dsimp only
            rw [cv, ds_, if_neg (by omega)]
            have ec : toStr [48 + lv d % 10] = [UInt8.ofNat (48 + (lv d).toNat % 10)] := by
              unfold toStr
              have : (48 + lv d % 10).toNat = 48 + (lv d).toNat % 10 := by omega
              simp only [List.map_cons, List.map_nil, this]
            rw [ec]
            by_cases h10 : lv d < 10
            · rw [dd_small (by omega), if_pos (by omega), Nat.mod_eq_of_lt (show (lv d).toNat < 10 by omega)]; rfl
            · have e5 : (lv d).toNat / 10 = (lv d / 10).toNat := by omega
              rw [dd_big (by omega), if_neg (by omega), e5, List.append_assoc]
        · have hl : d.length = 0 := by have := of_decide_eq_false h; omega
          have hz : lv d = 0 := by
            by_cases e : lv d = 0
            · exact e
            · have := hdp.2 e; omega
          rw [hz, if_pos rfl] at ds_
          exact Yld.some (.inr ⟨_, rfl, by rw [ds_]; rfl⟩)
      · rintro out rfl
        unfold Lib.itoa
        refine Yld.ite (fun h => ?_) (fun h => ?_)
        · have hneg : a < 0 := of_decide_eq_true h
          refine Yld.app (by simp; omega) (Yld.some ?_)
          rw [if_pos hneg]
          have e : (absZ a).toNat = a.natAbs := by unfold absZ; rw [if_pos hneg]; omega
          rw [e]; rfl
        · have hneg : ¬ a < 0 := of_decide_eq_false h
          have e : absZ a = a := if_neg hneg
          rw [if_neg hneg, e]
          exact Yld.some rfl
end Go.Proofs.YtaigaoifloldcaaDoor

/- The plain law of chapter 03, part ad: reading a numeral. -/
namespace Go.Sk
set_option linter.unusedSimpArgs false
set_option linter.unusedVariables false
open Go
theorem dv_take (l : Str) {k : Nat} (h : k < l.length) : dv (l.take (k + 1)) = 10 * dv (l.take k) + (l[k].toNat - 48) := by
  rw [List.take_add_one, List.getElem?_eq_getElem h]
  exact dv_app _ _
theorem dv_mono (l : Str) : ∀ {k m : Nat}, k ≤ m → m ≤ l.length → dv (l.take k) ≤ dv (l.take m) := by
  intro k m h
  induction m with
  | zero => intro _; have : k = 0 := by omega
            subst this; exact Nat.le_refl _
  | succ m ih =>
    intro hm
    rcases (by omega : k = m + 1 ∨ k ≤ m) with e | e
    · subst e; exact Nat.le_refl _
    · have := ih e (by omega)
      rw [dv_take l (show m < l.length by omega)]
      omega
def sgnS (s : Str) : Bool := decide (s.head? = some 45)
def digS (s : Str) : Str := if sgnS s = true then s.drop 1 else s
/-- the numeral's digits are badly formed -/
def illS (s : Str) : Prop := digS s = [] ∨ (digS s).head? = some 48 ∧ s ≠ [48]
/-- what a text reads as -/
inductive RdS (s : Str) : Big × Int → Prop where
  | ill (h : illS s) : RdS s (bad, 281)
  | char (h : ¬ illS s) (c : UInt8) (hc : c ∈ digS s) (hn : ¬ isDig c) : RdS s (bad, 281)
  | long (h : ¬ illS s) (hd : ∀ c ∈ digS s, isDig c) (hv : MM ≤ dv (digS s)) : RdS s (bad, 30)
  | num (h : ¬ illS s) (hd : ∀ c ∈ digS s, isDig c) (hv : (dv (digS s) : Int) < MM) : RdS s (big (if sgnS s = true then -(dv (digS s) : Int) else dv (digS s)), 0)
theorem RdS.one {s : Str} {p q : Big × Int} (hp : RdS s p) (hq : RdS s q) : p = q := by
  cases hp with
  | ill h =>
    cases hq with
    | ill _ => rfl
    | char h2 _ _ _ => exact absurd h h2
    | long h2 _ _ => exact absurd h h2
    | num h2 _ _ => exact absurd h h2
  | char h c hc hn =>
    cases hq with
    | ill h2 => exact absurd h2 h
    | char _ _ _ _ => rfl
    | long _ hd _ => exact absurd (hd c hc) hn
    | num _ hd _ => exact absurd (hd c hc) hn
  | long h hd hv =>
    cases hq with
    | ill h2 => exact absurd h2 h
    | char _ c hc hn => exact absurd (hd c hc) hn
    | long _ _ _ => rfl
    | num _ _ hv2 => omega
  | num h hd hv =>
    cases hq with
    | ill h2 => exact absurd h2 h
    | char _ c hc hn => exact absurd (hd c hc) hn
    | long _ _ hv2 => omega
    | num _ _ _ => rfl
theorem head_idx {l : Str} (h : l ≠ []) : l.head? = some (idx l 0) := by
  cases l with
  | nil => exact absurd rfl h
  | cons c r => rfl
theorem u8_45 (c : UInt8) : (c.toNat : Int) = 45 ↔ c = 45 := ⟨fun h => by
  have h2 : c.toNat = (45 : UInt8).toNat := by show c.toNat = 45; omega
  exact UInt8.toNat_inj.1 h2, fun h => by rw [h]; rfl⟩
theorem u8_48 (c : UInt8) : (c.toNat : Int) = 48 ↔ c = 48 := ⟨fun h => by
  have h2 : c.toNat = (48 : UInt8).toNat := by show c.toNat = 48; omega
  exact UInt8.toNat_inj.1 h2, fun h => by rw [h]; rfl⟩
theorem ofStr_idx {l : Str} {k : Nat} (h : k < l.length) : idx (ofStr l) (k : Int) = (l[k].toNat : Int) := by
  unfold ofStr
  have := idx_get (l := l.map fun c => (c.toNat : Int)) (i := k) (by simpa using h)
  rw [List.getElem?_map, List.getElem?_eq_getElem h] at this
  exact (Option.some.inj this).symm
theorem str_idx {l : Str} {k : Nat} (h : k < l.length) : idx l (k : Int) = l[k] := by
  have := idx_get h
  rw [List.getElem?_eq_getElem h] at this
  exact (Option.some.inj this).symm
theorem digS_ne {s : Str} : decide (digS s ≠ s) = sgnS s := by
  unfold digS
  cases h : sgnS s with
  | false => simp
  | true =>
    unfold sgnS at h
    cases s with
    | nil => simp at h
    | cons c r => simp
theorem digS_len (s : Str) : (digS s).length ≤ s.length := by
  unfold digS; split
  · simp
  · exact Nat.le_refl _
end Go.Sk
namespace Go.Proofs.YtaigaoifloldcaaDoor
open Go Go.Sk
set_option linter.unusedSimpArgs false
set_option linter.unusedVariables false
theorem sgn_first (F : Nat) (s : Str) : ∀ {β : Type} {k : UInt8 → Option β} {Q : β → Prop}, (∀ c : UInt8, ((decide (0 < (s.length : Int))) && (decide ((c.toNat : Int) = 45))) = sgnS s → Yld (k c) Q) → Yld ((gcall (decide (0 < (s.length : Int))) (idx? s 0)).bind k) Q := by
  intro β k Q h
  cases s with
  | nil => exact Yld.g0 rfl (h _ (by rfl))
  | cons c r =>
    have hl : 0 < ((c :: r).length : Int) := by rw [List.length_cons]; omega
    refine Yld.g1 (decide_eq_true hl) (Yld.idx (by decide) hl (h _ ?_))
    have e : idx (c :: r) 0 = c := rfl
    rw [e, decide_eq_true hl, Bool.true_and]
    unfold sgnS
    rw [decide_eq_decide, u8_45]
    simp
theorem Parse_y {F : Nat} (hF : 100000 < F) {s : Str} (hl : s.length ≤ 500) : Yld (whole_Parse_S F s) (RdS s) := by
  unfold whole_Parse_S
  have hdl := digS_len s
  refine Yld.bind (P := (· = digS s)) ?_ ?_
  · refine sgn_first F s fun c hc => Yld.lnE _ hc ?_
    unfold digS
    refine Yld.ite (fun h => ?_) (fun h => ?_)
    · rw [if_pos h]
      have hne : 1 ≤ s.length := by
        unfold sgnS at h
        cases s with
        | nil => simp at h
        | cons c r => simp
      exact Yld.drop (by decide) (by omega) (Yld.some rfl)
    · rw [h]; exact Yld.some rfl
  · rintro _ rfl
    have hill : ∀ {β : Type} {k : UInt8 → Option β} {Q : β → Prop}, (∀ c : UInt8, (((decide (digS s = [])) || ((decide ((c.toNat : Int) = 48)) && (decide (s ≠ [48])))) = true ↔ illS s) → Yld (k c) Q) → Yld ((gcall (!(decide (digS s = []))) (idx? (digS s) 0)).bind k) Q := by
      intro β k Q h
      by_cases hd : digS s = []
      · refine Yld.g0 (by rw [decide_eq_true hd]; rfl) (h _ ?_)
        rw [decide_eq_true hd]
        exact ⟨fun _ => .inl hd, fun _ => rfl⟩
      · have hpos : 0 < (digS s).length := List.length_pos_iff.2 hd
        refine Yld.g1 (by rw [decide_eq_false hd]; rfl) (Yld.idx (by decide) (by omega) (h _ ?_))
        rw [decide_eq_false hd, Bool.false_or, Bool.and_eq_true, decide_eq_true_eq, decide_eq_true_eq, u8_48]
        unfold illS
        rw [head_idx hd, Option.some.injEq]
        exact ⟨fun g => .inr g, fun g => g.resolve_left hd⟩
    refine hill fun c hc => Yld.ln ?_
    refine Yld.ite (fun h => ?_) (fun h => ?_)
    · exact Yld.bindE (Bad_y F) (Yld.some (.ill (hc.1 h)))
    · have hni : ¬ illS s := fun g => by rw [hc.2 g] at h; exact absurd h (by simp)
      have holen : ((ofStr (digS s)).length : Int) = (digS s).length := by unfold ofStr; simp
      refine Yld.bind (P := fun r => match r with | .inl _ => ∀ c ∈ digS s, isDig c | .inr z => RdS s z) (Yld.rounds (digS s).length (fun (k : Nat) (i : Int) => i = (k : Int) ∧ ∀ m (hm : m < (digS s).length), m < k → isDig (digS s)[m]) (by omega) ⟨rfl, fun m _ h => absurd h (Nat.not_lt_zero m)⟩ ?_) ?_
      · rintro k i hk ⟨rfl, hd⟩
        rw [holen]
        refine Yld.ite (fun h => ?_) (fun h => ?_)
        · have hk' : k < (digS s).length := by have := of_decide_eq_true h; omega
          refine Yld.idx (by omega) (by rw [holen]; omega) ?_
          rw [ofStr_idx hk']
          refine Yld.ite (fun h => ?_) (fun h => ?_)
          · simp only [Bool.or_eq_true, decide_eq_true_eq] at h
            refine Yld.bindE (Bad_y F) (Yld.some (.inr ⟨_, rfl, .char hni _ (List.getElem_mem hk') ?_⟩))
            unfold isDig; omega
          · simp only [Bool.or_eq_false_iff, decide_eq_false_iff_not] at h
            refine Yld.some (.inl ⟨_, rfl, ⟨by rw [wi64]; omega, fun m hm h2 => ?_⟩, hk'⟩)
            by_cases e : m = k
            · subst e; unfold isDig; omega
            · exact hd m hm (by omega)
        · have hk' : k = (digS s).length := by have := of_decide_eq_false h; omega
          subst hk'
          refine Yld.some (.inr ⟨_, rfl, fun c hc2 => ?_⟩)
          obtain ⟨m, hm, rfl⟩ := List.getElem_of_mem hc2
          exact hd m hm hm
      · rintro (u | z) hr
        · have hd : ∀ c ∈ digS s, isDig c := hr
          clear hr
          show Yld (if decide (512 < ((digS s).length : Int)) = true then _ else _) _
          refine Yld.iff (decide_eq_false (by omega)) ?_
          have r10 : -MM < 10 ∧ (10 : Int) < MM := by have := MM_big; omega
          refine Yld.bindE (Of_y F (by decide) (by decide)) (Yld.bindE (Of_y F (by decide) (by decide)) ?_)
          have hz0 : big 0 = big (dv ((digS s).take 0) : Int) := by
            have e : dv ((digS s).take 0) = 0 := by rw [List.take_zero]; rfl
            exact congrArg big (by rw [e]; rfl)
          refine Yld.bind (P := fun z => z = big (dv (digS s) : Int)) (Yld.rounds (digS s).length (fun (k : Nat) (st : Big × Int) => st.2 = (k : Int) ∧ st.1 = big (dv ((digS s).take k) : Int)) (by omega) ⟨rfl, hz0⟩ ?_) ?_
          · rintro k ⟨z, kx⟩ hk ⟨rfl, hz⟩
            dsimp only at hz
            dsimp only [un2]
            rw [hz, holen]
            clear hz
            refine Yld.ite (fun h => ?_) (fun h => ?_)
            · have hk' : k < (digS s).length := by have := of_decide_eq_true h; omega
              refine Yld.idx (by omega) (by rw [holen]; omega) ?_
              rw [ofStr_idx hk']
              have hcd := hd _ (List.getElem_mem hk')
              unfold isDig at hcd
              have hw : IntKind.i64.wrap (IntKind.u8.wrap (((digS s)[k].toNat : Int) - 48)) = (((digS s)[k].toNat - 48 : Nat) : Int) := by rw [wi64, wu8]; omega
              refine Yld.bindE (Mul_y (by omega) (big_in _) (big_in _)) (Yld.lnE _ hw (Yld.bindE (Of_y F (by omega) (by omega)) (Yld.bindE (Add_y (by omega) (two_in _ _ _) (big_in _)) (Yld.some (.inl ⟨_, rfl, ⟨by dsimp only; rw [wi64]; omega, ?_⟩, hk'⟩)))))
              dsimp only
              rw [dv_take _ hk']
              generalize dv ((digS s).take k) = v
              have hdd : (digS s)[k].toNat - 48 < 10 := by omega
              generalize (digS s)[k].toNat - 48 = d at *
              have rd : -MM < (d : Int) ∧ (d : Int) < MM := by have := MM_big; omega
              have e1 : ((10 * v + d : Nat) : Int) = (v : Int) * 10 + (d : Int) := by omega
              rw [e1]
              by_cases hv : (v : Int) < MM
              · rw [two_big (a := (v : Int)) (by omega) r10]
                show two _ (big ((v : Int) * 10)) (big (d : Int)) = _
                by_cases hv2 : (v : Int) * 10 < MM
                · rw [two_big (by omega) rd]; rfl
                · rw [big_out (by omega), big_out (z := (v : Int) * 10 + d) (by omega)]
                  rfl
              · rw [big_out (z := (v : Int)) (by omega), big_out (z := (v : Int) * 10 + d) (by omega)]
                rfl
            · have hk' : k = (digS s).length := by have := of_decide_eq_false h; omega
              subst hk'
              refine Yld.some (.inr ⟨_, rfl, ?_⟩)
              rw [List.take_length]
          · intro z hz
            rw [hz]
            clear hz
            by_cases hv : (dv (digS s) : Int) < MM
            · have hin : -MM < (dv (digS s) : Int) ∧ (dv (digS s) : Int) < MM := by omega
              have hb : (big (dv (digS s) : Int)).Bad = false := by rw [big_Bad, decide_eq_true hin]; rfl
              refine Yld.iff hb (Yld.bindE (signed_y F _ (big_in _)) (Yld.some ?_))
              have hW := (sv_big_W hin).1
              rw [if_neg (by omega)] at hW
              rw [hW, digS_ne]
              exact .num hni hd hv
            · rw [big_out (by omega)]
              exact Yld.ift rfl (Yld.some (.long hni hd (by omega)))
        · exact Yld.some hr
end Go.Proofs.YtaigaoifloldcaaDoor

/- The plain law of chapter 03, part ae: the reference reads a numeral. -/
namespace Go.Sk
open Go
theorem wrap48 {n : Nat} (h : 48 ≤ n ∧ n ≤ 57) : IntKind.i64.wrap (IntKind.i64.wrap (n : Int) - 48) = ((n - 48 : Nat) : Int) := by
  rw [wi64' (z := (n : Int)) (by omega) (by omega), wi64' (by omega) (by omega)]; omega
theorem small48 {n : Nat} (h : 48 ≤ n ∧ n ≤ 57) : (0 : Int) ≤ ((n - 48 : Nat) : Int) ∧ ((n - 48 : Nat) : Int) < 65536 := by omega
theorem long_of {n : Nat} {v w : Nat} {x : Int} (h3 : (65536 : Int) ^ (n - 1) ≤ x) (h4 : (65536 : Int) ^ 32 ≤ 65536 ^ (n - 1)) (hx : x = (v : Int)) (h5 : v ≤ w) : MM ≤ (w : Int) := by
  have e := MM65
  generalize (65536 : Int) ^ (n - 1) = p at *
  generalize (65536 : Int) ^ 32 = q at *
  omega
theorem num_lt {n : Nat} {x : Int} {v : Nat} (h1 : x < (65536 : Int) ^ n) (h2 : (65536 : Int) ^ n ≤ 65536 ^ 32) (hv : x = (v : Int)) : (v : Int) < MM := by
  have e := MM65
  generalize (65536 : Int) ^ n = p at *
  generalize (65536 : Int) ^ 32 = q at *
  omega
end Go.Sk
namespace Go.Proofs.YtaigaoifloldcaaDoor
open Go Go.Sk
set_option linter.unusedSimpArgs false
set_option linter.unusedVariables false
theorem rParse_y {F : Nat} (hF : 100000 < F) {s : Str} (hl : s.length ≤ 500) : Yld (skewbackref03_Parse_S F s) (RdS s) := by
  unfold skewbackref03_Parse_S
  refine sgn_first F s fun c0 hc0 => Yld.lnE _ hc0 ?_
  obtain ⟨f, hf⟩ : ∃ f : Nat, f = if sgnS s = true then 1 else 0 := ⟨_, rfl⟩
  have hD : digS s = s.drop f := by
    unfold digS; rw [hf]; split
    · rfl
    · rw [List.drop_zero]
  have hfl : f ≤ s.length := by
    rw [hf]; split
    · next h =>
      unfold sgnS at h
      cases s with
      | nil => simp at h
      | cons c r => simp
    · omega
  have hDl : (digS s).length = s.length - f := by rw [hD, List.length_drop]
  refine Yld.bind (P := (· = (f : Int))) ?_ ?_
  · rw [hf]
    refine Yld.ite (fun h => ?_) (fun h => ?_)
    · rw [if_pos h]; exact Yld.some rfl
    · rw [h]; exact Yld.some rfl
  · rintro _ rfl
    have hget : ∀ {k : Nat} (hk : k < (digS s).length), idx s ((f : Int) + (k : Int)) = (digS s)[k] := fun {k} hk => by
      have e : (f : Int) + (k : Int) = ((f + k : Nat) : Int) := by omega
      rw [e, str_idx (show f + k < s.length by omega)]
      simp only [hD, List.getElem_drop]
    have hill : ∀ {β : Type} {k : UInt8 → Option β} {Q : β → Prop}, (∀ c : UInt8, (((decide ((s.length : Int) = (f : Int))) || ((decide ((c.toNat : Int) = 48)) && (sgnS s || (decide (1 < (s.length : Int)))))) = true ↔ illS s) → Yld (k c) Q) → Yld ((gcall (!(decide ((s.length : Int) = (f : Int)))) (idx? s (f : Int))).bind k) Q := by
      intro β k Q h
      by_cases hd : digS s = []
      · have h0 : (digS s).length = 0 := by rw [hd]; rfl
        have e : decide ((s.length : Int) = (f : Int)) = true := decide_eq_true (by omega)
        refine Yld.g0 (by rw [e]; rfl) (h _ ?_)
        rw [e]
        exact ⟨fun _ => .inl hd, fun _ => rfl⟩
      · have hpos : 0 < (digS s).length := List.length_pos_iff.2 hd
        have e : decide ((s.length : Int) = (f : Int)) = false := decide_eq_false (by omega)
        refine Yld.g1 (by rw [e]; rfl) (Yld.idx (by omega) (by omega) (h _ ?_))
        have hg := hget (k := 0) hpos
        have ez : (f : Int) + ((0 : Nat) : Int) = (f : Int) := by omega
        rw [ez] at hg
        have hh : (digS s).head? = some (idx s (f : Int)) := by rw [hg, List.head?_eq_getElem?, List.getElem?_eq_getElem hpos]
        rw [e, Bool.false_or, Bool.and_eq_true, decide_eq_true_eq, u8_48]
        unfold illS
        rw [hh, Option.some.injEq]
        have key : idx s (f : Int) = 48 → ((sgnS s || decide (1 < (s.length : Int))) = true ↔ s ≠ [48]) := fun g => by
          cases hs : sgnS s with
          | true =>
            rw [Bool.true_or]
            refine ⟨fun _ e2 => ?_, fun _ => rfl⟩
            rw [e2] at hs
            exact absurd hs (by decide)
          | false =>
            rw [Bool.false_or, decide_eq_true_eq]
            rw [hs] at hf
            have hf0 : f = 0 := by rw [hf]; rfl
            subst hf0
            constructor
            · intro h1 e2
              rw [e2] at h1
              exact absurd h1 (by decide)
            · intro h1
              rcases (by omega : 1 < (s.length : Int) ∨ s.length = 1) with h2 | h2
              · exact h2
              · exfalso
                obtain ⟨c, rfl⟩ := List.length_eq_one_iff.1 h2
                exact h1 (by rw [show c = 48 from g])
        constructor
        · rintro ⟨g1, g2⟩; exact .inr ⟨g1, (key g1).1 g2⟩
        · intro g
          obtain ⟨g1, g2⟩ := g.resolve_left hd
          exact ⟨g1, (key g1).2 g2⟩
    refine hill fun c hc => Yld.ln ?_
    refine Yld.ite (fun h => ?_) (fun h => ?_)
    · exact Yld.bindE (rBad_y F) (Yld.some (.ill (hc.1 h)))
    · have hni : ¬ illS s := fun g => by rw [hc.2 g] at h; exact absurd h (by simp)
      refine Yld.bind (P := fun r => match r with | .inl _ => ∀ c ∈ digS s, isDig c | .inr z => RdS s z) (Yld.rounds (digS s).length (fun (k : Nat) (i : Int) => i = (f : Int) + (k : Int) ∧ ∀ m (hm : m < (digS s).length), m < k → isDig (digS s)[m]) (by omega) ⟨by omega, fun m _ h => absurd h (Nat.not_lt_zero m)⟩ ?_) ?_
      · rintro k i hk ⟨rfl, hd⟩
        refine Yld.ite (fun h => ?_) (fun h => ?_)
        · have hk' : k < (digS s).length := by have := of_decide_eq_true h; omega
          refine Yld.idx (by omega) (by omega) ?_
          rw [hget hk']
          refine Yld.bind (P := fun z => (decide (((digS s)[k].toNat : Int) < 48) || decide (57 < (z.toNat : Int))) = true ↔ ¬ isDig (digS s)[k]) ?_ ?_
          · by_cases g : ((digS s)[k].toNat : Int) < 48
            · rw [decide_eq_true g]
              refine ⟨default, rfl, ?_⟩
              dsimp only
              rw [Bool.true_or]
              exact ⟨fun _ h2 => by unfold isDig at h2; omega, fun _ => rfl⟩
            · rw [decide_eq_false g]
              refine ⟨(digS s)[k], ?_, ?_⟩
              · show idx? s _ = _
                unfold idx?
                rw [if_pos ⟨by omega, by omega⟩]
                exact congrArg some (hget hk')
              · dsimp only
                rw [Bool.false_or, decide_eq_true_eq]
                unfold isDig
                constructor
                · intro h1 h2; omega
                · intro h1
                  rcases (by omega : 57 < ((digS s)[k].toNat : Int) ∨ (digS s)[k].toNat ≤ 57) with h3 | h3
                  · exact h3
                  · exact absurd ⟨by omega, h3⟩ h1
          · intro z hz
            refine Yld.ln (Yld.ite (fun h => ?_) (fun h => ?_))
            · exact Yld.bindE (rBad_y F) (Yld.some (.inr ⟨_, rfl, .char hni _ (List.getElem_mem hk') (hz.1 h)⟩))
            · have hdk : isDig (digS s)[k] := by
                rcases Decidable.em (48 ≤ (digS s)[k].toNat ∧ (digS s)[k].toNat ≤ 57) with g | g
                · exact g
                · rw [hz.2 g] at h; exact absurd h (by simp)
              refine Yld.some (.inl ⟨_, rfl, ⟨by rw [wi64]; omega, fun m hm h2 => ?_⟩, hk'⟩)
              by_cases e : m = k
              · subst e; exact hdk
              · exact hd m hm (by omega)
        · have hk' : k = (digS s).length := by have := of_decide_eq_false h; omega
          subst hk'
          refine Yld.some (.inr ⟨_, rfl, fun c hc2 => ?_⟩)
          obtain ⟨m, hm, rfl⟩ := List.getElem_of_mem hc2
          exact hd m hm hm
      · rintro (u | z) hr
        · have hd : ∀ c ∈ digS s, isDig c := hr
          clear hr
          refine Yld.bind (P := fun r => match r with | .inl d => inD 65536 d ∧ d.length ≤ 32 ∧ lv d = (dv (digS s) : Int) | .inr z => RdS s z) (Yld.rounds (digS s).length (fun (k : Nat) (st : List Int × Int) => st.2 = (f : Int) + (k : Int) ∧ inD 65536 st.1 ∧ Tight st.1 ∧ st.1.length ≤ 32 ∧ lv st.1 = (dv ((digS s).take k) : Int)) (by omega) ⟨by dsimp only; omega, nil_in, fun h => absurd h (Nat.lt_irrefl 0), by simp, by rw [List.take_zero]; rfl⟩ ?_) ?_
          · rintro k ⟨d, kx⟩ hk ⟨rfl, din, dt, dl, hv⟩
            dsimp only at din dt dl hv
            dsimp only [un2]
            refine Yld.ite (fun h => ?_) (fun h => ?_)
            · have hk' : k < (digS s).length := by have := of_decide_eq_true h; omega
              have hcd := hd _ (List.getElem_mem hk')
              unfold isDig at hcd
              refine Yld.bind (times_y hF din (one_inD (by decide) (x := 10) (by decide)) (by omega) (by simp)) ?_
              rintro e ⟨e1, _, e2, e3⟩
              rw [lv_one] at e2
              refine Yld.idx (by omega) (by omega) ?_
              rw [hget hk']
              have hw : IntKind.i64.wrap ((IntKind.i64.wrap ((digS s)[k].toNat : Int)) - 48) = (((digS s)[k].toNat - 48 : Nat) : Int) := wrap48 hcd
              rw [hw]
              have hx : (0 : Int) ≤ (((digS s)[k].toNat - 48 : Nat) : Int) ∧ (((digS s)[k].toNat - 48 : Nat) : Int) < 65536 := small48 hcd
              refine Yld.bind (trim_y (by simp; omega) (by simp) (one_inD (by decide) hx)) ?_
              rintro g ⟨g1, _, g2, g3⟩
              rw [lv_one] at g2
              simp at e3 g3
              refine Yld.bind (rplus_y hF e1 g1 (by omega) (by omega)) ?_
              rintro r ⟨r1, r2, r3, r4⟩
              have hval : lv r = (dv ((digS s).take (k + 1)) : Int) := by rw [r3, e2, g2, hv, dv_take _ hk']; omega
              refine Yld.ite (fun h => ?_) (fun h => ?_)
              · have h' : 32 < r.length := by have := of_decide_eq_true h; omega
                have h3 := lv_ge r1 r2 (by omega)
                have h4 := pow_le65 (show 32 ≤ r.length - 1 by omega)
                have h5 := dv_mono (digS s) (show k + 1 ≤ (digS s).length by omega) (Nat.le_refl _)
                rw [List.take_length] at h5
                exact Yld.bindE (rBad_y F) (Yld.some (.inr ⟨_, rfl, .long hni hd (long_of h3 h4 hval h5)⟩))
              · have h' : r.length ≤ 32 := by have := of_decide_eq_false h; omega
                exact Yld.some (.inl ⟨_, rfl, ⟨by dsimp only; rw [wi64]; omega, r1, r2, h', hval⟩, hk'⟩)
            · have hk' : k = (digS s).length := by have := of_decide_eq_false h; omega
              subst hk'
              rw [List.take_length] at hv
              exact Yld.some (.inr ⟨_, rfl, din, dl, hv⟩)
          · rintro (d | z) hr
            · obtain ⟨din, dl, hv⟩ : inD 65536 d ∧ d.length ≤ 32 ∧ lv d = (dv (digS s) : Int) := hr
              have h1 := lv_lt din
              have h2 := pow_le65 dl
              refine Yld.bindE (num_y hF _ (by omega) din) (Yld.some ?_)
              rw [hv]
              exact .num hni hd (num_lt h1 h2 hv)
            · exact Yld.some hr
        · exact Yld.some hr
end Go.Proofs.YtaigaoifloldcaaDoor

/- The plain law of chapter 03: the seat's sanity, by reckoning. -/
namespace Go.Sk
def decK : Nat → Nat → Str
  | 0, _ => []
  | f + 1, u => if u < 10 then [UInt8.ofNat (48 + u)] else decK f (u / 10) ++ [UInt8.ofNat (48 + u % 10)]
theorem decK_eq : ∀ (f u : Nat), u < f → decK f u = Lib.decDigits u
  | 0, u, h => absurd h (Nat.not_lt_zero u)
  | f + 1, u, h => by
    rw [Lib.decDigits]
    unfold decK
    split
    · rfl
    · rw [decK_eq f (u / 10) (by omega)]
def itoaK (n : Int) : Str := if n < 0 then 45 :: decK (n.natAbs + 1) n.natAbs else decK (n.toNat + 1) n.toNat
theorem itoaK_eq (n : Int) : Lib.itoa n = itoaK n := by
  unfold itoaK Lib.itoa
  rw [decK_eq _ _ (Nat.lt_succ_self _), decK_eq _ _ (Nat.lt_succ_self _)]
def itoaK? (n : Int) : Option Str := if (itoaK n).length ≤ 1000000000 then some (itoaK n) else none
theorem itoaK?_eq : itoa? = itoaK? := by
  funext n
  unfold itoa? itoaK?
  rw [itoaK_eq]
end Go.Sk
namespace Go.Proofs.YtaigaoifloldcaaDoor
open Go Go.Sk
set_option maxRecDepth 100000
def FF : Nat := 13407807929942597099574024998205846127479365820592393377723561443721764030073546976801874298166903427690031858186486050853753882811946569946433649006084097
theorem FF1 : 100 < FF := by decide +kernel
theorem FF2 : 100000 < FF := by decide +kernel
theorem itoa_S_K : strconv_Itoa_S = fun _ n => itoaK? n := by
  funext F n
  unfold strconv_Itoa_S
  rw [itoaK?_eq]
theorem sane_text : whole_Text_S FF (big 1208925819614629174706176) = some [49, 50, 48, 56, 57, 50, 53, 56, 49, 57, 54, 49, 52, 54, 50, 57, 49, 55, 52, 55, 48, 54, 49, 55, 54] := by
  unfold whole_Text_S
  rw [itoa_S_K]
  decide +kernel
theorem sane_of : whole_Of_S FF 1099511627776 = some (big 1099511627776) := by decide +kernel
theorem sane_mul : whole_Mul_S FF (big 1099511627776) (big 1099511627776) = some (big 1208925819614629174706176) := by decide +kernel
theorem bind_eq {α β : Type} {o : Option α} {a : α} {f : α → Option β} {r : Option β} (h : o = some a) (hr : f a = r) : Option.bind o f = r := by rw [h]; exact hr
theorem sanity_y : skewbacklaw03_sanity_S FF = some true := by
  unfold skewbacklaw03_sanity_S
  refine bind_eq sane_of (bind_eq (a := big 7) (by decide +kernel) (bind_eq (a := big 2) (by decide +kernel) (bind_eq sane_mul (bind_eq sane_text ?_))))
  decide +kernel
end Go.Proofs.YtaigaoifloldcaaDoor

/- The plain law of chapter 03: what an argument brings. -/
namespace Go.Proofs.YtaigaoifloldcaaDoor
open Go Go.Sk
theorem inB_of {x : Big} {h : PH} {v : Value} (hx : (BV.agg (eBig x)).rel h (fun _ => .bool false) v) : inB x := by
  obtain ⟨cs, _, hr⟩ := hx
  unfold eBig at hr
  generalize cs.toList = L at hr
  cases hr with
  | cons _ hr =>
    cases hr with
    | cons _ hr =>
      have := ints_of_rel hr
      intro i
      by_cases hi : i < x.W.l.length
      · have h1 := this x.W.l[i] (List.getElem_mem hi)
        have e : dg x.W.l i = x.W.l[i] := by simp [dg, List.getD, List.getElem?_eq_getElem hi]
        rw [e]
        have h2 : 0 ≤ x.W.l[i] ∧ x.W.l[i] ≤ 4294967295 := by simpa [inR, IntKind.min, IntKind.max, IntKind.signed, IntKind.bits] using h1
        omega
      · rw [dg_ge (by omega)]; decide
theorem in16_of {x : Int} {h : PH} {v : Value} (hx : (BV.one (.int .u16 x)).rel h (fun _ => .bool false) v) : 0 ≤ x ∧ x ≤ 65535 := by
  have h1 : v = .int .u16 x ∧ inR .u16 x := hx
  simpa [inR, IntKind.min, IntKind.max, IntKind.signed, IntKind.bits] using h1.2
theorem in64_of {x : Int} {h : PH} {v : Value} (hx : (BV.one (.int .i64 x)).rel h (fun _ => .bool false) v) : -9223372036854775808 ≤ x ∧ x ≤ 9223372036854775807 := by
  have h1 : v = .int .i64 x ∧ inR .i64 x := hx
  exact inR_i64_iff.1 h1.2
end Go.Proofs.YtaigaoifloldcaaDoor

/- The plain law of chapter 03: texts. -/
namespace Go.Sk
set_option linter.unusedSimpArgs false
set_option linter.unusedVariables false
open Go
theorem head_dig (u : Nat) : (Lib.decDigits u).head? ≠ some 45 := fun h => by
  have hne := (dd_head u).1
  have hm : (45 : UInt8) ∈ Lib.decDigits u := List.mem_of_head? h
  have := dd_dig u _ hm
  unfold isDig at this
  exact absurd this.1 (by decide)
/-- the text of a number reads as it -/
theorem rds_itoa {a : Int} (ra : -MM < a ∧ a < MM) : RdS (Lib.itoa a) (big a, 0) := by
  by_cases h : a < 0
  · have e : Lib.itoa a = 45 :: Lib.decDigits a.natAbs := by unfold Lib.itoa; rw [if_pos h]
    have hs : sgnS (Lib.itoa a) = true := by rw [e]; rfl
    have hd : digS (Lib.itoa a) = Lib.decDigits a.natAbs := by unfold digS; rw [hs, e]; rfl
    have hv : dv (digS (Lib.itoa a)) = a.natAbs := by rw [hd, dv_dd]
    have hn : ¬ illS (Lib.itoa a) := fun hh => by
      unfold illS at hh
      rw [hd] at hh
      rcases hh with g | ⟨g, _⟩
      · exact (dd_head a.natAbs).1 g
      · have h1 := (dd_head a.natAbs).2 g
        have h2 := dv_dd a.natAbs
        rw [h1] at h2
        have h3 : dv [48] = 0 := rfl
        omega
    have := RdS.num hn (by rw [hd]; exact dd_dig _) (by rw [hv]; omega)
    rw [hs, hv, if_pos rfl] at this
    have e2 : -(a.natAbs : Int) = a := by omega
    rw [e2] at this
    exact this
  · have e : Lib.itoa a = Lib.decDigits a.toNat := itoa_nn (by omega)
    have hs : sgnS (Lib.itoa a) = false := by rw [e]; unfold sgnS; exact decide_eq_false (head_dig _)
    have hd : digS (Lib.itoa a) = Lib.decDigits a.toNat := by unfold digS; rw [hs, e]; rfl
    have hv : dv (digS (Lib.itoa a)) = a.toNat := by rw [hd, dv_dd]
    have hn : ¬ illS (Lib.itoa a) := fun hh => by
      unfold illS at hh
      rw [hd] at hh
      rcases hh with g | ⟨g, g2⟩
      · exact (dd_head a.toNat).1 g
      · exact g2 (by rw [e]; exact (dd_head a.toNat).2 g)
    have := RdS.num hn (by rw [hd]; exact dd_dig _) (by rw [hv]; omega)
    rw [hs, hv, if_neg (by decide)] at this
    have e2 : (a.toNat : Int) = a := by omega
    rw [e2] at this
    exact this
theorem itoa_rds {s : Str} {p : Big} (h : RdS s (p, 0)) : ∃ a, p = big a ∧ (-MM < a ∧ a < MM) ∧ Lib.itoa a = s := by
  cases h with
  | num hn hd hv =>
    have hnl : NoLead (digS s) := by
      refine ⟨fun e => hn (.inl e), fun e => ?_⟩
      have h1 : s = [48] := by
        rcases Decidable.em (s = [48]) with g | g
        · exact g
        · exact absurd (.inr ⟨e, g⟩) hn
      rw [h1]; rfl
    have hdd := dd_dv _ hd hnl
    cases hs : sgnS s with
    | true =>
      have hp : 0 < dv (digS s) := by
        rcases (by omega : 0 < dv (digS s) ∨ dv (digS s) = 0) with g | g
        · exact g
        · exfalso
          rw [g] at hdd
          have h0 : Lib.decDigits 0 = [48] := dd_small (by decide)
          refine hn (.inr ⟨by rw [← hdd, h0]; rfl, fun e => ?_⟩)
          rw [e] at hs
          exact absurd hs (by decide)
      refine ⟨-(dv (digS s) : Int), by rw [if_pos rfl], by omega, ?_⟩
      unfold Lib.itoa
      have e2 : (-(dv (digS s) : Int)).natAbs = dv (digS s) := by omega
      rw [if_pos (by omega), e2, hdd]
      unfold digS
      rw [hs, if_pos rfl]
      unfold sgnS at hs
      cases s with
      | nil => simp at hs
      | cons c r =>
        have h3 := of_decide_eq_true hs
        have h4 : c = 45 := Option.some.inj h3
        rw [h4]; rfl
    | false =>
      refine ⟨(dv (digS s) : Int), by rw [if_neg (by decide)], by omega, ?_⟩
      rw [itoa_nn (by omega), Int.toNat_natCast, hdd]
      unfold digS
      rw [hs]; rfl
theorem itoa_len {a : Int} (ra : -MM < a ∧ a < MM) : (Lib.itoa a).length ≤ 500 := by
  by_cases h : a < 0
  · have h1 := dd_MM (a := -a) (by omega)
    have e : (-a).toNat = a.natAbs := by omega
    rw [e] at h1
    unfold Lib.itoa; rw [if_pos h, List.length_cons]; omega
  · have h1 := dd_MM (a := a) ra.2
    rw [itoa_nn (by omega)]; omega
end Go.Sk
namespace Go.Proofs.YtaigaoifloldcaaDoor
open Go Go.Sk
set_option linter.unusedSimpArgs false
set_option linter.unusedVariables false
theorem texts_y {x : Big} {s : Str} (hx : inB x) : skewbacklaw03_WholeTextsMatchSpec_S FF x s = some true := by
  refine Yld.eq ?_
  unfold skewbacklaw03_WholeTextsMatchSpec_S
  refine Yld.ite (fun h => ?_) (fun h => ?_)
  · exact Yld.bindE sanity_y (Yld.some rfl)
  · have hl : s.length ≤ 500 := by have := of_decide_eq_false h; omega
    obtain ⟨t, ht⟩ : ∃ t, t = (match iv x with | some a => Lib.itoa a | none => []) := ⟨_, rfl⟩
    have h1 : whole_Text_S FF x = some t := by rw [Text_y FF2 hx, ht]; try (cases iv x <;> rfl)
    have h2 : skewbackref03_Text_S FF x = some t := by rw [rText_y FF2 hx, ht]; try (cases iv x <;> rfl)
    refine Yld.bindE h1 (Yld.bindE h2 (Yld.iff (by simp) ?_))
    refine Yld.bind (P := fun r => r = .inl ()) ?_ ?_
    · refine Yld.bindE (rGood_y FF2 hx) ?_
      cases ha : iv x with
      | none => rw [iv_none ha]; exact Yld.iff rfl (Yld.some rfl)
      | some a =>
        obtain ⟨ga, rfl, ra⟩ := iv_some hx ha
        rw [ha] at ht
        have ht' : t = Lib.itoa a := ht
        rw [ga, ht']
        refine Yld.ift rfl (Yld.bind (Parse_y FF2 (itoa_len ra)) ?_)
        intro z hz
        have := RdS.one hz (rds_itoa ra)
        rw [this]
        dsimp only [un2]
        exact Yld.iff (by simp) (Yld.some rfl)
    · intro r hr
      rw [hr]
      refine Yld.bind (Parse_y FF2 hl) ?_
      rintro ⟨p, e⟩ hp
      refine Yld.bind (rParse_y FF2 hl) ?_
      intro z hz
      rw [RdS.one hz hp]
      dsimp only [un2]
      refine Yld.bindE sanity_y ?_
      have d1 : decide (p = p) = true := by simp
      have d2 : decide (e = e) = true := by simp
      rw [d1, d2]
      by_cases he : e = 0
      · subst he
        obtain ⟨a, rfl, ra, hs⟩ := itoa_rds hp
        have h3 : whole_Text_S FF (big a) = some s := by rw [Text_y FF2 (big_in a), iv_big ra, ← hs]
        refine Yld.g1 (by simp) (Yld.bindE h3 (Yld.ln (Yld.some ?_)))
        simp
      · have d3 : decide (e ≠ 0) = true := decide_eq_true he
        rw [d3]
        exact Yld.g0 rfl (Yld.ln (Yld.some rfl))
end Go.Proofs.YtaigaoifloldcaaDoor

/- The statement's contract. -/
namespace Go.Proofs.YtaigaoifloldcaaDoor
open Go Go.Sk
theorem texts_law (x : Big) (s : Str) (hx : inB x) : Meets Tryd.prog tabs 5 [] [.agg (eBig x), .one (.str s)] (Is [] (.b (.one (.bool true)))) :=
  skewbacklaw03_WholeTextsMatchSpec_spec (texts_y hx)
end Go.Proofs.YtaigaoifloldcaaDoor
