/- The plain law of chapter 03, part a: numbers of 16 digits. -/
import Derived.Test.YtaigaoifloldcaaDoorW3
namespace Go.Sk
set_option linter.unusedSimpArgs false
set_option linter.unusedVariables false
/-- all digits are digits -/
def inD (b : Int) (l : List Int) : Prop := ∀ i, 0 ≤ dg l i ∧ dg l i < b
def MM : Int := 4294967296 ^ 16
theorem MM_eq : MM = 13407807929942597099574024998205846127479365820592393377723561443721764030073546976801874298166903427690031858186486050853753882811946569946433649006084096 := by decide +kernel
theorem MM_pos : 0 < MM := by rw [MM_eq]; decide
def av (w : A16) : Int := ds 4294967296 (dg w.l) 16
def toA (z : Int) : A16 := .of ((List.range 16).map fun i => nd 4294967296 z i)
theorem toA_l (z : Int) : (toA z).l = (List.range 16).map fun i => nd 4294967296 z i := A16.l_of (by simp)
theorem toA_dg (z : Int) {i : Nat} (h : i < 16) : dg (toA z).l i = nd 4294967296 z i := by
  rw [toA_l]
  unfold dg
  rw [List.getD_eq_getElem?_getD, List.getElem?_map, List.getElem?_range h]
  rfl
theorem nd_range (b z : Int) (hb : 0 < b) (i : Nat) : 0 ≤ nd b z i ∧ nd b z i < b := ⟨Int.emod_nonneg _ (by omega), Int.emod_lt_of_pos _ hb⟩
theorem toA_in (z : Int) : inD 4294967296 (toA z).l := fun i => by
  by_cases h : i < 16
  · rw [toA_dg z h]; exact nd_range _ _ (by decide) i
  · rw [dg_ge (by rw [A16.l_len]; omega)]; decide
theorem av_toA (z : Int) : av (toA z) = z % MM := by
  unfold av
  rw [ds_congr (g := nd 4294967296 z) fun i hi => toA_dg z hi, ds_nd (by decide)]
  rfl
theorem av_range {w : A16} (h : inD 4294967296 w.l) : 0 ≤ av w ∧ av w < MM := ⟨ds_nonneg (by decide) fun i _ => (h i).1, ds_lt (by decide) fun i _ => h i⟩
theorem av_inj {v w : A16} (hv : inD 4294967296 v.l) (hw : inD 4294967296 w.l) (h : av v = av w) : v = w := by
  rw [← A16.l_inj]
  refine dg_ext rfl fun i hi => ?_
  exact ds_inj (by decide) (fun i _ => hv i) (fun i _ => hw i) h i hi
theorem toA_av {w : A16} (h : inD 4294967296 w.l) : toA (av w) = w := by
  refine av_inj (toA_in _) h ?_
  rw [av_toA]
  exact Int.emod_eq_of_lt (av_range h).1 (av_range h).2
theorem eq_toA {w : A16} {z : Int} (h : inD 4294967296 w.l) (hz : av w = z) : w = toA z := by rw [← hz, toA_av h]
theorem eq_toA' {w : A16} {z : Int} (h : inD 4294967296 w.l) (hz : av w = z % MM) : w = toA z := av_inj h (toA_in z) (by rw [hz, av_toA])
theorem zero_in : inD 4294967296 A16.zero.l := fun i => by
  have : A16.zero.l = List.replicate 16 0 := rfl
  rw [this, dg_replicate]; decide
theorem av_zero : av A16.zero = 0 := ds_zero fun i _ => by
  have : A16.zero.l = List.replicate 16 0 := rfl
  rw [this, dg_replicate]
theorem zero_eq : A16.zero = toA 0 := eq_toA zero_in av_zero
theorem zero_iff {w : A16} (h : inD 4294967296 w.l) : w = A16.zero ↔ av w = 0 := ⟨fun e => by rw [e, av_zero], fun e => av_inj h zero_in (by rw [e, av_zero])⟩
theorem set_in {w : A16} {i x : Int} (h : inD 4294967296 w.l) (h0 : 0 ≤ i) (h1 : i < 16) (hx : 0 ≤ x ∧ x < 4294967296) : inD 4294967296 (w.set i x).l := fun j => by
  rw [A16.set_l, dg_set (by rw [A16.l_len]; omega)]
  split
  · exact hx
  · exact h j
theorem set_dg {w : A16} {i x : Int} (h0 : 0 ≤ i) (h1 : i < 16) (j : Nat) : dg (w.set i x).l j = if j = i.toNat then x else dg w.l j := by
  rw [A16.set_l, dg_set (by rw [A16.l_len]; omega)]
theorem ds_upd {b x : Int} {f g : Nat → Int} {k : Nat} (h : ∀ i, g i = if i = k then x else f i) : ds b g (k + 1) = ds b f k + x * b ^ k := by
  show ds b g k + g k * b ^ k = _
  rw [ds_congr (g := f) fun i hi => by rw [h i, if_neg (by omega)], h k, if_pos rfl]
theorem A16.ds_set {b : Int} {w : A16} {k : Nat} {x : Int} (h : k < 16) : ds b (dg (w.set (k : Int) x).l) (k + 1) = ds b (dg w.l) k + x * b ^ k := ds_upd fun i => by rw [set_dg (by omega) (by omega), Int.toNat_natCast]
theorem carry_step {b A Bb O c x c' ak bk : Int} {k : Nat} (h : A + Bb = O + c * b ^ k) (e : c + ak + bk = x + c' * b) : (A + ak * b ^ k) + (Bb + bk * b ^ k) = (O + x * b ^ k) + c' * b ^ (k + 1) := by
  rw [Int.pow_succ]
  grind
theorem borrow_step {b A Bb O c x c' ak bk : Int} {k : Nat} (h : A + c * b ^ k = Bb + O) (e : ak - bk - c = x - c' * b) : (A + ak * b ^ k) + c' * b ^ (k + 1) = (Bb + bk * b ^ k) + (O + x * b ^ k) := by
  rw [Int.pow_succ]
  grind
end Go.Sk
namespace Go.Proofs.YtaigaoifloldcaaDoor
open Go Go.Sk
set_option linter.unusedSimpArgs false
set_option linter.unusedVariables false

theorem plus_y {F : Nat} (hF : 100 < F) {a b : A16} (ha : inD 4294967296 a.l) (hb : inD 4294967296 b.l) : whole_plus_S F a b = some (toA (av a + av b), decide (av a + av b < MM)) := by
  refine Yld.eq ?_
  unfold whole_plus_S
  refine Yld.bind (P := fun r => inD 4294967296 r.1.l ∧ 0 ≤ r.2 ∧ r.2 ≤ 1 ∧ av a + av b = av r.1 + r.2 * MM) (Yld.rounds 16 (fun k s => s.2.2 = (k : Int) ∧ inD 4294967296 s.1.l ∧ 0 ≤ s.2.1 ∧ s.2.1 ≤ 1 ∧ ds 4294967296 (dg a.l) k + ds 4294967296 (dg b.l) k = ds 4294967296 (dg s.1.l) k + s.2.1 * 4294967296 ^ k) (by omega) ⟨rfl, zero_in, by decide, by decide, rfl⟩ ?_) ?_
  · rintro k ⟨out, c, i⟩ hk ⟨rfl, hin, hc0, hc1, hs⟩
    dsimp only at hin hc0 hc1 hs
    dsimp only [un3]
    refine Yld.ite (fun h => ?_) (fun h => ?_)
    · have hk' : k < 16 := by have := of_decide_eq_true h; omega
      refine Yld.idx (by omega) (by rw [A16.l_len]; omega) (Yld.idx (by omega) (by rw [A16.l_len]; omega) (Yld.ln (Yld.idx (by omega) (by rw [A16.l_len]; omega) (Yld.ln (Yld.some (.inl ⟨_, rfl, ?_, hk'⟩))))))
      have h1 := ha k
      have h2 := hb k
      simp only [idx_dg, Int.toNat_natCast, wu64, wu32, wi64]
      refine ⟨by omega, set_in hin (by omega) (by omega) (by constructor <;> omega), by omega, by omega, ?_⟩
      rw [ds_succ, ds_succ, A16.ds_set hk']
      exact carry_step hs (by omega)
    · have hk' : k = 16 := by have := of_decide_eq_false h; omega
      subst hk'
      exact Yld.some (.inr ⟨_, rfl, hin, hc0, hc1, hs⟩)
  · rintro ⟨out, c⟩ ⟨hin, hc0, hc1, hs⟩
    dsimp only at hin hc0 hc1 hs
    have hr := av_range hin
    refine Yld.some ?_
    have e1 : out = toA (av a + av b) := eq_toA' hin (by rw [hs, Int.add_mul_emod_self_right, Int.emod_eq_of_lt hr.1 hr.2])
    rw [← e1]
    congr 1
    rw [decide_eq_decide]
    rw [MM_eq] at *
    omega

theorem minus_y {F : Nat} (hF : 100 < F) {a b : A16} (ha : inD 4294967296 a.l) (hb : inD 4294967296 b.l) (hle : av b ≤ av a) : whole_minus_S F a b = some (toA (av a - av b)) := by
  refine Yld.eq ?_
  unfold whole_minus_S
  refine Yld.bind (P := fun r => inD 4294967296 r.l ∧ ∃ c : Int, 0 ≤ c ∧ c ≤ 1 ∧ av a + c * MM = av b + av r) (Yld.rounds 16 (fun k s => s.2.2 = (k : Int) ∧ inD 4294967296 s.1.l ∧ 0 ≤ s.2.1 ∧ s.2.1 ≤ 1 ∧ ds 4294967296 (dg a.l) k + s.2.1 * 4294967296 ^ k = ds 4294967296 (dg b.l) k + ds 4294967296 (dg s.1.l) k) (by omega) ⟨rfl, zero_in, by decide, by decide, rfl⟩ ?_) ?_
  · rintro k ⟨out, c, i⟩ hk ⟨rfl, hin, hc0, hc1, hs⟩
    dsimp only at hin hc0 hc1 hs
    dsimp only [un3]
    refine Yld.ite (fun h => ?_) (fun h => ?_)
    · have hk' : k < 16 := by have := of_decide_eq_true h; omega
      refine Yld.idx (by omega) (by rw [A16.l_len]; omega) (Yld.idx (by omega) (by rw [A16.l_len]; omega) (Yld.ln (Yld.idx (by omega) (by rw [A16.l_len]; omega) (Yld.ln (Yld.some (.inl ⟨_, rfl, ?_, hk'⟩))))))
      have h1 := ha k
      have h2 := hb k
      simp only [idx_dg, Int.toNat_natCast, wu64, wu32, wi64]
      refine ⟨by omega, set_in hin (by omega) (by omega) (by constructor <;> omega), by omega, by omega, ?_⟩
      rw [ds_succ, ds_succ, A16.ds_set hk']
      exact borrow_step hs (by omega)
    · have hk' : k = 16 := by have := of_decide_eq_false h; omega
      subst hk'
      exact Yld.some (.inr ⟨_, rfl, hin, _, hc0, hc1, hs⟩)
  · rintro out ⟨hin, c, hc0, hc1, hs⟩
    have hr := av_range hin
    have ra := av_range ha
    have rb := av_range hb
    refine Yld.some (eq_toA hin ?_)
    have : c = 0 := by
      rcases (by omega : c = 0 ∨ c = 1) with h | h
      · exact h
      · subst h; omega
    subst this
    omega

/-- the order of digits, from the highest one down -/
theorem ds_lt_of {b : Int} (hb : 0 < b) {f g : Nat → Int} {n k : Nat} (hk : k < n) (hf : ∀ i, 0 ≤ f i ∧ f i < b) (hg : ∀ i, 0 ≤ g i ∧ g i < b) (he : ∀ i, k < i → i < n → f i = g i) (hl : f k < g k) : ds b f n < ds b g n := by
  have e : n = (k + 1) + (n - (k + 1)) := by omega
  rw [e, ds_split, ds_split b g]
  have h1 : ds b (fun i => f (k + 1 + i)) (n - (k + 1)) = ds b (fun i => g (k + 1 + i)) (n - (k + 1)) := ds_congr fun i hi => he _ (by omega) (by omega)
  rw [h1]
  have h2 : ds b f (k + 1) < ds b g (k + 1) := by
    rw [ds_succ, ds_succ]
    have h3 := ds_lt hb (n := k) fun i _ => hf i
    have h4 := ds_nonneg hb (n := k) fun i _ => (hg i).1
    have h5 : (f k + 1) * b ^ k ≤ g k * b ^ k := Int.mul_le_mul_of_nonneg_right hl (Int.le_of_lt (Int.pow_pos hb))
    rw [Int.add_mul, Int.one_mul] at h5
    omega
  omega
theorem compare_y (F : Nat) (x y : Int) : cmp_Compare_S F x y = some (if x < y then -1 else if y < x then 1 else 0) := by
  unfold cmp_Compare_S cmp_isNaN_S
  simp
  split
  · rfl
  · split <;> rfl
theorem order_y {F : Nat} (hF : 100 < F) {a b : A16} (ha : inD 4294967296 a.l) (hb : inD 4294967296 b.l) : whole_order_S F a b = some (if av a < av b then -1 else if av b < av a then 1 else 0) := by
  refine Yld.eq ?_
  unfold whole_order_S
  refine Yld.bind (P := fun r => match r with | .inl _ => a = b | .inr y => y = if av a < av b then -1 else if av b < av a then 1 else 0) (Yld.rounds 16 (fun k s => s = 15 - (k : Int) ∧ ∀ i, 15 < i + k → i < 16 → dg a.l i = dg b.l i) (by omega) ⟨rfl, fun i h1 h2 => by omega⟩ ?_) ?_
  · rintro k i hk ⟨rfl, he⟩
    refine Yld.ite (fun h => ?_) (fun h => ?_)
    · have hk' : k < 16 := by have := of_decide_eq_true h; omega
      have et : (15 - (k : Int)).toNat = 15 - k := by omega
      refine Yld.idx (by omega) (by rw [A16.l_len]; omega) (Yld.idx (by omega) (by rw [A16.l_len]; omega) (Yld.ite (fun hne => ?_) (fun heq => ?_)))
      · refine Yld.idx (by omega) (by rw [A16.l_len]; omega) (Yld.idx (by omega) (by rw [A16.l_len]; omega) (Yld.bindE (compare_y _ _ _) (Yld.some (.inr ⟨_, rfl, ?_⟩))))
        have hne' := of_decide_eq_true hne
        simp only [idx_dg, et] at hne' ⊢
        rcases Int.lt_trichotomy (dg a.l (15 - k)) (dg b.l (15 - k)) with h1 | h1 | h1
        · have := ds_lt_of (b := 4294967296) (n := 16) (k := 15 - k) (by decide) (by omega) ha hb (fun i h2 h3 => he i (by omega) h3) h1
          have h' : av a < av b := this
          rw [if_pos h1, if_pos h']
        · exact absurd h1 hne'
        · have := ds_lt_of (b := 4294967296) (n := 16) (k := 15 - k) (by decide) (by omega) hb ha (fun i h2 h3 => (he i (by omega) h3).symm) h1
          have h' : av b < av a := this
          rw [if_neg (by omega), if_pos h1, if_neg (by omega), if_pos h']
      · have heq' : idx a.l (15 - (k : Int)) = idx b.l (15 - (k : Int)) := by simpa using heq
        simp only [idx_dg, et] at heq'
        refine Yld.some (.inl ⟨_, rfl, ⟨by rw [wi64]; omega, fun i h1 h2 => ?_⟩, hk'⟩)
        by_cases e : i = 15 - k
        · rw [e]; exact heq'
        · exact he i (by omega) h2
    · have hk' : k = 16 := by have := of_decide_eq_false h; omega
      subst hk'
      refine Yld.some (.inr ⟨_, rfl, ?_⟩)
      show a = b
      rw [← A16.l_inj]
      exact dg_ext rfl fun i hi => he i (by omega) hi
  · rintro (u | y) h
    · have h' : a = b := h
      subst h'
      exact Yld.some (by simp)
    · exact Yld.some h
/-- how many digits there are below the highest one that is not 0 -/
theorem size_y {F : Nat} (hF : 100 < F) {w : A16} : Yld (whole_size_S F w) fun n => 0 ≤ n ∧ n ≤ 16 ∧ (∀ i, n.toNat ≤ i → i < 16 → dg w.l i = 0) ∧ (0 < n → dg w.l (n.toNat - 1) ≠ 0) := by
  unfold whole_size_S
  refine Yld.bind (P := fun n => 0 ≤ n ∧ n ≤ 16 ∧ (∀ i, n.toNat ≤ i → i < 16 → dg w.l i = 0) ∧ (0 < n → dg w.l (n.toNat - 1) ≠ 0)) (Yld.rounds 16 (fun k s => s = 16 - (k : Int) ∧ ∀ i, 16 - k ≤ i → i < 16 → dg w.l i = 0) (by omega) ⟨rfl, fun i h1 h2 => by omega⟩ ?_) (fun x h => Yld.some h)
  rintro k n hk ⟨rfl, he⟩
  by_cases hk' : k < 16
  · have hw : IntKind.i64.wrap (16 - (k : Int) - 1) = 15 - (k : Int) := by rw [wi64]; omega
    have et : (15 - (k : Int)).toNat = 15 - k := by omega
    have hd : decide (0 < 16 - (k : Int)) = true := decide_eq_true (by omega)
    refine Yld.g1 hd (Yld.idx (by rw [hw]; omega) (by rw [hw, A16.l_len]; omega) ?_)
    rw [hw, hd]
    simp only [idx_dg, et, Bool.true_and]
    refine Yld.ite (fun h => ?_) (fun h => ?_)
    · have h' := of_decide_eq_true h
      refine Yld.some (.inl ⟨_, rfl, ⟨by omega, fun i h1 h2 => ?_⟩, hk'⟩)
      by_cases e : i = 15 - k
      · rw [e]; exact h'
      · exact he i (by omega) h2
    · have h' := of_decide_eq_false h
      refine Yld.some (.inr ⟨_, rfl, by omega, by omega, fun i h1 h2 => he i (by omega) h2, fun _ => ?_⟩)
      have : (16 - (k : Int)).toNat - 1 = 15 - k := by omega
      rw [this]; exact h'
  · have hk2 : k = 16 := by omega
    subst hk2
    refine Yld.g0 (by decide) ?_
    refine Yld.iff (by simp) (Yld.some (.inr ⟨_, rfl, by decide, by decide, fun i _ h2 => he i (by omega) h2, fun h => by simp at h⟩))
end Go.Proofs.YtaigaoifloldcaaDoor

/- The plain law of chapter 03, part b: integers; sums, signs, comparisons. -/
namespace Go.Sk
set_option linter.unusedSimpArgs false
set_option linter.unusedVariables false
def bad : Big := ⟨true, false, A16.zero⟩
/-- the number z; bad if it has too many bits -/
def big (z : Int) : Big := if -MM < z ∧ z < MM then ⟨false, decide (z < 0), toA (if z < 0 then -z else z)⟩ else bad
def toB : Option Int → Big
  | some z => big z
  | none => bad
def inB (x : Big) : Prop := inD 4294967296 x.W.l
def goodB (x : Big) : Bool := !x.Bad && (!decide (x.W = A16.zero) || !x.Neg)
def sv (x : Big) : Int := if x.Neg = true then -av x.W else av x.W
/-- the number that x is, if it is one -/
def iv (x : Big) : Option Int := if goodB x = true then some (sv x) else none
theorem bad_in : inB bad := zero_in
theorem big_in (z : Int) : inB (big z) := by
  unfold big; split
  · exact toA_in _
  · exact bad_in
theorem goodB_bad : goodB bad = false := rfl
theorem iv_bad : iv bad = none := rfl
theorem toA_zero_iff {m : Int} (h0 : 0 ≤ m) (h1 : m < MM) : toA m = A16.zero ↔ m = 0 := by
  rw [zero_iff (toA_in _), av_toA, Int.emod_eq_of_lt h0 h1]
theorem goodB_big {z : Int} (h : -MM < z ∧ z < MM) : goodB (big z) = true := by
  unfold big
  rw [if_pos h]
  by_cases hz : z < 0
  · have : ¬ toA (-z) = A16.zero := by rw [toA_zero_iff (by omega) (by omega)]; omega
    simp [goodB, hz, this]
  · simp [goodB, hz]
theorem iv_big {z : Int} (h : -MM < z ∧ z < MM) : iv (big z) = some z := by
  unfold iv
  rw [if_pos (goodB_big h)]
  unfold big sv
  rw [if_pos h]
  by_cases hz : z < 0
  · simp only [hz, decide_true, if_true]
    rw [av_toA, Int.emod_eq_of_lt (by omega) (by omega)]; simp
  · simp only [hz, decide_false, if_false]
    rw [av_toA, Int.emod_eq_of_lt (by omega) (by omega)]; simp
theorem big_out {z : Int} (h : ¬ (-MM < z ∧ z < MM)) : big z = bad := if_neg h
theorem sv_range {x : Big} (h : inB x) : -MM < sv x ∧ sv x < MM := by
  have := av_range h
  unfold sv
  split <;> omega
/-- a good number is the number that it is -/
theorem big_sv {x : Big} (h : inB x) (hg : goodB x = true) : x = big (sv x) := by
  have hr := sv_range h
  have ha := av_range h
  unfold big
  rw [if_pos hr]
  simp only [goodB, Bool.and_eq_true, Bool.not_eq_true', Bool.or_eq_true, decide_eq_false_iff_not] at hg
  obtain ⟨hb, hz⟩ := hg
  cases x with
  | mk B N W =>
    dsimp only [sv] at *
    subst hb
    cases N with
    | false =>
      have h1 : ¬ av W < 0 := by omega
      simp only [Bool.false_eq_true, if_false, h1, decide_false]
      rw [toA_av h]
    | true =>
      have hw : ¬ W = A16.zero := by simpa using hz
      have h2 : av W ≠ 0 := fun e => hw ((zero_iff h).2 e)
      have h1 : -av W < 0 := by omega
      simp only [if_true, h1, decide_true]
      rw [Int.neg_neg, toA_av h]
theorem iv_some {x : Big} {z : Int} (h : inB x) (hz : iv x = some z) : goodB x = true ∧ x = big z ∧ -MM < z ∧ z < MM := by
  unfold iv at hz
  split at hz
  · next hg =>
    cases hz
    exact ⟨hg, big_sv h hg, sv_range h⟩
  · simp at hz
theorem iv_none {x : Big} (hz : iv x = none) : goodB x = false := by
  unfold iv at hz
  split at hz
  · simp at hz
  · next hg => simpa using hg
theorem iv_big' (z : Int) : iv (big z) = if -MM < z ∧ z < MM then some z else none := by
  split
  · next h => exact iv_big h
  · next h => rw [big_out h, iv_bad]
theorem big_Bad {z : Int} : (big z).Bad = !decide (-MM < z ∧ z < MM) := by
  unfold big
  split
  · next h => simp [h]
  · next h => simp [h, bad]
theorem toB_in (o : Option Int) : inB (toB o) := by cases o; exact bad_in; exact big_in _
theorem big_inj {a b : Int} (ha : -MM < a ∧ a < MM) (hb : -MM < b ∧ b < MM) : big a = big b ↔ a = b := ⟨fun h => by
  have := congrArg iv h
  rw [iv_big ha, iv_big hb] at this
  exact Option.some.inj this, fun h => by rw [h]⟩
end Go.Sk
namespace Go.Proofs.YtaigaoifloldcaaDoor
open Go Go.Sk
set_option linter.unusedSimpArgs false
set_option linter.unusedVariables false
theorem Valid_y (F : Nat) (x : Big) : whole_Valid_S F x = some (if x.Bad = true then decide (x.W = A16.zero) && !x.Neg else !decide (x.W = A16.zero) || !x.Neg) := by
  unfold whole_Valid_S
  split <;> rfl
theorem good_y {F : Nat} (l : List Big) (hF : l.length < F) (hl : l.length ≤ 1000) : whole_good_S F l = some (l.all goodB) := by
  refine Yld.eq ?_
  unfold whole_good_S
  refine Yld.bind (P := fun r => match r with | .inl _ => l.all goodB = true | .inr y => y = false ∧ l.all goodB = false) (Yld.rounds l.length (fun k s => s = (k : Int) ∧ (l.take k).all goodB = true) hF ⟨rfl, by simp⟩ ?_) ?_
  · rintro k i hk ⟨rfl, he⟩
    refine Yld.ite (fun h => ?_) (fun h => ?_)
    · have hk' : k < l.length := by have := of_decide_eq_true h; omega
      refine Yld.idx (by omega) (by omega) ?_
      have hx : idx l (k : Int) = l[k] := by
        have := idx_eq (xs := l) (i := (k : Int)) (by omega) (by omega)
        rw [Int.toNat_natCast, List.getElem?_eq_getElem hk'] at this
        exact (Option.some.inj this).symm
      rw [hx]
      have hstep : (l.take (k + 1)).all goodB = ((l.take k).all goodB && goodB l[k]) := by
        rw [List.take_add_one, List.getElem?_eq_getElem hk', List.all_append]; simp
      have hall : goodB l[k] = false → l.all goodB = false := fun hg => by
        rw [List.all_eq_false]; exact ⟨l[k], List.getElem_mem hk', by simp [hg]⟩
      cases hb : l[k].Bad with
      | true =>
        refine Yld.g0 (by rfl) (Yld.ift (by simp) (Yld.some (.inr ⟨_, rfl, rfl, hall (by simp [goodB, hb])⟩)))
      | false =>
        refine Yld.g1 (by rfl) (Yld.bindE (Valid_y _ _) ?_)
        have hg : goodB l[k] = (!decide (l[k].W = A16.zero) || !l[k].Neg) := by simp [goodB, hb]
        simp only [hb, Bool.false_eq_true, if_false, ← hg]
        refine Yld.ite (fun h => ?_) (fun h => ?_)
        · exact Yld.some (.inr ⟨_, rfl, rfl, hall (by simpa using h)⟩)
        · refine Yld.some (.inl ⟨_, rfl, ⟨by rw [wi64]; omega, ?_⟩, hk'⟩)
          rw [hstep, he]; simpa using h
    · have hk' : k = l.length := by have := of_decide_eq_false h; omega
      subst hk'
      rw [List.take_length] at he
      exact Yld.some (.inr ⟨_, rfl, he⟩)
  · rintro (u | y) h
    · exact Yld.some h.symm
    · exact Yld.some (by rw [h.1, h.2])
theorem good1 {F : Nat} (hF : 100 < F) (x : Big) : whole_good_S F [x] = some (goodB x) := by rw [good_y _ (by simp; omega) (by simp)]; simp
theorem good2 {F : Nat} (hF : 100 < F) (x y : Big) : whole_good_S F [x, y] = some (goodB x && goodB y) := by rw [good_y _ (by simp; omega) (by simp)]; simp
theorem Bad_y (F : Nat) : whole_Bad_S F = some bad := rfl
theorem signed_y (F : Nat) (neg : Bool) {w : A16} (h : inD 4294967296 w.l) : whole_signed_S F neg w = some (big (if neg = true then -av w else av w)) := by
  have hr := av_range h
  unfold whole_signed_S big
  have hz := zero_iff h
  cases neg with
  | false =>
    have h1 : ¬ av w < 0 := by omega
    simp only [Bool.false_eq_true, if_false, h1, decide_false, Bool.false_and]
    rw [if_pos (by omega), toA_av h]
  | true =>
    simp only [if_true, Bool.true_and]
    rw [if_pos (by omega)]
    by_cases e : av w = 0
    · have hw := hz.2 e
      rw [e]
      simp [hw, zero_eq]
    · have hw : ¬ w = A16.zero := fun h => e (hz.1 h)
      have h1 : -av w < 0 := by omega
      simp only [h1, decide_true, if_true, Int.neg_neg, toA_av h]
      simp [hw]
theorem sv_big_W {z : Int} (h : -MM < z ∧ z < MM) : av (big z).W = (if z < 0 then -z else z) ∧ (big z).Neg = decide (z < 0) := by
  unfold big
  rw [if_pos h]
  refine ⟨?_, rfl⟩
  dsimp only
  rw [av_toA, Int.emod_eq_of_lt] <;> split <;> omega
/-- a function of two numbers -/
def two (f : Int → Int → Option Int) (x y : Big) : Big := match iv x, iv y with
  | some a, some b => toB (f a b)
  | _, _ => bad
def one (f : Int → Option Int) (x : Big) : Big := match iv x with
  | some a => toB (f a)
  | none => bad
theorem two_big {f : Int → Int → Option Int} {a b : Int} (ha : -MM < a ∧ a < MM) (hb : -MM < b ∧ b < MM) : two f (big a) (big b) = toB (f a b) := by simp only [two, iv_big ha, iv_big hb]
theorem one_big {f : Int → Option Int} {a : Int} (ha : -MM < a ∧ a < MM) : one f (big a) = toB (f a) := by simp only [one, iv_big ha]
theorem Add_y {F : Nat} (hF : 100 < F) {x y : Big} (hx : inB x) (hy : inB y) : whole_Add_S F x y = some (two (fun a b => some (a + b)) x y) := by
  refine Yld.eq ?_
  unfold whole_Add_S two
  refine Yld.bindE (good2 hF x y) ?_
  cases ha : iv x with
  | none => simp only [iv_none ha, Bool.false_and, Bool.not_false, if_true]; exact Yld.bindE (Bad_y F) (Yld.some rfl)
  | some a =>
    cases hb : iv y with
    | none => simp only [iv_none hb, Bool.and_false, Bool.not_false, if_true]; exact Yld.bindE (Bad_y F) (Yld.some rfl)
    | some b =>
      obtain ⟨ga, rfl, ra⟩ := iv_some hx ha
      obtain ⟨gb, rfl, rb⟩ := iv_some hy hb
      obtain ⟨wa, na⟩ := sv_big_W ra
      obtain ⟨wb, nb⟩ := sv_big_W rb
      simp only [ga, gb, Bool.and_self, Bool.not_true, Bool.false_eq_true, if_false, toB]
      refine Yld.ite (fun hn => ?_) (fun hn => ?_)
      · have hn' : (a < 0) = (b < 0) := by
          rw [na, nb] at hn
          exact propext (decide_eq_decide.1 (eq_of_beq hn))
        refine Yld.bindE (plus_y hF (big_in a) (big_in b)) ?_
        dsimp only [un2]
        rw [wa, wb]
        have hs : (if a < 0 then -a else a) + (if b < 0 then -b else b) = if a + b < 0 then -(a + b) else a + b := by
          by_cases h1 : a < 0
          · have h2 : b < 0 := by rw [← hn']; exact h1
            rw [if_pos h1, if_pos h2, if_pos (by omega)]; omega
          · have h2 : ¬ b < 0 := by rw [← hn']; exact h1
            rw [if_neg h1, if_neg h2, if_neg (by omega)]
        rw [hs]
        refine Yld.ite (fun h => ?_) (fun h => ?_)
        · refine Yld.bindE (Bad_y F) (Yld.some ?_)
          have h' : ¬ (if a + b < 0 then -(a + b) else a + b) < MM := by simpa using h
          exact (big_out (by split at h' <;> omega)).symm
        · have h' : (if a + b < 0 then -(a + b) else a + b) < MM := by simpa using h
          refine Yld.bindE (signed_y F _ (toA_in _)) (Yld.some ?_)
          rw [av_toA, Int.emod_eq_of_lt (by split <;> omega) h', na]
          congr 1
          by_cases h1 : a < 0
          · have h2 : b < 0 := by rw [← hn']; exact h1
            simp only [h1, decide_true, if_true]; rw [if_pos (by omega)]; omega
          · have h2 : ¬ b < 0 := by rw [← hn']; exact h1
            simp only [h1, decide_false, Bool.false_eq_true, if_false]; rw [if_neg (by omega)]
      · have hn' : (a < 0) ≠ (b < 0) := by
          rw [na, nb] at hn
          intro e
          have : decide (a < 0) = decide (b < 0) := decide_eq_decide.2 (Iff.of_eq e)
          rw [this] at hn; simp at hn
        have hcase : (a < 0 ∧ ¬ b < 0) ∨ (¬ a < 0 ∧ b < 0) := by
          by_cases h1 : a < 0
          · by_cases h2 : b < 0
            · exact absurd (propext ⟨fun _ => h2, fun _ => h1⟩) hn'
            · exact .inl ⟨h1, h2⟩
          · by_cases h2 : b < 0
            · exact .inr ⟨h1, h2⟩
            · exact absurd (propext ⟨fun h => absurd h h1, fun h => absurd h h2⟩) hn'
        refine Yld.bindE (order_y hF (big_in a) (big_in b)) ?_
        rw [wa, wb]
        refine Yld.ite (fun h => ?_) (fun h => ?_)
        · have h' := of_decide_eq_true h
          have hle : (if b < 0 then -b else b) ≤ (if a < 0 then -a else a) := by
            by_cases h3 : (if a < 0 then -a else a) < (if b < 0 then -b else b)
            · rw [if_pos h3] at h'; omega
            · omega
          refine Yld.bindE (minus_y hF (big_in a) (big_in b) (by rw [wa, wb]; exact hle)) (Yld.bindE (signed_y F _ (toA_in _)) (Yld.some ?_))
          rw [wa, wb, av_toA, Int.emod_eq_of_lt (by omega) (by split <;> split <;> omega), na]
          congr 1
          rcases hcase with ⟨h1, h2⟩ | ⟨h1, h2⟩
          · simp only [h1, h2, if_true, if_false, decide_true]; omega
          · simp only [h1, h2, if_true, if_false, decide_false, Bool.false_eq_true]; omega
        · have h' := of_decide_eq_false h
          have hle : (if a < 0 then -a else a) ≤ (if b < 0 then -b else b) := by
            by_cases h3 : (if a < 0 then -a else a) < (if b < 0 then -b else b)
            · omega
            · rw [if_neg h3] at h'; split at h' <;> omega
          refine Yld.bindE (minus_y hF (big_in b) (big_in a) (by rw [wa, wb]; exact hle)) (Yld.bindE (signed_y F _ (toA_in _)) (Yld.some ?_))
          rw [wa, wb, av_toA, Int.emod_eq_of_lt (by omega) (by split <;> split <;> omega), nb]
          congr 1
          rcases hcase with ⟨h1, h2⟩ | ⟨h1, h2⟩
          · simp only [h1, h2, if_true, if_false, decide_false, Bool.false_eq_true]; omega
          · simp only [h1, h2, if_true, if_false, decide_true]; omega
end Go.Proofs.YtaigaoifloldcaaDoor

/- The plain law of chapter 03, part c: signs, bits, ints. -/
namespace Go.Sk
set_option linter.unusedSimpArgs false
set_option linter.unusedVariables false
theorem pow2_le {i j : Nat} (h : i ≤ j) : (2 : Int) ^ i ≤ 2 ^ j := by
  have := Nat.pow_le_pow_right (n := 2) (by decide) h
  exact_mod_cast this
/-- how many bits a number has -/
def blen (m : Int) : Int := if m ≤ 0 then 0 else (Nat.log2 m.toNat : Int) + 1
theorem blen_spec {m : Int} (h : 0 < m) : 1 ≤ blen m ∧ 2 ^ ((blen m).toNat - 1) ≤ m ∧ m < 2 ^ (blen m).toNat := by
  obtain ⟨k, rfl⟩ : ∃ k : Nat, m = k := ⟨m.toNat, by omega⟩
  have hk : k ≠ 0 := by omega
  have e : blen (k : Int) = (Nat.log2 k : Int) + 1 := by unfold blen; rw [if_neg (by omega), Int.toNat_natCast]
  rw [e]
  have e1 : ((Nat.log2 k : Int) + 1).toNat = Nat.log2 k + 1 := by omega
  rw [e1, Nat.add_sub_cancel]
  refine ⟨by omega, ?_, ?_⟩
  · have := Nat.log2_self_le hk
    exact_mod_cast this
  · have := @Nat.lt_log2_self k
    exact_mod_cast this
theorem blen_unique {m n : Int} (hn : 1 ≤ n) (h1 : 2 ^ (n.toNat - 1) ≤ m) (h2 : m < 2 ^ n.toNat) : blen m = n := by
  have hm : 0 < m := Int.lt_of_lt_of_le (Int.pow_pos (by decide)) h1
  obtain ⟨k, rfl⟩ : ∃ k : Nat, m = k := ⟨m.toNat, by omega⟩
  have hk : k ≠ 0 := by omega
  unfold blen
  rw [if_neg (by omega), Int.toNat_natCast]
  have a1 : 2 ^ (n.toNat - 1) ≤ k := by exact_mod_cast h1
  have a2 : k < 2 ^ n.toNat := by exact_mod_cast h2
  have b1 := (Nat.le_log2 hk).2 a1
  have b2 := (Nat.log2_lt hk).2 a2
  omega
theorem blen_zero {m : Int} (h : m ≤ 0) : blen m = 0 := if_pos h
theorem blen_nonneg (m : Int) : 0 ≤ blen m := by unfold blen; split <;> omega
theorem blen_le {m : Int} {k : Nat} (h : m < 2 ^ k) : blen m ≤ k := by
  by_cases h0 : m ≤ 0
  · rw [blen_zero h0]; omega
  · have h1 := blen_spec (by omega : 0 < m)
    rcases (by omega : (k : Int) < blen m ∨ blen m ≤ k) with h2 | h2
    · have h3 : (2 : Int) ^ k ≤ 2 ^ ((blen m).toNat - 1) := pow2_le (by omega)
      omega
    · exact h2
theorem lt_blen {m : Int} : m < 2 ^ (blen m).toNat := by
  by_cases h0 : m ≤ 0
  · have : (0 : Int) < 2 ^ (blen m).toNat := Int.pow_pos (by decide)
    omega
  · exact (blen_spec (by omega)).2.2
/-- the bits of what is above k low bits -/
theorem blen_hi {x v : Int} {k : Nat} (hv : x / 2 ^ k = v) (h0 : 0 < v) : blen x = k + blen v := by
  have hp : (0 : Int) < 2 ^ k := Int.pow_pos (by decide)
  obtain ⟨h1, h2, h3⟩ := blen_spec h0
  have hx1 : v * 2 ^ k ≤ x := by rw [← hv]; exact Int.ediv_mul_le _ (by omega)
  have hx2 : x < (v + 1) * 2 ^ k := by rw [← hv]; exact Int.lt_ediv_add_one_mul_self _ hp
  refine blen_unique (by omega) ?_ ?_
  · have e : (k + blen v).toNat - 1 = ((blen v).toNat - 1) + k := by omega
    rw [e, Int.pow_add]
    exact Int.le_trans (Int.mul_le_mul_of_nonneg_right h2 (by omega)) hx1
  · have e : (k + blen v).toNat = (blen v).toNat + k := by omega
    rw [e, Int.pow_add]
    exact Int.lt_of_lt_of_le hx2 (Int.mul_le_mul_of_nonneg_right (by omega) (by omega))
theorem ior_nat (x y : Nat) (hx : x < 2 ^ 64) (hy : y < 2 ^ 64) : ior .u64 (x : Int) (y : Int) = ((x ||| y : Nat) : Int) := by
  have h : x ||| y < 2 ^ 64 := Nat.or_lt_two_pow hx hy
  unfold ior
  have e1 : (BitVec.ofInt 64 (x : Int)).toNat = x := by simp [BitVec.toNat_ofInt]; omega
  have e2 : (BitVec.ofInt 64 (y : Int)).toNat = y := by simp [BitVec.toNat_ofInt]; omega
  show IntKind.u64.wrap ((BitVec.ofInt 64 (x : Int) ||| BitVec.ofInt 64 (y : Int)).toNat : Int) = _
  rw [BitVec.toNat_or, e1, e2, wu64]
  omega
/-- high bits and low bits -/
theorem ior_add {a b : Int} (k : Nat) (ha : 0 ≤ a) (ha' : a < 18446744073709551616) (hk : a % 2 ^ k = 0) (hb : 0 ≤ b) (hb' : b < 2 ^ k) (hb2 : b < 18446744073709551616) : ior .u64 a b = a + b := by
  obtain ⟨x, rfl⟩ : ∃ x : Nat, a = x := ⟨a.toNat, by omega⟩
  obtain ⟨y, rfl⟩ : ∃ y : Nat, b = y := ⟨b.toNat, by omega⟩
  rw [ior_nat x y (by omega) (by omega)]
  have hy : y < 2 ^ k := by exact_mod_cast hb'
  have hx : x % 2 ^ k = 0 := by exact_mod_cast hk
  have e : x = 2 ^ k * (x / 2 ^ k) := by have := Nat.div_add_mod x (2 ^ k); omega
  rw [e, ← Nat.two_pow_add_eq_or_of_lt hy]
  exact Int.natCast_add _ _
theorem ior_comm (a b : Int) : ior .u64 a b = ior .u64 b a := by
  unfold ior
  rw [BitVec.or_comm]
/-- the value of a number of two digits -/
theorem av_two {a b : Int} : av ⟨a, b, 0, 0, 0, 0, 0, 0, 0, 0, 0, 0, 0, 0, 0, 0⟩ = a + b * 4294967296 := by
  simp [av, ds, dg, A16.l]
theorem in_two {a b : Int} (ha : 0 ≤ a ∧ a < 4294967296) (hb : 0 ≤ b ∧ b < 4294967296) : inD 4294967296 (A16.l ⟨a, b, 0, 0, 0, 0, 0, 0, 0, 0, 0, 0, 0, 0, 0, 0⟩) := fun i => by
  match i with
  | 0 => exact ha
  | 1 => exact hb
  | n + 2 =>
    have : dg (A16.l ⟨a, b, 0, 0, 0, 0, 0, 0, 0, 0, 0, 0, 0, 0, 0, 0⟩) (n + 2) = dg (List.replicate 14 0) n := rfl
    rw [this, dg_replicate]; decide
def sgn (z : Int) : Int := if z = 0 then 0 else if z < 0 then -1 else 1
def cmpZ (a b : Int) : Int := if a < b then -1 else if b < a then 1 else 0
def absZ (z : Int) : Int := if z < 0 then -z else z
theorem MM_big : 18446744073709551616 < MM := by rw [MM_eq]; decide
end Go.Sk
namespace Go.Proofs.YtaigaoifloldcaaDoor
open Go Go.Sk
set_option linter.unusedSimpArgs false
set_option linter.unusedVariables false
theorem Neg_y {F : Nat} (hF : 100 < F) {x : Big} (hx : inB x) : whole_Neg_S F x = some (one (fun a => some (-a)) x) := by
  refine Yld.eq ?_
  unfold whole_Neg_S one
  refine Yld.bindE (good1 hF x) ?_
  cases ha : iv x with
  | none => simp only [iv_none ha, Bool.not_false, if_true]; exact Yld.bindE (Bad_y F) (Yld.some rfl)
  | some a =>
    obtain ⟨ga, rfl, ra⟩ := iv_some hx ha
    obtain ⟨wa, na⟩ := sv_big_W ra
    simp only [ga, Bool.not_true, Bool.false_eq_true, if_false, toB]
    refine Yld.bindE (signed_y F _ (big_in a)) (Yld.some ?_)
    rw [wa, na]
    congr 1
    by_cases h : a < 0
    · simp [h]
    · simp [h]
theorem Abs_y {F : Nat} (hF : 100 < F) {x : Big} (hx : inB x) : whole_Abs_S F x = some (one (fun a => some (absZ a)) x) := by
  refine Yld.eq ?_
  unfold whole_Abs_S one
  refine Yld.bindE (good1 hF x) ?_
  cases ha : iv x with
  | none => simp only [iv_none ha, Bool.not_false, if_true]; exact Yld.bindE (Bad_y F) (Yld.some rfl)
  | some a =>
    obtain ⟨ga, rfl, ra⟩ := iv_some hx ha
    obtain ⟨wa, na⟩ := sv_big_W ra
    simp only [ga, Bool.not_true, Bool.false_eq_true, if_false, toB]
    refine Yld.bindE (signed_y F _ (big_in a)) (Yld.some ?_)
    simp only [wa, Bool.false_eq_true, if_false]
    rfl
theorem one_in (f : Int → Option Int) (x : Big) : inB (one f x) := by unfold one; split; exact toB_in _; exact bad_in
theorem two_in (f : Int → Int → Option Int) (x y : Big) : inB (two f x y) := by unfold two; split; exact toB_in _; exact bad_in
theorem Sub_y {F : Nat} (hF : 100 < F) {x y : Big} (hx : inB x) (hy : inB y) : whole_Sub_S F x y = some (two (fun a b => some (a - b)) x y) := by
  refine Yld.eq ?_
  unfold whole_Sub_S
  refine Yld.bindE (Neg_y hF hy) (Yld.bindE (Add_y hF hx (one_in _ _)) (Yld.some ?_))
  unfold two
  cases hb : iv y with
  | none =>
    have : one (fun a => some (-a)) y = bad := by simp only [one, hb]
    rw [this, iv_bad]
    cases iv x <;> rfl
  | some b =>
    obtain ⟨gb, rfl, rb⟩ := iv_some hy hb
    rw [one_big rb]
    simp only [toB]
    rw [iv_big (by omega)]
    cases iv x with
    | none => rfl
    | some a => simp only [toB, Int.sub_eq_add_neg]
theorem Sign_y {F : Nat} (hF : 100 < F) {x : Big} (hx : inB x) : whole_Sign_S F x = some (match iv x with | some a => sgn a | none => 0) := by
  refine Yld.eq ?_
  unfold whole_Sign_S
  refine Yld.bindE (good1 hF x) ?_
  cases ha : iv x with
  | none => simp only [iv_none ha, Bool.not_false, Bool.true_or, if_true]; exact Yld.some rfl
  | some a =>
    obtain ⟨ga, rfl, ra⟩ := iv_some hx ha
    obtain ⟨wa, na⟩ := sv_big_W ra
    simp only [ga, Bool.not_true, Bool.false_or, zero_iff (big_in a), wa, na]
    refine Yld.ite (fun h => ?_) (fun h => ?_)
    · have h' := of_decide_eq_true h
      have : a = 0 := by split at h' <;> omega
      subst this
      exact Yld.some rfl
    · have h' := of_decide_eq_false h
      have h0 : a ≠ 0 := fun e => h' (by rw [e]; rfl)
      unfold sgn
      refine Yld.ite (fun h => ?_) (fun h => ?_)
      · have := of_decide_eq_true h; exact Yld.some (by rw [if_neg h0, if_pos this])
      · have := of_decide_eq_false h; exact Yld.some (by rw [if_neg h0, if_neg this])
theorem Cmp_y {F : Nat} (hF : 100 < F) {x y : Big} (hx : inB x) (hy : inB y) : whole_Cmp_S F x y = some (match iv x, iv y with | some a, some b => cmpZ a b | none, some _ => -1 | some _, none => 1 | none, none => 0) := by
  refine Yld.eq ?_
  unfold whole_Cmp_S
  refine Yld.bindE (good1 hF x) (Yld.bindE (good1 hF y) ?_)
  cases ha : iv x with
  | none =>
    cases hb : iv y with
    | none => simp only [iv_none ha, iv_none hb, Bool.not_false, Bool.and_self, if_true]; exact Yld.some rfl
    | some b =>
      obtain ⟨gb, rfl, rb⟩ := iv_some hy hb
      simp only [iv_none ha, gb, Bool.not_false, Bool.not_true, Bool.and_false, Bool.false_eq_true, if_false, if_true]; exact Yld.some rfl
  | some a =>
    obtain ⟨ga, rfl, ra⟩ := iv_some hx ha
    cases hb : iv y with
    | none => simp only [ga, iv_none hb, Bool.not_false, Bool.not_true, Bool.false_and, Bool.false_eq_true, if_false, if_true]; exact Yld.some rfl
    | some b =>
      obtain ⟨gb, rfl, rb⟩ := iv_some hy hb
      obtain ⟨wa, na⟩ := sv_big_W ra
      obtain ⟨wb, nb⟩ := sv_big_W rb
      simp only [ga, gb, Bool.not_true, Bool.and_self, Bool.false_eq_true, if_false, na, nb]
      unfold cmpZ
      refine Yld.ite (fun h => ?_) (fun h => ?_)
      · by_cases h1 : a < 0
        · simp only [h1, decide_true, if_true]
          have h2 : ¬ b < 0 := fun h2 => by simp [h1, h2] at h
          exact Yld.some (by rw [if_pos (by omega)])
        · simp only [h1, decide_false, Bool.false_eq_true, if_false]
          have h2 : b < 0 := by
            rcases (by omega : b < 0 ∨ 0 ≤ b) with h2 | h2
            · exact h2
            · have h3 : ¬ b < 0 := by omega
              simp [h1, h3] at h
          exact Yld.some (by rw [if_neg (by omega), if_pos (by omega)])
      · by_cases h1 : a < 0
        · simp only [h1, decide_true, if_true]
          have h2 : b < 0 := by
            rcases (by omega : b < 0 ∨ 0 ≤ b) with h2 | h2
            · exact h2
            · have h3 : ¬ b < 0 := by omega
              simp [h1, h3] at h
          refine Yld.bindE (order_y hF (big_in b) (big_in a)) (Yld.some ?_)
          rw [wa, wb, if_pos h1, if_pos h2]
          by_cases h3 : a < b
          · rw [if_pos h3, if_pos (by omega)]
          · rw [if_neg h3, if_neg (by omega)]
            by_cases h4 : b < a
            · rw [if_pos h4, if_pos (by omega)]
            · rw [if_neg h4, if_neg (by omega)]
        · simp only [h1, decide_false, Bool.false_eq_true, if_false]
          have h2 : ¬ b < 0 := fun h2 => by simp [h1, h2] at h
          refine Yld.bindE (order_y hF (big_in a) (big_in b)) (Yld.some ?_)
          rw [wa, wb, if_neg h1, if_neg h2]
end Go.Proofs.YtaigaoifloldcaaDoor

/- The plain law of chapter 03, part d: bits, ints, products. -/
namespace Go.Sk
set_option linter.unusedSimpArgs false
set_option linter.unusedVariables false
def len8 : Str := [0, 1, 2, 2, 3, 3, 3, 3, 4, 4, 4, 4, 4, 4, 4, 4, 5, 5, 5, 5, 5, 5, 5, 5, 5, 5, 5, 5, 5, 5, 5, 5, 6, 6, 6, 6, 6, 6, 6, 6, 6, 6, 6, 6, 6, 6, 6, 6, 6, 6, 6, 6, 6, 6, 6, 6, 6, 6, 6, 6, 6, 6, 6, 6, 7, 7, 7, 7, 7, 7, 7, 7, 7, 7, 7, 7, 7, 7, 7, 7, 7, 7, 7, 7, 7, 7, 7, 7, 7, 7, 7, 7, 7, 7, 7, 7, 7, 7, 7, 7, 7, 7, 7, 7, 7, 7, 7, 7, 7, 7, 7, 7, 7, 7, 7, 7, 7, 7, 7, 7, 7, 7, 7, 7, 7, 7, 7, 7, 8, 8, 8, 8, 8, 8, 8, 8, 8, 8, 8, 8, 8, 8, 8, 8, 8, 8, 8, 8, 8, 8, 8, 8, 8, 8, 8, 8, 8, 8, 8, 8, 8, 8, 8, 8, 8, 8, 8, 8, 8, 8, 8, 8, 8, 8, 8, 8, 8, 8, 8, 8, 8, 8, 8, 8, 8, 8, 8, 8, 8, 8, 8, 8, 8, 8, 8, 8, 8, 8, 8, 8, 8, 8, 8, 8, 8, 8, 8, 8, 8, 8, 8, 8, 8, 8, 8, 8, 8, 8, 8, 8, 8, 8, 8, 8, 8, 8, 8, 8, 8, 8, 8, 8, 8, 8, 8, 8, 8, 8, 8, 8, 8, 8, 8, 8, 8, 8, 8, 8, 8, 8, 8, 8, 8, 8, 8, 8]
theorem len8_fin : ∀ v : _root_.Fin 256, ((len8.getD v.val 0).toNat : Int) = blen v.val := by decide +kernel
theorem len8_at {v : Int} (h0 : 0 ≤ v) (h1 : v < 256) : ((idx len8 v).toNat : Int) = blen v := by
  obtain ⟨k, rfl⟩ : ∃ k : Nat, v = k := ⟨v.toNat, by omega⟩
  exact len8_fin ⟨k, by omega⟩
theorem len8_len : len8.length = 256 := by decide +kernel
theorem p8 : (2 : Int) ^ 8 = 256 := by decide
theorem p32 : (2 : Int) ^ 32 = 4294967296 := by decide
theorem p64 : (2 : Int) ^ 64 = 18446744073709551616 := by decide
theorem pow32 (m : Nat) : (4294967296 : Int) ^ m = 2 ^ (32 * m) := by rw [Int.pow_mul]; rfl
theorem A32.set_dg {w : A32} {i x : Int} (h0 : 0 ≤ i) (h1 : i < 32) (j : Nat) : dg (w.set i x).l j = if j = i.toNat then x else dg w.l j := by
  rw [A32.set_l, dg_set (by rw [A32.l_len]; omega)]
theorem A32.ds_set {b : Int} {w : A32} {k : Nat} {x : Int} (h : k < 32) : ds b (dg (w.set (k : Int) x).l) (k + 1) = ds b (dg w.l) k + x * b ^ k := ds_upd fun i => by rw [A32.set_dg (by omega) (by omega), Int.toNat_natCast]
theorem A32.set_in {w : A32} {i x : Int} (h : inD 4294967296 w.l) (h0 : 0 ≤ i) (h1 : i < 32) (hx : 0 ≤ x ∧ x < 4294967296) : inD 4294967296 (w.set i x).l := fun j => by
  rw [A32.set_dg h0 h1]
  split
  · exact hx
  · exact h j
theorem A32.zero_in : inD 4294967296 A32.zero.l := fun i => by
  have : A32.zero.l = List.replicate 32 0 := rfl
  rw [this, dg_replicate]; decide
theorem A32.zero_dg (i : Nat) : dg A32.zero.l i = 0 := by
  have : A32.zero.l = List.replicate 32 0 := rfl
  rw [this, dg_replicate]
theorem mul_bound {a b m : Int} (ha : 0 ≤ a ∧ a < m) (hb : 0 ≤ b ∧ b < m) : 0 ≤ a * b ∧ a * b ≤ (m - 1) * (m - 1) := ⟨Int.mul_nonneg ha.1 hb.1, Int.mul_le_mul (by omega) (by omega) hb.1 (by omega)⟩
theorem mul_step {b O0 O c x c' ai bk ok V : Int} {i k : Nat} (h : O + c * b ^ (i + k) = O0 + ai * b ^ i * V) (e : c + ai * bk + ok = x + c' * b) : (O + x * b ^ (i + k)) + c' * b ^ (i + k + 1) = (O0 + ok * b ^ (i + k)) + ai * b ^ i * (V + bk * b ^ k) := by
  rw [Int.pow_succ]
  have e1 : b ^ (i + k) = b ^ i * b ^ k := Int.pow_add _ _ _
  rw [e1] at *
  grind
end Go.Sk
namespace Go.Proofs.YtaigaoifloldcaaDoor
open Go Go.Sk
set_option linter.unusedSimpArgs false
set_option linter.unusedVariables false
theorem Len32_y (F : Nat) {x : Int} (h0 : 0 ≤ x) (h1 : x < 4294967296) : bits_Len32_S F x = some (blen x) := by
  refine Yld.eq ?_
  unfold bits_Len32_S
  refine Yld.bind (P := fun r => 0 ≤ r.1 ∧ r.1 < 65536 ∧ 0 ≤ r.2 ∧ r.2 ≤ 16 ∧ blen x = r.2 + blen r.1) ?_ ?_
  · refine Yld.ite (fun h => ?_) (fun h => ?_)
    · have := of_decide_eq_true h
      refine Yld.some ⟨by omega, by omega, by omega, by omega, ?_⟩
      exact blen_hi (k := 16) rfl (by omega)
    · have := of_decide_eq_false h
      exact Yld.some ⟨by omega, by omega, by omega, by omega, by dsimp only; omega⟩
  · rintro ⟨y, n⟩ ⟨y0, y1, n0, n1, e⟩
    dsimp only at y0 y1 n0 n1 e
    refine Yld.bind (P := fun r => 0 ≤ r.1 ∧ r.1 < 256 ∧ 0 ≤ r.2 ∧ r.2 ≤ 24 ∧ blen x = r.2 + blen r.1) ?_ ?_
    · refine Yld.ite (fun h => ?_) (fun h => ?_)
      · have := of_decide_eq_true h
        have e2 := blen_hi (x := y) (v := y / 256) (k := 8) rfl (by omega)
        refine Yld.some ⟨by omega, by omega, ?_, ?_, ?_⟩ <;> dsimp only <;> rw [wi64] <;> omega
      · have := of_decide_eq_false h
        exact Yld.some ⟨by omega, by omega, by omega, by omega, by dsimp only; omega⟩
    · rintro ⟨z, m⟩ ⟨z0, z1, m0, m1, e2⟩
      dsimp only at z0 z1 m0 m1 e2
      have hw : IntKind.u8.wrap z = z := by rw [wu8]; omega
      dsimp only [un2]
      rw [hw]
      refine Yld.idx (l := len8) z0 (by rw [len8_len]; omega) (Yld.ln (Yld.some ?_))
      rw [len8_at z0 z1]
      have hb := blen_le (m := z) (k := 8) (by rw [p8]; omega)
      have hb0 := blen_nonneg z
      rw [wi64' (z := blen z) (by omega) (by omega), wi64] 
      omega
theorem bits_fin {m : Nat} {v : Int} (hm : m ≤ 15) (h0 : 0 ≤ v) (h1 : v ≤ ((32 : Nat) : Int)) : IntKind.i64.wrap (IntKind.i64.wrap (32 * (m : Int)) + v) = ((32 * m : Nat) : Int) + v := by
  simp only [wi64]
  omega
theorem Bits_y {F : Nat} (hF : 100 < F) {x : Big} (hx : inB x) : whole_Bits_S F x = some (match iv x with | some a => blen (absZ a) | none => 0) := by
  refine Yld.eq ?_
  unfold whole_Bits_S
  refine Yld.bind (size_y hF) fun n hn => ?_
  obtain ⟨n0, n1, nz, nt⟩ := hn
  refine Yld.bindE (good1 hF x) ?_
  cases ha : iv x with
  | none => simp only [iv_none ha, Bool.not_false, Bool.true_or, if_true]; exact Yld.some rfl
  | some a =>
    obtain ⟨ga, rfl, ra⟩ := iv_some hx ha
    obtain ⟨wa, na⟩ := sv_big_W ra
    have hval : absZ a = ds 4294967296 (dg (big a).W.l) n.toNat := by
      have h1 : absZ a = av (big a).W := by rw [wa]; rfl
      rw [h1]
      exact ds_ext (by omega) nz
    simp only [ga, Bool.not_true, Bool.false_or]
    refine Yld.ite (fun h => ?_) (fun h => ?_)
    · have h' := of_decide_eq_true h
      subst h'
      refine Yld.some ?_
      rw [hval]; rfl
    · have h' := of_decide_eq_false h
      have hm : n.toNat = (n.toNat - 1) + 1 := by omega
      have hw : IntKind.i64.wrap (n - 1) = ((n.toNat - 1 : Nat) : Int) := by rw [wi64]; omega
      rw [hw]
      have hd := big_in a (n.toNat - 1)
      have hd0 := nt (by omega)
      refine Yld.ln (Yld.idx (by omega) (by rw [A16.l_len]; omega) ?_)
      rw [idx_dg, Int.toNat_natCast]
      refine Yld.bindE (Len32_y F hd.1 hd.2) (Yld.some ?_)
      have hb := blen_le (m := dg (big a).W.l (n.toNat - 1)) (k := 32) (by rw [p32]; omega)
      have hb0 := blen_nonneg (dg (big a).W.l (n.toNat - 1))
      have key : blen (absZ a) = ((32 * (n.toNat - 1) : Nat) : Int) + blen (dg (big a).W.l (n.toNat - 1)) := by
        refine blen_hi ?_ (by omega)
        have hp : (0 : Int) < 2 ^ (32 * (n.toNat - 1)) := Int.pow_pos (by decide)
        have hlo := ds_lt (b := 4294967296) (by decide) (f := dg (big a).W.l) (n := n.toNat - 1) fun i _ => big_in a i
        have hlo0 := ds_nonneg (b := 4294967296) (by decide) (f := dg (big a).W.l) (n := n.toNat - 1) fun i _ => (big_in a i).1
        rw [hval, hm, ds_succ, pow32, Nat.add_sub_cancel]
        rw [pow32] at hlo
        rw [Int.add_mul_ediv_right _ _ (by omega), Int.ediv_eq_zero_of_lt hlo0 hlo, Int.zero_add]
      show IntKind.i64.wrap (IntKind.i64.wrap (32 * ((n.toNat - 1 : Nat) : Int)) + blen (dg (big a).W.l (n.toNat - 1))) = blen (absZ a)
      rw [key]
      exact bits_fin (by omega) hb0 hb
theorem Of_y (F : Nat) {n : Int} (h0 : -9223372036854775808 ≤ n) (h1 : n ≤ 9223372036854775807) : whole_Of_S F n = some (big n) := by
  refine Yld.eq ?_
  unfold whole_Of_S
  refine Yld.bind (P := fun u => u = absZ n) ?_ ?_
  · unfold absZ
    refine Yld.ite (fun h => ?_) (fun h => ?_)
    · have := of_decide_eq_true h
      refine Yld.ln (Yld.some ?_)
      rw [if_pos this]
      simp only [wu64]; omega
    · have := of_decide_eq_false h
      refine Yld.some ?_
      rw [if_neg this]
      simp only [wu64]; omega
  · rintro u rfl
    have hu : 0 ≤ absZ n ∧ absZ n ≤ 9223372036854775808 := by unfold absZ; split <;> omega
    refine Yld.ln ?_
    refine Yld.bindE (signed_y F _ (in_two (by simp only [wu32]; omega) (by simp only [wu32]; omega))) (Yld.some ?_)
    rw [av_two]
    simp only [wu32]
    congr 1
    unfold absZ at *
    by_cases h : n < 0
    · simp only [h, decide_true, if_true] at *; omega
    · simp only [h, decide_false, Bool.false_eq_true, if_false] at *; omega
theorem small_val {w : A16} (h : inD 4294967296 w.l) (hv : av w < 18446744073709551616) : w.a0 + w.a1 * 4294967296 = av w := by
  have e := ds_split 4294967296 (dg w.l) 2 14
  have h2 : ds 4294967296 (dg w.l) 2 = w.a0 + w.a1 * 4294967296 := by simp [ds, dg, A16.l]
  have h3 := ds_nonneg (b := 4294967296) (by decide) (f := fun i => dg w.l (2 + i)) (n := 14) fun i _ => (h (2 + i)).1
  have a0 := h 0
  have a1 := h 1
  have e0 : dg w.l 0 = w.a0 := rfl
  have e1 : dg w.l 1 = w.a1 := rfl
  rw [e0] at a0
  rw [e1] at a1
  have hav : av w = ds 4294967296 (dg w.l) (2 + 14) := rfl
  rw [hav] at hv ⊢
  rw [e, h2] at hv ⊢
  have hp : (4294967296 : Int) ^ 2 = 18446744073709551616 := by decide
  rw [hp] at hv ⊢
  omega
theorem Small_y {F : Nat} (hF : 100 < F) {x : Big} (hx : inB x) : whole_Small_S F x = some (match iv x with | some a => if -9223372036854775808 ≤ a ∧ a ≤ 9223372036854775807 then (a, true) else (0, false) | none => (0, false)) := by
  refine Yld.eq ?_
  unfold whole_Small_S
  refine Yld.bindE (good1 hF x) ?_
  cases ha : iv x with
  | none =>
    simp only [iv_none ha]
    exact Yld.g0 (by rfl) (Yld.ift (by rfl) (Yld.some rfl))
  | some a =>
    obtain ⟨ga, rfl, ra⟩ := iv_some hx ha
    obtain ⟨wa, na⟩ := sv_big_W ra
    simp only [ga]
    refine Yld.g1 (by rfl) (Yld.bindE (Bits_y hF (big_in a)) ?_)
    rw [iv_big ra]
    simp only [Bool.not_true, Bool.false_or]
    refine Yld.ite (fun h => ?_) (fun h => ?_)
    · have h' := of_decide_eq_true h
      refine Yld.some ?_
      rw [if_neg]
      intro hh
      have := blen_le (m := absZ a) (k := 64) (by rw [p64]; unfold absZ; split <;> omega)
      omega
    · have h' := of_decide_eq_false h
      have hlt : absZ a < 18446744073709551616 := by
        have h2 := lt_blen (m := absZ a)
        have h3 : (2 : Int) ^ (blen (absZ a)).toNat ≤ 2 ^ 64 := pow2_le (by omega)
        rw [p64] at h3
        omega
      have hs := small_val (big_in a) (by rw [wa]; exact hlt)
      rw [wa] at hs
      have b0 := big_in a 0
      have b1 := big_in a 1
      have e0 : dg (big a).W.l 0 = (big a).W.a0 := rfl
      have e1 : dg (big a).W.l 1 = (big a).W.a1 := rfl
      rw [e0] at b0
      rw [e1] at b1
      have habs : absZ a = if a < 0 then -a else a := rfl
      rw [← habs] at hs
      have habs0 : 0 ≤ absZ a := by unfold absZ; split <;> omega
      refine Yld.lnE ((big a).W.a1 * 4294967296) (by simp only [wu64]; omega) (Yld.lnE (absZ a) ?_ ?_)
      · have e2 : IntKind.u64.wrap (big a).W.a0 = (big a).W.a0 := by rw [wu64]; omega
        rw [e2, ior_add 32 (by omega) (by omega) (by rw [p32]; omega) b0.1 (by rw [p32]; omega) (by omega)]
        omega
      · rw [na]
        refine Yld.ite (fun h => ?_) (fun h => ?_)
        · simp only [Bool.and_eq_true, decide_eq_true_eq] at h
          rw [if_pos h.1] at habs
          refine Yld.ln (Yld.some ?_)
          rw [if_pos (by omega)]
          simp only [wu64, wi64]
          congr 1
          omega
        · refine Yld.ite (fun h2 => ?_) (fun h2 => ?_)
          · simp only [Bool.and_eq_true, Bool.not_eq_true', decide_eq_true_eq, decide_eq_false_iff_not] at h2
            rw [if_neg h2.1] at habs
            refine Yld.some ?_
            rw [if_pos (by omega), wi64]
            congr 1
            omega
          · refine Yld.some ?_
            rw [if_neg]
            intro hh
            by_cases h3 : a < 0
            · rw [if_pos h3] at habs
              simp only [h3, decide_true, Bool.true_and, decide_eq_false_iff_not] at h
              omega
            · rw [if_neg h3] at habs
              simp only [h3, decide_false, Bool.not_false, Bool.true_and, decide_eq_false_iff_not] at h2
              omega
end Go.Proofs.YtaigaoifloldcaaDoor

/- The plain law of chapter 03, part v: what a number is, by the reference. -/
namespace Go.Proofs.YtaigaoifloldcaaDoor
open Go Go.Sk
set_option linter.unusedSimpArgs false
set_option linter.unusedVariables false
theorem rValid_y {F : Nat} (hF : 100000 < F) {x : Big} (hx : inB x) : skewbackref03_Valid_S F x = some (if x.Bad = true then decide (x.W = A16.zero) && !x.Neg else !decide (x.W = A16.zero) || !x.Neg) := by
  refine Yld.eq ?_
  unfold skewbackref03_Valid_S
  refine Yld.bind (P := fun z => z = decide (x.W = A16.zero)) (Yld.rounds 16 (fun k s => s.2 = (k : Int) ∧ (s.1 = true ↔ ∀ i, i < k → dg x.W.l i = 0)) (by omega) ⟨rfl, by simp⟩ ?_) ?_
  · rintro k ⟨z, kx⟩ hk ⟨rfl, hz⟩
    dsimp only at hz
    dsimp only [un2]
    refine Yld.ite (fun h => ?_) (fun h => ?_)
    · have hk' : k < 16 := by have := of_decide_eq_true h; omega
      cases z with
      | true =>
        refine Yld.g1 rfl (Yld.idx (by omega) (by rw [A16.l_len]; omega) (Yld.some (.inl ⟨_, rfl, ⟨by dsimp only; rw [wi64]; omega, ?_⟩, hk'⟩)))
        simp only [idx_dg, Int.toNat_natCast, Bool.true_and]
        constructor
        · intro h1 i hi
          by_cases e : i = k
          · rw [e]; exact of_decide_eq_true h1
          · exact hz.1 rfl i (by omega)
        · intro h1; exact decide_eq_true (h1 k (by omega))
      | false =>
        refine Yld.g0 rfl (Yld.some (.inl ⟨_, rfl, ⟨by dsimp only; rw [wi64]; omega, ?_⟩, hk'⟩))
        simp only [Bool.false_and, Bool.false_eq_true, false_iff]
        intro h1
        exact absurd (hz.2 fun i hi => h1 i (by omega)) (by simp)
    · have hk' : k = 16 := by have := of_decide_eq_false h; omega
      subst hk'
      refine Yld.some (.inr ⟨_, rfl, ?_⟩)
      rw [Bool.eq_iff_iff, hz, decide_eq_true_eq]
      constructor
      · intro h1
        rw [zero_iff hx]
        exact ds_zero h1
      · intro h1 i _
        rw [h1]
        have : A16.zero.l = List.replicate 16 0 := rfl
        rw [this, dg_replicate]
  · rintro z rfl
    refine Yld.ite (fun h => ?_) (fun h => ?_)
    · rw [h]; exact Yld.some rfl
    · rw [h]; exact Yld.some rfl
theorem rGood_y {F : Nat} (hF : 100000 < F) {x : Big} (hx : inB x) : skewbackref03_Good_S F x = some (goodB x) := by
  refine Yld.eq ?_
  unfold skewbackref03_Good_S
  refine Yld.bindE (rValid_y hF hx) (Yld.some ?_)
  unfold goodB
  cases x.Bad <;> simp
end Go.Proofs.YtaigaoifloldcaaDoor

/- The plain law of chapter 03, part e: products. -/
namespace Go.Sk
set_option linter.unusedSimpArgs false
set_option linter.unusedVariables false
theorem mulfin {c ai bk ok : Int} (h1 : 0 ≤ c ∧ c < 4294967296) (h2 : 0 ≤ ai * bk ∧ ai * bk ≤ 18446744065119617025) (h3 : 0 ≤ ok ∧ ok < 4294967296) (ha : 0 ≤ ai ∧ ai < 4294967296) (hb : 0 ≤ bk ∧ bk < 4294967296) :
    IntKind.u64.wrap (c + IntKind.u64.wrap (IntKind.u64.wrap (IntKind.u64.wrap ai * IntKind.u64.wrap bk) + IntKind.u64.wrap ok)) = c + ai * bk + ok := by
  have e1 : IntKind.u64.wrap ai = ai := by rw [wu64]; omega
  have e2 : IntKind.u64.wrap bk = bk := by rw [wu64]; omega
  rw [e1, e2]
  generalize ai * bk = p at *
  simp only [wu64]
  omega
/-- the parts of 32 digits -/
def lo16 (o : A32) : A16 := ⟨o.a0, o.a1, o.a2, o.a3, o.a4, o.a5, o.a6, o.a7, o.a8, o.a9, o.a10, o.a11, o.a12, o.a13, o.a14, o.a15⟩
def hi16 (o : A32) : A16 := ⟨o.a16, o.a17, o.a18, o.a19, o.a20, o.a21, o.a22, o.a23, o.a24, o.a25, o.a26, o.a27, o.a28, o.a29, o.a30, o.a31⟩
theorem lo16_l (o : A32) : (lo16 o).l = o.l.take 16 := rfl
theorem hi16_l (o : A32) : (hi16 o).l = o.l.drop 16 := rfl
theorem lo16_in {o : A32} (h : inD 4294967296 o.l) : inD 4294967296 (lo16 o).l := fun i => by
  rw [lo16_l, dg_take]; split
  · exact h i
  · decide
theorem hi16_in {o : A32} (h : inD 4294967296 o.l) : inD 4294967296 (hi16 o).l := fun i => by
  rw [hi16_l, dg_drop]; exact h _
theorem halves (o : A32) : ds 4294967296 (dg o.l) 32 = av (lo16 o) + MM * av (hi16 o) := by
  rw [show (32 : Nat) = 16 + 16 from rfl, ds_split]
  have e1 : ds 4294967296 (dg o.l) 16 = av (lo16 o) := ds_congr fun i hi => by rw [lo16_l, dg_take, if_pos hi]
  have e2 : ds 4294967296 (fun i => dg o.l (16 + i)) 16 = av (hi16 o) := ds_congr fun i _ => by rw [hi16_l, dg_drop]
  rw [e1, e2]
  rfl
theorem absZ_mul (a b : Int) : absZ (a * b) = absZ a * absZ b := by
  unfold absZ
  by_cases ha : a < 0
  · by_cases hb : b < 0
    · rw [if_pos ha, if_pos hb, if_neg (by have := Int.mul_pos_of_neg_of_neg ha hb; omega), Int.neg_mul_neg]
    · rw [if_pos ha, if_neg hb]
      have := Int.mul_nonpos_of_nonpos_of_nonneg (Int.le_of_lt ha) (by omega : 0 ≤ b)
      by_cases h0 : a * b < 0
      · rw [if_pos h0, Int.neg_mul]
      · rw [if_neg h0, Int.neg_mul]; omega
  · by_cases hb : b < 0
    · rw [if_neg ha, if_pos hb]
      have := Int.mul_nonpos_of_nonneg_of_nonpos (by omega : 0 ≤ a) (Int.le_of_lt hb)
      by_cases h0 : a * b < 0
      · rw [if_pos h0, Int.mul_neg]
      · rw [if_neg h0, Int.mul_neg]; omega
    · rw [if_neg ha, if_neg hb, if_neg (by have := Int.mul_nonneg (by omega : 0 ≤ a) (by omega : 0 ≤ b); omega)]
theorem sgn_mul {a b : Int} (h : (decide (a < 0) != decide (b < 0)) = true) : a * b = -(absZ a * absZ b) := by
  rw [← absZ_mul]
  unfold absZ
  by_cases ha : a < 0
  · have hb : ¬ b < 0 := fun hb => by simp [ha, hb] at h
    have := Int.mul_nonpos_of_nonpos_of_nonneg (Int.le_of_lt ha) (by omega : 0 ≤ b)
    split <;> omega
  · by_cases hb : b < 0
    · have := Int.mul_nonpos_of_nonneg_of_nonpos (by omega : 0 ≤ a) (Int.le_of_lt hb)
      split <;> omega
    · simp [ha, hb] at h
theorem sgn_mul' {a b : Int} (h : (decide (a < 0) != decide (b < 0)) = false) : a * b = absZ a * absZ b := by
  rw [← absZ_mul]
  unfold absZ
  by_cases ha : a < 0
  · by_cases hb : b < 0
    · have := Int.mul_pos_of_neg_of_neg ha hb
      rw [if_neg (by omega)]
    · simp [ha, hb] at h
  · have hb : ¬ b < 0 := fun hb => by simp [ha, hb] at h
    have := Int.mul_nonneg (by omega : 0 ≤ a) (by omega : 0 ≤ b)
    rw [if_neg (by omega)]
theorem absZ_lt {a : Int} (h : -MM < a ∧ a < MM) : 0 ≤ absZ a ∧ absZ a < MM := by unfold absZ; split <;> omega
theorem absZ_in {a : Int} : (-MM < a ∧ a < MM) ↔ absZ a < MM := by unfold absZ; split <;> omega
end Go.Sk
namespace Go.Proofs.YtaigaoifloldcaaDoor
open Go Go.Sk
set_option linter.unusedSimpArgs false
set_option linter.unusedVariables false
theorem Mul_y {F : Nat} (hF : 100 < F) {x y : Big} (hx : inB x) (hy : inB y) : whole_Mul_S F x y = some (two (fun a b => some (a * b)) x y) := by
  refine Yld.eq ?_
  unfold whole_Mul_S two
  refine Yld.bindE (good2 hF x y) ?_
  cases ha : iv x with
  | none => simp only [iv_none ha, Bool.false_and, Bool.not_false, if_true]; exact Yld.bindE (Bad_y F) (Yld.some rfl)
  | some a =>
    cases hb : iv y with
    | none => simp only [iv_none hb, Bool.and_false, Bool.not_false, if_true]; exact Yld.bindE (Bad_y F) (Yld.some rfl)
    | some b =>
      obtain ⟨ga, rfl, ra⟩ := iv_some hx ha
      obtain ⟨gb, rfl, rb⟩ := iv_some hy hb
      obtain ⟨wa, na⟩ := sv_big_W ra
      obtain ⟨wb, nb⟩ := sv_big_W rb
      have ia : inD 4294967296 (big a).W.l := big_in a
      have ib : inD 4294967296 (big b).W.l := big_in b
      have habs : av (big a).W = absZ a := wa
      have hbbs : av (big b).W = absZ b := wb
      clear wa wb ha hb hx hy
      simp only [ga, gb, Bool.and_self, Bool.not_true, Bool.false_eq_true, if_false, toB, na, nb]
      generalize (big a).W = A at *
      generalize (big b).W = B at *
      refine Yld.bind (size_y hF) fun n hn => Yld.bind (size_y hF) fun m hm => ?_
      obtain ⟨n0, n1, nz, _⟩ := hn
      obtain ⟨m0, m1, mz, _⟩ := hm
      obtain ⟨N, rfl⟩ : ∃ N : Nat, n = N := ⟨n.toNat, by omega⟩
      obtain ⟨M, rfl⟩ : ∃ M : Nat, m = M := ⟨m.toNat, by omega⟩
      simp only [Int.toNat_natCast] at nz mz
      have hA : absZ a = ds 4294967296 (dg A.l) N := by rw [← habs]; exact ds_ext (by omega) nz
      have hB : absZ b = ds 4294967296 (dg B.l) M := by rw [← hbbs]; exact ds_ext (by omega) mz
      refine Yld.bind (P := fun out => inD 4294967296 out.l ∧ ds 4294967296 (dg out.l) 32 = absZ a * absZ b) (Yld.rounds N (fun i s => s.2 = (i : Int) ∧ inD 4294967296 s.1.l ∧ (∀ j, i + M ≤ j → dg s.1.l j = 0) ∧ ds 4294967296 (dg s.1.l) (i + M) = ds 4294967296 (dg A.l) i * absZ b) (by omega) ⟨rfl, A32.zero_in, fun j _ => A32.zero_dg j, ?_⟩ ?_) ?_
      · show ds 4294967296 (dg A32.zero.l) (0 + M) = 0 * absZ b
        rw [Int.zero_mul]
        exact ds_zero fun j _ => A32.zero_dg j
      · rintro i ⟨o0, ix⟩ hi ⟨rfl, oin, oz, os⟩
        dsimp only at oin oz os
        dsimp only [un2]
        refine Yld.ite (fun h => ?_) (fun h => ?_)
        · have hi' : i < N := by have := of_decide_eq_true h; omega
          have hai := ia i
          refine Yld.bind (P := fun o1 => inD 4294967296 o1.l ∧ (∀ j, i + 1 + M ≤ j → dg o1.l j = 0) ∧ ds 4294967296 (dg o1.l) (i + 1 + M) = ds 4294967296 (dg A.l) (i + 1) * absZ b) ?_ ?_
          · refine Yld.bind (P := fun r => inD 4294967296 r.1.l ∧ 0 ≤ r.2 ∧ r.2 < 4294967296 ∧ (∀ j, i + M ≤ j → dg r.1.l j = dg o0.l j) ∧ ds 4294967296 (dg r.1.l) (i + M) + r.2 * 4294967296 ^ (i + M) = ds 4294967296 (dg o0.l) (i + M) + dg A.l i * 4294967296 ^ i * ds 4294967296 (dg B.l) M)
              (Yld.rounds M (fun k s => s.2.2 = (k : Int) ∧ inD 4294967296 s.1.l ∧ 0 ≤ s.2.1 ∧ s.2.1 < 4294967296 ∧ (∀ j, i + k ≤ j → dg s.1.l j = dg o0.l j) ∧ ds 4294967296 (dg s.1.l) (i + k) + s.2.1 * 4294967296 ^ (i + k) = ds 4294967296 (dg o0.l) (i + k) + dg A.l i * 4294967296 ^ i * ds 4294967296 (dg B.l) k) (by omega) ⟨rfl, oin, Int.le_refl _, (by decide : (0 : Int) < 4294967296), fun _ _ => rfl, ?_⟩ ?_) ?_
            · show ds 4294967296 (dg o0.l) (i + 0) + 0 * 4294967296 ^ (i + 0) = ds 4294967296 (dg o0.l) (i + 0) + dg A.l i * 4294967296 ^ i * 0
              rw [Int.zero_mul, Int.mul_zero]
            · rintro k ⟨o, c, kx⟩ hk ⟨rfl, pin, c0, c1, pk, ps⟩
              dsimp only at pin c0 c1 pk ps
              dsimp only [un3]
              refine Yld.ite (fun h2 => ?_) (fun h2 => ?_)
              · have hk' : k < M := by have := of_decide_eq_true h2; omega
                have hw : IntKind.i64.wrap ((i : Int) + (k : Int)) = ((i + k : Nat) : Int) := by rw [wi64]; omega
                have hbk := ib k
                have hok := pin (i + k)
                rw [hw]
                have hmb := mul_bound hai hbk
                have hfin := mulfin ⟨c0, c1⟩ (by have e : ((4294967296 : Int) - 1) * (4294967296 - 1) = 18446744065119617025 := by decide
                                                 rw [e] at hmb; exact hmb) hok hai hbk
                have hlt : c + dg A.l i * dg B.l k + dg o.l (i + k) ≤ 18446744073709551615 := by
                  have e : ((4294967296 : Int) - 1) * (4294967296 - 1) = 18446744065119617025 := by decide
                  rw [e] at hmb
                  omega
                refine Yld.idx (by omega) (by rw [A16.l_len]; omega) (Yld.idx (by omega) (by rw [A16.l_len]; omega) (Yld.idx (by omega) (by rw [A32.l_len]; omega) (Yld.ln (Yld.idx (by omega) (by rw [A32.l_len]; omega) (Yld.ln (Yld.some (.inl ⟨_, rfl, ?_, hk'⟩)))))))
                simp only [idx_dg, Int.toNat_natCast]
                rw [hfin]
                generalize hp : dg A.l i * dg B.l k = p at *
                have hmb0 := hmb.1
                clear hfin hmb
                refine ⟨by rw [wi64]; omega, A32.set_in pin (by omega) (by omega) (by rw [wu32]; omega), by omega, by omega, fun j hj => ?_, ?_⟩
                · rw [A32.set_dg (by omega) (by omega), Int.toNat_natCast, if_neg (by omega)]
                  exact pk j (by omega)
                · have hok0 := pk (i + k) (Nat.le_refl _)
                  show ds 4294967296 (dg (A32.set o ((i + k : Nat) : Int) _).l) (i + k + 1) + _ * 4294967296 ^ (i + k + 1) = ds 4294967296 (dg o0.l) (i + k + 1) + dg A.l i * 4294967296 ^ i * ds 4294967296 (dg B.l) (k + 1)
                  rw [A32.ds_set (by omega), ds_succ 4294967296 (dg o0.l), ds_succ 4294967296 (dg B.l), ← hok0]
                  refine mul_step ps ?_
                  rw [hp, wu32]
                  omega
              · have hk' : k = M := by have := of_decide_eq_false h2; omega
                subst hk'
                exact Yld.some (.inr ⟨_, rfl, pin, c0, c1, pk, ps⟩)
            · rintro ⟨o, c⟩ ⟨pin, c0, c1, pk, ps⟩
              dsimp only at pin c0 c1 pk ps
              dsimp only [un2]
              have hw : IntKind.i64.wrap ((i : Int) + (M : Int)) = ((i + M : Nat) : Int) := by rw [wi64]; omega
              rw [hw]
              refine Yld.idx (by omega) (by rw [A32.l_len]; omega) (Yld.some ?_)
              have hwc : IntKind.u32.wrap c = c := by rw [wu32]; omega
              rw [hwc]
              refine ⟨A32.set_in pin (by omega) (by omega) ⟨c0, c1⟩, fun j hj => ?_, ?_⟩
              · rw [A32.set_dg (by omega) (by omega), Int.toNat_natCast, if_neg (by omega), pk j (by omega), oz j (by omega)]
              · have e : i + 1 + M = i + M + 1 := by omega
                rw [e, A32.ds_set (by omega), ps, os, ds_succ, ← hB, Int.add_mul]
          · rintro o1 ⟨h1, h2, h3⟩
            exact Yld.some (.inl ⟨_, rfl, ⟨by rw [wi64]; omega, h1, h2, h3⟩, hi'⟩)
        · have hi' : i = N := by have := of_decide_eq_false h; omega
          subst hi'
          refine Yld.some (.inr ⟨_, rfl, oin, ?_⟩)
          rw [hA, ← os]
          exact ds_ext (by omega) fun j h1 _ => oz j h1
      · rintro out ⟨oin, os⟩
        rw [halves] at os
        have rl := av_range (lo16_in oin)
        have rh := av_range (hi16_in oin)
        refine Yld.ln ?_
        show Yld (if decide (hi16 out ≠ A16.zero) = true then _ else _) _
        refine Yld.ite (fun h => ?_) (fun h => ?_)
        · have h' := of_decide_eq_true h
          have h1 : av (hi16 out) ≠ 0 := fun e => h' ((zero_iff (hi16_in oin)).2 e)
          refine Yld.bindE (Bad_y F) (Yld.some ?_)
          refine (big_out ?_).symm
          rw [absZ_in, absZ_mul, ← os]
          have h2 : MM * 1 ≤ MM * av (hi16 out) := Int.mul_le_mul_of_nonneg_left (by omega) (Int.le_of_lt MM_pos)
          omega
        · have h' : hi16 out = A16.zero := by simpa using h
          have h1 : av (hi16 out) = 0 := by rw [h', av_zero]
          rw [h1, Int.mul_zero, Int.add_zero] at os
          show Yld (Option.bind (whole_signed_S F (decide (a < 0) != decide (b < 0)) (lo16 out)) _) _
          refine Yld.bindE (signed_y F _ (lo16_in oin)) (Yld.some ?_)
          rw [os]
          congr 1
          cases hs : (decide (a < 0) != decide (b < 0)) with
          | true => rw [if_pos rfl, sgn_mul hs]
          | false => rw [if_neg (by simp), sgn_mul' hs]
end Go.Proofs.YtaigaoifloldcaaDoor

/- The plain law of chapter 03: the seat's sanity, by reckoning. -/
namespace Go.Sk
def decK : Nat → Nat → Str
  | 0, _ => []
  | f + 1, u => if u < 10 then [UInt8.ofNat (48 + u)] else decK f (u / 10) ++ [UInt8.ofNat (48 + u % 10)]
theorem decK_eq : ∀ (f u : Nat), u < f → decK f u = Lib.decDigits u
  | 0, u, h => absurd h (Nat.not_lt_zero u)
  | f + 1, u, h => by
    rw [Lib.decDigits]
    unfold decK
    split
    · rfl
    · rw [decK_eq f (u / 10) (by omega)]
def itoaK (n : Int) : Str := if n < 0 then 45 :: decK (n.natAbs + 1) n.natAbs else decK (n.toNat + 1) n.toNat
theorem itoaK_eq (n : Int) : Lib.itoa n = itoaK n := by
  unfold itoaK Lib.itoa
  rw [decK_eq _ _ (Nat.lt_succ_self _), decK_eq _ _ (Nat.lt_succ_self _)]
def itoaK? (n : Int) : Option Str := if (itoaK n).length ≤ 1000000000 then some (itoaK n) else none
theorem itoaK?_eq : itoa? = itoaK? := by
  funext n
  unfold itoa? itoaK?
  rw [itoaK_eq]
end Go.Sk
namespace Go.Proofs.YtaigaoifloldcaaDoor
open Go Go.Sk
set_option maxRecDepth 100000
def FF : Nat := 13407807929942597099574024998205846127479365820592393377723561443721764030073546976801874298166903427690031858186486050853753882811946569946433649006084097
theorem FF1 : 100 < FF := by decide +kernel
theorem FF2 : 100000 < FF := by decide +kernel
theorem itoa_S_K : strconv_Itoa_S = fun _ n => itoaK? n := by
  funext F n
  unfold strconv_Itoa_S
  rw [itoaK?_eq]
theorem sane_text : whole_Text_S FF (big 1208925819614629174706176) = some [49, 50, 48, 56, 57, 50, 53, 56, 49, 57, 54, 49, 52, 54, 50, 57, 49, 55, 52, 55, 48, 54, 49, 55, 54] := by
  unfold whole_Text_S
  rw [itoa_S_K]
  decide +kernel
theorem sane_of : whole_Of_S FF 1099511627776 = some (big 1099511627776) := by decide +kernel
theorem sane_mul : whole_Mul_S FF (big 1099511627776) (big 1099511627776) = some (big 1208925819614629174706176) := by decide +kernel
theorem bind_eq {α β : Type} {o : Option α} {a : α} {f : α → Option β} {r : Option β} (h : o = some a) (hr : f a = r) : Option.bind o f = r := by rw [h]; exact hr
theorem sanity_y : skewbacklaw03_sanity_S FF = some true := by
  unfold skewbacklaw03_sanity_S
  refine bind_eq sane_of (bind_eq (a := big 7) (by decide +kernel) (bind_eq (a := big 2) (by decide +kernel) (bind_eq sane_mul (bind_eq sane_text ?_))))
  decide +kernel
end Go.Proofs.YtaigaoifloldcaaDoor

/- The plain law of chapter 03: what an argument brings. -/
namespace Go.Proofs.YtaigaoifloldcaaDoor
open Go Go.Sk
theorem inB_of {x : Big} {h : PH} {v : Value} (hx : (BV.agg (eBig x)).rel h (fun _ => .bool false) v) : inB x := by
  obtain ⟨cs, _, hr⟩ := hx
  unfold eBig at hr
  generalize cs.toList = L at hr
  cases hr with
  | cons _ hr =>
    cases hr with
    | cons _ hr =>
      have := ints_of_rel hr
      intro i
      by_cases hi : i < x.W.l.length
      · have h1 := this x.W.l[i] (List.getElem_mem hi)
        have e : dg x.W.l i = x.W.l[i] := by simp [dg, List.getD, List.getElem?_eq_getElem hi]
        rw [e]
        have h2 : 0 ≤ x.W.l[i] ∧ x.W.l[i] ≤ 4294967295 := by simpa [inR, IntKind.min, IntKind.max, IntKind.signed, IntKind.bits] using h1
        omega
      · rw [dg_ge (by omega)]; decide
theorem in64_of {x : Int} {h : PH} {v : Value} (hx : (BV.one (.int .i64 x)).rel h (fun _ => .bool false) v) : -9223372036854775808 ≤ x ∧ x ≤ 9223372036854775807 := by
  have h1 : v = .int .i64 x ∧ inR .i64 x := hx
  exact inR_i64_iff.1 h1.2
end Go.Proofs.YtaigaoifloldcaaDoor

/- The plain law of chapter 03: a ring. -/
namespace Go.Proofs.YtaigaoifloldcaaDoor
open Go Go.Sk
set_option linter.unusedSimpArgs false
set_option linter.unusedVariables false
theorem tb {g : Int → Int → Int} {u v : Int} (h : (two (fun a b => some (g a b)) (big u) (big v)).Bad = false) : two (fun a b => some (g a b)) (big u) (big v) = big (g u v) := by
  unfold two at h ⊢
  rw [iv_big', iv_big'] at h ⊢
  split at h
  · next a b h1 h2 =>
    have e1 : u = a := by split at h1 <;> simp_all
    have e2 : v = b := by split at h2 <;> simp_all
    subst e1 e2
    rfl
  · simp [bad] at h
theorem same {p q : Big} {z w : Int} (hp : p.Bad = false → p = big z) (hq : q.Bad = false → q = big w) (e : z = w) : ((!p.Bad && !q.Bad) && decide (p ≠ q)) = false := by
  cases h1 : p.Bad with
  | true => simp
  | false =>
    cases h2 : q.Bad with
    | true => simp
    | false => rw [hp h1, hq h2, e]; simp
theorem cmpZ_neg (a b : Int) : cmpZ a b = IntKind.i64.wrap (-cmpZ b a) := by
  unfold cmpZ
  rw [wi64]
  split <;> split <;> omega
theorem cmpZ_add (a b c : Int) : cmpZ (a + c) (b + c) = cmpZ a b := by
  have h1 : (a + c < b + c) = (a < b) := propext (by omega)
  have h2 : (b + c < a + c) = (b < a) := propext (by omega)
  unfold cmpZ
  simp only [h1, h2]
theorem Cmp_b {F : Nat} (hF : 100 < F) {a b : Int} (ra : -MM < a ∧ a < MM) (rb : -MM < b ∧ b < MM) : whole_Cmp_S F (big a) (big b) = some (cmpZ a b) := by
  rw [Cmp_y hF (big_in a) (big_in b), iv_big ra, iv_big rb]
theorem Add_b {F : Nat} (hF : 100 < F) {a b : Int} (ra : -MM < a ∧ a < MM) (rb : -MM < b ∧ b < MM) : whole_Add_S F (big a) (big b) = some (big (a + b)) := by
  rw [Add_y hF (big_in a) (big_in b), two_big ra rb]; rfl
theorem Sub_b {F : Nat} (hF : 100 < F) {a b : Int} (ra : -MM < a ∧ a < MM) (rb : -MM < b ∧ b < MM) : whole_Sub_S F (big a) (big b) = some (big (a - b)) := by
  rw [Sub_y hF (big_in a) (big_in b), two_big ra rb]; rfl
theorem Mul_b {F : Nat} (hF : 100 < F) {a b : Int} (ra : -MM < a ∧ a < MM) (rb : -MM < b ∧ b < MM) : whole_Mul_S F (big a) (big b) = some (big (a * b)) := by
  rw [Mul_y hF (big_in a) (big_in b), two_big ra rb]; rfl
theorem ring_y {x y z : Big} (hx : inB x) (hy : inB y) (hz : inB z) : skewbacklaw03_WholeIsARing_S FF x y z = some true := by
  refine Yld.eq ?_
  unfold skewbacklaw03_WholeIsARing_S
  refine Yld.bindE (rGood_y FF2 hx) ?_
  cases ha : iv x with
  | none =>
    rw [iv_none ha]
    exact Yld.g0 rfl (Yld.g0 rfl (Yld.ift rfl (Yld.bindE sanity_y (Yld.some rfl))))
  | some a =>
    obtain ⟨ga, rfl, ra⟩ := iv_some hx ha
    rw [ga]
    refine Yld.g1 rfl (Yld.bindE (rGood_y FF2 hy) ?_)
    cases hb : iv y with
    | none =>
      rw [iv_none hb]
      exact Yld.g0 rfl (Yld.ift rfl (Yld.bindE sanity_y (Yld.some rfl)))
    | some b =>
      obtain ⟨gb, rfl, rb⟩ := iv_some hy hb
      rw [gb]
      refine Yld.g1 rfl (Yld.bindE (rGood_y FF2 hz) ?_)
      cases hc : iv z with
      | none =>
        rw [iv_none hc]
        exact Yld.ift rfl (Yld.bindE sanity_y (Yld.some rfl))
      | some c =>
        obtain ⟨gc, rfl, rc⟩ := iv_some hz hc
        rw [gc]
        refine Yld.iff rfl (Yld.bindE (Add_b FF1 ra rb) (Yld.bindE (Add_y FF1 (big_in _) (big_in _)) (Yld.bindE (Add_b FF1 rb rc) (Yld.bindE (Add_y FF1 (big_in _) (big_in _)) ?_))))
        have c1 := same (z := a + b + c) (w := a + (b + c)) (tb (u := a + b) (v := c) (g := fun a b => a + b)) (tb (u := a) (v := b + c) (g := fun a b => a + b)) (by omega)
        rw [c1]
        refine Yld.g1 rfl (Yld.bindE (Add_b FF1 ra rb) (Yld.g1 rfl (Yld.bindE (Add_b FF1 rb ra) ?_)))
        have c2 : decide (big (a + b) ≠ big (b + a)) = false := by rw [Int.add_comm]; simp
        rw [c2]
        refine Yld.g1 rfl (Yld.bindE (Mul_b FF1 ra rb) (Yld.g1 rfl (Yld.bindE (Mul_b FF1 rb ra) ?_)))
        have c3 : decide (big (a * b) ≠ big (b * a)) = false := by rw [Int.mul_comm]; simp
        rw [c3]
        refine Yld.iff rfl (Yld.bindE (Mul_b FF1 ra rb) (Yld.bindE (Mul_y FF1 (big_in _) (big_in _)) (Yld.bindE (Mul_b FF1 rb rc) (Yld.bindE (Mul_y FF1 (big_in _) (big_in _)) ?_))))
        have c4 := same (z := a * b * c) (w := a * (b * c)) (tb (u := a * b) (v := c) (g := fun a b => a * b)) (tb (u := a) (v := b * c) (g := fun a b => a * b)) (Int.mul_assoc a b c)
        rw [c4]
        refine Yld.iff rfl (Yld.bindE (Add_b FF1 rb rc) (Yld.bindE (Mul_y FF1 (big_in _) (big_in _)) (Yld.bindE (Mul_b FF1 ra rb) (Yld.bindE (Mul_b FF1 ra rc) (Yld.bindE (Add_y FF1 (big_in _) (big_in _)) ?_)))))
        have c5 := same (z := a * (b + c)) (w := a * b + a * c) (tb (u := a) (v := b + c) (g := fun a b => a * b)) (tb (u := a * b) (v := a * c) (g := fun a b => a + b)) (Int.mul_add a b c)
        rw [c5]
        refine Yld.iff rfl (Yld.bindE (Add_b FF1 ra rb) ?_)
        refine Yld.bind (P := fun r => (!(big (a + b)).Bad && decide (r ≠ big a)) = false) ?_ ?_
        · by_cases h : -MM < a + b ∧ a + b < MM
          · have hbad : (big (a + b)).Bad = false := by rw [big_Bad]; simp [h]
            rw [hbad]
            unfold gcall
            rw [if_pos (by rfl), Sub_b FF1 h rb]
            refine Yld.some ?_
            have : a + b - b = a := by omega
            rw [this]; simp
          · have hbad : (big (a + b)).Bad = true := by rw [big_Bad]; simp [h]
            rw [hbad]
            unfold gcall
            rw [if_neg (by simp)]
            exact Yld.some rfl
        · intro r hr
          rw [hr]
          refine Yld.iff rfl (Yld.bindE (Add_b FF1 ra rc) (Yld.bindE (Add_b FF1 rb rc) (Yld.bindE sanity_y ?_)))
          by_cases h : (-MM < a + c ∧ a + c < MM) ∧ (-MM < b + c ∧ b + c < MM)
          · have h1 : (big (a + c)).Bad = false := by rw [big_Bad]; simp [h.1]
            have h2 : (big (b + c)).Bad = false := by rw [big_Bad]; simp [h.2]
            rw [h1, h2]
            refine Yld.g1 rfl (Yld.bindE (Cmp_b FF1 h.1 h.2) (Yld.g1 rfl (Yld.bindE (Cmp_b FF1 ra rb) ?_)))
            rw [cmpZ_add, decide_eq_true rfl]
            refine Yld.g1 rfl (Yld.bindE (Cmp_b FF1 ra rb) (Yld.g1 rfl (Yld.bindE (Cmp_b FF1 rb ra) (Yld.some ?_))))
            rw [decide_eq_true (cmpZ_neg a b)]; rfl
          · have h1 : ((big (a + c)).Bad || (big (b + c)).Bad) = true := by
              rw [big_Bad, big_Bad]
              by_cases h3 : -MM < a + c ∧ a + c < MM
              · have h4 : ¬ (-MM < b + c ∧ b + c < MM) := fun h4 => h ⟨h3, h4⟩
                simp [h4]
              · simp [h3]
            rw [h1]
            refine Yld.g0 rfl (Yld.g0 rfl (Yld.g1 rfl (Yld.bindE (Cmp_b FF1 ra rb) (Yld.g1 rfl (Yld.bindE (Cmp_b FF1 rb ra) (Yld.some ?_))))))
            rw [decide_eq_true (cmpZ_neg a b)]; rfl
end Go.Proofs.YtaigaoifloldcaaDoor

/- The statement's contract. -/
namespace Go.Proofs.YtaigaoifloldcaaDoor
open Go Go.Sk
theorem ring_law (x y z : Big) (hx : inB x) (hy : inB y) (hz : inB z) : Meets Tryd.prog tabs 7 [] [.agg (eBig x), .agg (eBig y), .agg (eBig z)] (Is [] (.b (.one (.bool true)))) :=
  skewbacklaw03_WholeIsARing_spec (ring_y hx hy hz)
end Go.Proofs.YtaigaoifloldcaaDoor
