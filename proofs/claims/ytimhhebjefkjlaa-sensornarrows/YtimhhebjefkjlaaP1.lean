/- the plain law -/
import Derived.Test.YtimhhebjefkjlaaW2
namespace Go.Proofs.Ytimhhebjefkjlaa
open Go Go.Sk
set_option linter.unusedVariables false
set_option linter.unusedSimpArgs false
def Wk (g : List GEdge) : Int → List GEdge → Int → Prop
 | a, [], b => a = b
 | a, e :: L, b => e ∈ g ∧ e.src = a ∧ Wk g e.to L b
def wt : List GEdge → Int
 | [] => 0
 | e :: L => e.weight + wt L
theorem wt_append : ∀ L M : List GEdge, wt (L ++ M) = wt L + wt M
 | [], M => by simp [wt]
 | e :: L, M => by simp only [List.cons_append, wt, wt_append L M]; omega
theorem wk_append {g : List GEdge} {c : Int} {M : List GEdge} : ∀ {L : List GEdge} {a : Int}, Wk g a (L ++ M) c ↔ ∃ b, Wk g a L b ∧ Wk g b M c
 | [], a => by simp [Wk]
 | e :: L, a => by
  simp only [List.cons_append, Wk, wk_append (L := L)]
  constructor
  ·rintro ⟨h1, h2, b, h3, h4⟩
   exact ⟨b, ⟨h1, h2, h3⟩, h4⟩
  ·rintro ⟨b, ⟨h1, h2, h3⟩, h4⟩
   exact ⟨h1, h2, b, h3, h4⟩
theorem wk_mono {g g' : List GEdge} (h : ∀ e ∈ g, e ∈ g') : ∀ {L : List GEdge} {a b : Int}, Wk g a L b → Wk g' a L b
 | [], _, _, hw => hw
 | e :: L, a, b, ⟨h1, h2, h3⟩ => ⟨h e h1, h2, wk_mono h h3⟩
theorem wk_mem {g : List GEdge} : ∀ {L : List GEdge} {a b : Int}, Wk g a L b → ∀ e ∈ L, e ∈ g
 | [], _, _, _, e, h => by cases h
 | e :: L, a, b, ⟨h1, h2, h3⟩, e', h => by
  rcases List.mem_cons.1 h with rfl | h
  ·exact h1
  ·exact wk_mem h3 e' h
def NoNeg (g : List GEdge) : Prop := ∀ a L, Wk g a L a → 0 ≤ wt L
theorem nn_mono {g g' : List GEdge} (h : ∀ e ∈ g, e ∈ g') (hn : NoNeg g') : NoNeg g := fun a L hw => hn a L (wk_mono h hw)
theorem dup (f : GEdge → Int) : ∀ L : List GEdge, (L.map f).Nodup ∨ ∃ X e Y e' Z, L = X ++ e :: (Y ++ e' :: Z) ∧ f e = f e'
 | [] => .inl (by simp)
 | e :: L => by
  rcases dup f L with h | ⟨X, e1, Y, e2, Z, rfl, h⟩
  ·by_cases hm : f e ∈ L.map f
   ·obtain ⟨e', h1, h2⟩ := List.mem_map.1 hm
    obtain ⟨Y, Z, rfl⟩ := List.append_of_mem h1
    exact .inr ⟨[], e, Y, e', Z, rfl, h2.symm⟩
   ·left
    rw [List.map_cons, List.nodup_cons]
    exact ⟨hm, h⟩
  ·exact .inr ⟨e :: X, e1, Y, e2, Z, rfl, h⟩
theorem red {g : List GEdge} (hn : NoNeg g) {b : Int} : ∀ (k : Nat) {L : List GEdge} {a : Int}, L.length ≤ k → Wk g a L b → ∃ L', Wk g a L' b ∧ wt L' ≤ wt L ∧ (a :: L'.map (·.to)).Nodup
 | k, [], a, _, hw => ⟨[], hw, Int.le_refl _, by simp⟩
 | 0, e :: L, a, hk, hw => by simp at hk
 | k + 1, e0 :: L0, a, hk, hw => by
  generalize hL : e0 :: L0 = L at *
  by_cases hm : a ∈ L.map (·.to)
  ·obtain ⟨e, h1, h2⟩ := List.mem_map.1 hm
   obtain ⟨X, Y, rfl⟩ := List.append_of_mem h1
   obtain ⟨c, hX, h3, h4, h5⟩ := wk_append.1 hw
   obtain ⟨L', i1, i2, i3⟩ := red hn k (L := Y) (a := a) (by simp only [List.length_append, List.length_cons] at hk; omega) (by have h2' : e.to = a := h2; rw [h2'] at h5; exact h5)
   refine ⟨L', i1, ?_, i3⟩
   have hc := hn a (X ++ [e]) (wk_append.2 ⟨c, hX, h3, h4, h2⟩)
   rw [wt_append] at hc
   simp only [wt_append, wt] at hc ⊢
   omega
  ·rcases dup (·.to) L with h | ⟨X, e, Y, e', Z, rfl, he⟩
   ·exact ⟨L, hw, Int.le_refl _, List.nodup_cons.2 ⟨hm, h⟩⟩
   ·obtain ⟨c, hX, h3, h4, h5⟩ := wk_append.1 hw
    obtain ⟨c', hY, h6, h7, h8⟩ := wk_append.1 h5
    have he' : e.to = e'.to := he
    obtain ⟨L', i1, i2, i3⟩ := red hn k (L := X ++ e :: Z) (a := a) (by simp only [List.length_append, List.length_cons] at hk ⊢; omega) (wk_append.2 ⟨c, hX, h3, h4, by rw [he']; exact h8⟩)
    refine ⟨L', i1, ?_, i3⟩
    have hc := hn e.to (Y ++ [e']) (wk_append.2 ⟨c', hY, h6, h7, he'.symm⟩)
    simp only [wt_append, wt] at hc i2 ⊢
    omega
theorem nodup_len : ∀ {l m : List Int}, l.Nodup → (∀ x ∈ l, x ∈ m) → l.length ≤ m.length
 | [], m, _, _ => by simp
 | a :: l, m, hn, h => by
  rw [List.nodup_cons] at hn
  have ha : a ∈ m := h a List.mem_cons_self
  obtain ⟨X, Y, rfl⟩ := List.append_of_mem ha
  have h1 : l.length ≤ (X ++ Y).length := nodup_len hn.2 fun x hx => by
   have h2 := h x (List.mem_cons_of_mem _ hx)
   simp only [List.mem_append, List.mem_cons] at h2 ⊢
   rcases h2 with h2 | h2 | h2
   ·exact .inl h2
   ·subst h2; exact absurd hx hn.1
   ·exact .inr h2
  simp only [List.length_append, List.length_cons] at h1 ⊢
  omega
def InR (n : Int) (g : List GEdge) : Prop := ∀ e ∈ g, (0 ≤ e.src ∧ e.src ≤ n) ∧ 0 ≤ e.to ∧ e.to ≤ n
def upto (n : Int) : List Int := (List.range (n + 1).toNat).map fun i : Nat => (i : Int)
theorem mem_upto {n x : Int} : x ∈ upto n ↔ 0 ≤ x ∧ x ≤ n := by
 simp only [upto, List.mem_map, List.mem_range]
 constructor
 ·rintro ⟨i, h, rfl⟩; omega
 ·rintro ⟨h1, h2⟩; exact ⟨x.toNat, by omega, by omega⟩
theorem upto_len (n : Int) : (upto n).length = (n + 1).toNat := by simp [upto]
theorem short {g : List GEdge} (hn : NoNeg g) {a b : Int} {L : List GEdge} (hw : Wk g a L b) : ∃ L', Wk g a L' b ∧ wt L' ≤ wt L ∧ L'.length ≤ g.length := by
 obtain ⟨L', h1, h2, h3⟩ := red hn L.length (Nat.le_refl _) hw
 refine ⟨L', h1, h2, ?_⟩
 have := nodup_len (m := g.map (·.to)) (List.nodup_cons.1 h3).2 (fun x hx => by
  obtain ⟨e, he, rfl⟩ := List.mem_map.1 hx
  exact List.mem_map.2 ⟨e, wk_mem h1 e he, rfl⟩)
 simpa using this
structure MinNeg (g : List GEdge) (a : Int) (L : List GEdge) : Prop where
 wk : Wk g a L a
 neg : wt L < 0
 min : ∀ b M, Wk g b M b → wt M < 0 → L.length ≤ M.length
theorem least_nat {p : Nat → Prop} : ∀ n, p n → ∃ m, p m ∧ ∀ k, p k → m ≤ k := by
 intro n
 induction n using Nat.strongRecOn with
 | ind n ih =>
  intro hp
  by_cases h : ∃ k, p k ∧ k < n
  ·obtain ⟨k, h1, h2⟩ := h
   exact ih k h2 h1
  ·exact ⟨n, hp, fun k hk => Nat.le_of_not_lt fun hlt => h ⟨k, hk, hlt⟩⟩
theorem minneg {g : List GEdge} (h : ¬ NoNeg g) : ∃ a L, MinNeg g a L := by
 have h1 : ∃ a L, Wk g a L a ∧ wt L < 0 := by
  apply Classical.byContradiction
  intro hc
  exact h fun a L hw => Int.not_lt.1 fun hlt => hc ⟨a, L, hw, hlt⟩
 obtain ⟨a, L, h2, h3⟩ := h1
 obtain ⟨m, ⟨b, M, m1, m2, m3⟩, hm⟩ := least_nat (p := fun k => ∃ b M, Wk g b M b ∧ wt M < 0 ∧ M.length = k) L.length ⟨a, L, h2, h3, rfl⟩
 exact ⟨b, M, m1, m2, fun c N n1 n2 => by rw [m3]; exact hm _ ⟨c, N, n1, n2, rfl⟩⟩
theorem MinNeg.to_nodup {g : List GEdge} {a : Int} {L : List GEdge} (h : MinNeg g a L) : (L.map (·.to)).Nodup := by
 rcases dup (·.to) L with h1 | ⟨X, e, Y, e', Z, rfl, he⟩
 ·exact h1
 ·exfalso
  have he' : e.to = e'.to := he
  obtain ⟨c, hX, h3, h4, h5⟩ := wk_append.1 h.wk
  obtain ⟨c', hY, h6, h7, h8⟩ := wk_append.1 h5
  have c1 : Wk g e.to (Y ++ [e']) e.to := wk_append.2 ⟨c', hY, h6, h7, he'.symm⟩
  have c2 : Wk g a (X ++ e :: Z) a := wk_append.2 ⟨c, hX, h3, h4, by rw [he']; exact h8⟩
  have hneg := h.neg
  have hs : wt (X ++ e :: (Y ++ e' :: Z)) = wt (Y ++ [e']) + wt (X ++ e :: Z) := by simp only [wt_append, wt]; omega
  rw [hs] at hneg
  by_cases h9 : wt (Y ++ [e']) < 0
  ·have := h.min _ _ c1 h9
   simp only [List.length_append, List.length_cons, List.length_nil] at this
   omega
  ·have := h.min _ _ c2 (by omega)
   simp only [List.length_append, List.length_cons, List.length_nil] at this
   omega
theorem MinNeg.len {g : List GEdge} {n : Int} (hi : InR n g) {a : Int} {L : List GEdge} (h : MinNeg g a L) : L.length ≤ (n + 1).toNat := by
 have := nodup_len (m := upto n) h.to_nodup (fun x hx => by
  obtain ⟨e, he, rfl⟩ := List.mem_map.1 hx
  exact mem_upto.2 (hi e (wk_mem h.wk e he)).2)
 rw [upto_len] at this
 simpa using this
end Go.Proofs.Ytimhhebjefkjlaa

namespace Go.Proofs.Ytimhhebjefkjlaa
open Go Go.Sk
set_option linter.unusedVariables false
set_option linter.unusedSimpArgs false
abbrev Ds := Int → Option Int
def Val (g : List GEdge) (d0 : Ds) (v x : Int) : Prop := ∃ a x0 L, d0 a = some x0 ∧ Wk g a L v ∧ x = x0 + wt L
def AllC (g : List GEdge) (d0 d : Ds) : Prop := ∀ v x, Val g d0 v x → ∃ y, d v = some y ∧ y ≤ x
def Snd (g : List GEdge) (d0 d : Ds) : Prop := ∀ v x, d v = some x → Val g d0 v x
structure Lst (g : List GEdge) (d0 d : Ds) : Prop where
 snd : Snd g d0 d
 cpl : AllC g d0 d
theorem Lst.unique {g : List GEdge} {d0 d d' : Ds} (h : Lst g d0 d) (h' : Lst g d0 d') : d = d' := by
 funext v
 have key : ∀ {d d' : Ds}, Lst g d0 d → Lst g d0 d' → ∀ x, d v = some x → ∃ y, d' v = some y ∧ y ≤ x := fun h h' x hx => h'.cpl v x (h.snd v x hx)
 cases e : d v with
 | none =>
  cases e' : d' v with
  | none => rfl
  | some y => obtain ⟨z, hz, _⟩ := key h' h y e'; rw [e] at hz; cases hz
 | some x =>
  obtain ⟨y, hy, h1⟩ := key h h' x e
  obtain ⟨z, hz, h2⟩ := key h' h y hy
  rw [e] at hz
  cases hz
  rw [hy]
  congr 1
  omega
theorem Val.step {g : List GEdge} {d0 : Ds} {e : GEdge} {x : Int} (h : Val g d0 e.src x) (he : e ∈ g) : Val g d0 e.to (x + e.weight) := by
 obtain ⟨a, x0, L, h1, h2, h3⟩ := h
 exact ⟨a, x0, L ++ [e], h1, wk_append.2 ⟨_, h2, he, rfl, rfl⟩, by rw [wt_append]; simp only [wt]; omega⟩
def Compl (g : List GEdge) (d0 : Ds) (k : Nat) (d : Ds) : Prop := ∀ v a x0 L, d0 a = some x0 → Wk g a L v → L.length ≤ k → ∃ y, d v = some y ∧ y ≤ x0 + wt L
theorem Compl.all {g : List GEdge} {d0 d : Ds} {k : Nat} (h : Compl g d0 k d) (hs : ∀ a b L, (d0 a).isSome → Wk g a L b → ∃ L', Wk g a L' b ∧ wt L' ≤ wt L ∧ L'.length ≤ k) : AllC g d0 d := by
 rintro v x ⟨a, x0, L, h1, h2, rfl⟩
 obtain ⟨L', h3, h4, h5⟩ := hs a v L (by rw [h1]; rfl) h2
 obtain ⟨y, h6, h7⟩ := h v a x0 L' h1 h3 h5
 exact ⟨y, h6, by omega⟩
def up (d : Ds) (v x : Int) : Ds := fun u => if u = v then some x else d u
structure Rd (g : List GEdge) (d0 dk : Ds) (j : Nat) (d : Ds) (c : Bool) : Prop where
 snd : Snd g d0 d
 mono : ∀ v x, dk v = some x → ∃ y, d v = some y ∧ y ≤ x
 done : ∀ i, i < j → ∀ e, g[i]? = some e → ∀ x, dk e.src = some x → ∃ y, d e.to = some y ∧ y ≤ x + e.weight
 same : c = false → d = dk
 all : AllC g d0 dk → c = false
theorem Rd.begin {g : List GEdge} {d0 dk : Ds} (h : Snd g d0 dk) : Rd g d0 dk 0 dk false := ⟨h, fun v x hx => ⟨x, hx, Int.le_refl _⟩, fun i hi => by omega, fun _ => rfl, fun _ => rfl⟩
theorem Rd.yes {g : List GEdge} {d0 dk d : Ds} {j : Nat} {c : Bool} (h : Rd g d0 dk j d c) {e : GEdge} (he : g[j]? = some e) {x : Int} (hx : d e.src = some x) (hy : ∀ y, d e.to = some y → x + e.weight < y) : Rd g d0 dk (j + 1) (up d e.to (x + e.weight)) true := by
 have hm : e ∈ g := List.mem_of_getElem? he
 have hv := (h.snd _ _ hx).step hm
 have ge : ∀ v y, d v = some y → ∃ z, up d e.to (x + e.weight) v = some z ∧ z ≤ y := fun v y h1 => by
  unfold up
  by_cases hc : v = e.to
  ·subst hc
   exact ⟨_, by rw [if_pos rfl], Int.le_of_lt (hy y h1)⟩
  ·exact ⟨y, by rw [if_neg hc]; exact h1, Int.le_refl _⟩
 refine ⟨fun v y h1 => ?_, fun v y h1 => ?_, fun i hi e' he' y h1 => ?_, fun h1 => by simp at h1, fun ha => ?_⟩
 ·unfold up at h1
  split at h1
  ·next hc => cases h1; subst hc; exact hv
  ·exact h.snd v y h1
 ·obtain ⟨z, h2, h3⟩ := h.mono v y h1
  obtain ⟨u, h4, h5⟩ := ge v z h2
  exact ⟨u, h4, by omega⟩
 ·by_cases hij : i = j
  ·subst hij
   rw [he] at he'
   cases he'
   obtain ⟨z, h2, h3⟩ := h.mono _ y h1
   rw [hx] at h2
   cases h2
   exact ⟨_, by unfold up; rw [if_pos rfl], by omega⟩
  ·obtain ⟨z, h2, h3⟩ := h.done i (by omega) e' he' y h1
   obtain ⟨u, h4, h5⟩ := ge _ z h2
   exact ⟨u, h4, by omega⟩
 ·obtain ⟨y, h1, h2⟩ := ha _ _ hv
  obtain ⟨z, h3, h4⟩ := h.mono _ y h1
  have := hy z h3
  omega
theorem Rd.no {g : List GEdge} {d0 dk d : Ds} {j : Nat} {c : Bool} (h : Rd g d0 dk j d c) {e : GEdge} (he : g[j]? = some e) (hy : ∀ x, d e.src = some x → ∃ y, d e.to = some y ∧ y ≤ x + e.weight) : Rd g d0 dk (j + 1) d c := by
 refine ⟨h.snd, h.mono, fun i hi e' he' y h1 => ?_, h.same, h.all⟩
 by_cases hij : i = j
 ·subst hij
  rw [he] at he'
  cases he'
  obtain ⟨z, h2, h3⟩ := h.mono _ y h1
  obtain ⟨u, h4, h5⟩ := hy z h2
  exact ⟨u, h4, by omega⟩
 ·exact h.done i (by omega) e' he' y h1
theorem Rd.next {g : List GEdge} {d0 dk d : Ds} {c : Bool} {k : Nat} (h : Rd g d0 dk g.length d c) (hk : Compl g d0 k dk) : Compl g d0 (k + 1) d := by
 intro v a x0 L h0 hw hl
 rcases List.eq_nil_or_concat L with rfl | ⟨M, e, rfl⟩
 ·obtain ⟨y, h1, h2⟩ := hk v a x0 [] h0 hw (by simp)
  obtain ⟨z, h3, h4⟩ := h.mono v y h1
  exact ⟨z, h3, by omega⟩
 ·rw [List.concat_eq_append] at hw hl ⊢
  obtain ⟨b, h1, h2, h3, h4⟩ := wk_append.1 hw
  obtain ⟨y, h5, h6⟩ := hk b a x0 M h0 h1 (by simp only [List.length_append, List.length_cons, List.length_nil] at hl; omega)
  obtain ⟨i, hi⟩ := List.mem_iff_getElem?.1 h2
  obtain ⟨z, h7, h8⟩ := h.done i (by have := (List.getElem?_eq_some_iff.1 hi).1; exact this) e hi y (by rw [h3]; exact h5)
  have h4' : e.to = v := h4
  exact ⟨z, by rw [← h4']; exact h7, by rw [wt_append]; simp only [wt]; omega⟩
theorem Rd.still {g : List GEdge} {d0 dk d : Ds} {c : Bool} {k : Nat} (h : Rd g d0 dk g.length d c) (hk : Compl g d0 k dk) (hc : c = false) : Lst g d0 d := by
 have hd := h.same hc
 subst hd
 refine ⟨h.snd, ?_⟩
 have key : ∀ (L : List GEdge) (a v x : Int), d a = some x → Wk g a L v → ∃ y, d v = some y ∧ y ≤ x + wt L := by
  intro L
  induction L with
  | nil => intro a v x h1 h2; cases h2; exact ⟨x, h1, by simp [wt]⟩
  | cons e L ih =>
   intro a v x h1 ⟨h2, h3, h4⟩
   obtain ⟨i, hi⟩ := List.mem_iff_getElem?.1 h2
   obtain ⟨z, h7, h8⟩ := h.done i (List.getElem?_eq_some_iff.1 hi).1 e hi x (by rw [h3]; exact h1)
   obtain ⟨y, h9, h10⟩ := ih e.to v z h7 h4
   exact ⟨y, h9, by simp only [wt]; omega⟩
 rintro v x ⟨a, x0, L, h1, h2, rfl⟩
 obtain ⟨y, h3, h4⟩ := hk a a x0 [] h1 rfl (by simp)
 obtain ⟨z, h5, h6⟩ := key L a v y h3 h2
 exact ⟨z, h5, by simp only [wt] at h4; omega⟩
theorem Lst.stable {g : List GEdge} {d0 d : Ds} (h : Lst g d0 d) {e : GEdge} (he : e ∈ g) {x : Int} (hx : d e.src = some x) : ∃ y, d e.to = some y ∧ y ≤ x + e.weight := h.cpl _ _ ((h.snd _ _ hx).step he)
theorem Lst.walk {g : List GEdge} {d0 d : Ds} (h : Lst g d0 d) {L : List GEdge} {a v x : Int} (hx : d a = some x) (hw : Wk g a L v) : ∃ y, d v = some y ∧ y ≤ x + wt L := by
 obtain ⟨b, x0, M, h1, h2, rfl⟩ := h.snd _ _ hx
 obtain ⟨y, h3, h4⟩ := h.cpl v (x0 + wt (M ++ L)) ⟨b, x0, M ++ L, h1, wk_append.2 ⟨_, h2, hw⟩, rfl⟩
 exact ⟨y, h3, by rw [wt_append] at h4; omega⟩
theorem Lst.noneg {g : List GEdge} {d0 d : Ds} (h : Lst g d0 d) (ha : ∀ e ∈ g, (d0 e.src).isSome) : NoNeg g := by
 intro a L hw
 cases L with
 | nil => simp [wt]
 | cons e L =>
  have h1 := ha e hw.1
  rw [hw.2.1] at h1
  obtain ⟨x0, h2⟩ := Option.isSome_iff_exists.1 h1
  obtain ⟨y, h3, _⟩ := h.cpl a x0 ⟨a, x0, [], h2, rfl, by simp [wt]⟩
  obtain ⟨z, h4, h5⟩ := h.walk h3 hw
  rw [h3] at h4
  cases h4
  omega
def Bd (t : Int) (d : Ds) : Prop := ∀ v x, d v = some x → -(t * 1099511627776) ≤ x ∧ x ≤ t * 1099511627776
theorem Bd.up {t : Int} {d : Ds} (h : Bd t d) {v u x w : Int} (hx : d u = some x) (hw : -1099511627776 ≤ w ∧ w ≤ 1099511627776) : Bd (t + 1) (up d v (x + w)) := by
 intro a y h1
 unfold Ytimhhebjefkjlaa.up at h1
 have h2 := h u x hx
 split at h1
 ·cases h1; constructor <;> omega
 ·have := h a y h1; constructor <;> omega
theorem Bd.mono {t t' : Int} {d : Ds} (h : Bd t d) (ht : t ≤ t') : Bd t' d := fun v x hx => by
 have := h v x hx
 constructor <;> omega
end Go.Proofs.Ytimhhebjefkjlaa

namespace Go.Proofs.Ytimhhebjefkjlaa
open Go Go.Sk
set_option maxRecDepth 100000
def ins1 (x : Int) : List Int → List Int
 | [] => [x]
 | y :: l => if x ≤ y then x :: y :: l else y :: ins1 x l
def isort : List Int → List Int
 | [] => []
 | x :: l => ins1 x (isort l)
theorem ins1_perm (x : Int) : ∀ l : List Int, (ins1 x l).Perm (x :: l)
 | [] => .refl _
 | y :: l => by
  unfold ins1
  split
  ·exact .refl _
  ·exact .trans (.cons y (ins1_perm x l)) (.swap x y l)
theorem isort_perm : ∀ l : List Int, (isort l).Perm l
 | [] => .refl _
 | x :: l => (ins1_perm x (isort l)).trans (.cons x (isort_perm l))
theorem ins1_pw (x : Int) : ∀ l : List Int, l.Pairwise (· ≤ ·) → (ins1 x l).Pairwise (· ≤ ·)
 | [], _ => by simp [ins1]
 | y :: l, h => by
  unfold ins1
  have h1 := List.pairwise_cons.1 h
  split
  ·next hc =>
   refine List.pairwise_cons.2 ⟨fun z hz => ?_, h⟩
   rcases List.mem_cons.1 hz with rfl | hz
   ·exact hc
   ·exact Int.le_trans hc (h1.1 z hz)
  ·next hc =>
   refine List.pairwise_cons.2 ⟨fun z hz => ?_, ins1_pw x l h1.2⟩
   rcases List.mem_cons.1 ((ins1_perm x l).mem_iff.1 hz) with rfl | hz
   ·omega
   ·exact h1.1 z hz
theorem isort_pw : ∀ l : List Int, (isort l).Pairwise (· ≤ ·)
 | [] => .nil
 | x :: l => ins1_pw x _ (isort_pw l)
theorem sorted_perm (l : List Int) : (sorted l).Perm l := List.mergeSort_perm _ _
theorem sorted_pw (l : List Int) : (sorted l).Pairwise (· ≤ ·) :=
 (List.pairwise_mergeSort (le := fun x y : Int => decide (x ≤ y)) (fun a b c h1 h2 => by simp only [decide_eq_true_eq] at *; omega) (fun a b => by simp only [Bool.or_eq_true, decide_eq_true_eq]; omega) l).imp fun h => of_decide_eq_true h
theorem sorted_eq (l : List Int) : sorted l = isort l :=
 List.Perm.eq_of_pairwise (fun a b _ _ h1 h2 => Int.le_antisymm h1 h2) (sorted_pw l) (isort_pw l) ((sorted_perm l).trans (isort_perm l).symm)
def sort2 (F : Nat) (zs : List Int) : Option (List Int) := if 0 < zs.length ∧ zs.length < 1000000000 then some (isort zs) else none
theorem sort_eq : slices_Sort_S = sort2 := by
 funext F zs
 unfold slices_Sort_S sortI? sort2
 rw [sorted_eq]
theorem sanity_ok : skewbacklaw39_sanity_S 2000 = some true := by
 unfold skewbacklaw39_sanity_S sensor_Contradiction_S
 rw [sort_eq]
 decide +kernel
end Go.Proofs.Ytimhhebjefkjlaa

namespace Go.Proofs.Ytimhhebjefkjlaa
open Go Go.Sk
set_option linter.unusedVariables false
set_option linter.unusedSimpArgs false
theorem mHas_some {m : MapI} {k x : Int} (h : mget m k = some x) : mHas m k = true := by unfold mHas; rw [h]; rfl
theorem mHas_none {m : MapI} {k : Int} (h : mget m k = none) : mHas m k = false := by unfold mHas; rw [h]; rfl
theorem mGet_some {m : MapI} {k x : Int} (h : mget m k = some x) : mGet m k = x := by unfold mGet; rw [h]; rfl
theorem mget_up (m : MapI) (k v : Int) : mget (mset m k v) = up (mget m) k v := by funext u; rw [mget_mset]; rfl
def Wts (g : List GEdge) : Prop := ∀ e ∈ g, -1099511627776 ≤ e.weight ∧ e.weight ≤ 1099511627776
theorem dtt {p : Prop} [Decidable p] (h : p) : decide p = true := decide_eq_true h
theorem dff {p : Prop} [Decidable p] (h : ¬p) : decide p = false := decide_eq_false h
theorem get_idx {g : List GEdge} {j : Nat} (h : j < g.length) : g[j]? = some (idx g (j : Int)) := by
 have := idx_eq (xs := g) (i := (j : Int)) (by omega) (by omega)
 simpa using this
theorem p_least {F : Nat} {g : List GEdge} {m0 : MapI} (hF : 100 < F) (hg : g.length ≤ 64) (hw : Wts g) (h0 : ∀ v x, mget m0 v = some x → x = 0) :
  Yld (sensor_graph_least_S F g m0) fun r => (r.1 = true ∧ Lst g (mget m0) (mget r.2)) ∨ (r.1 = false ∧ ¬ NoNeg g) := by
 unfold sensor_graph_least_S
 have e0 : IntKind.i64.wrap ((g.length : Int) + 2) = ((g.length + 2 : Nat) : Int) := by rw [wi64' (by omega) (by omega)]; omega
 refine Yld.bind (P := fun t => (∃ d, t = .inl d ∧ ¬ NoNeg g) ∨ (∃ d, t = .inr (true, d) ∧ Lst g (mget m0) (mget d))) ?_ ?_
 ·refine Yld.lnE _ e0 ?_
  refine Yld.rounds (g.length + 2) (fun k s => s.2 = (k : Int) ∧ Snd g (mget m0) (mget s.1) ∧ Compl g (mget m0) k (mget s.1) ∧ Bd (k * 64) (mget s.1) ∧ (NoNeg g → k ≤ g.length)) (by omega) ?_ ?_
  ·refine ⟨rfl, fun v x hx => ⟨v, x, [], hx, rfl, by simp [wt]⟩, fun v a x0 L h1 h2 h3 => ?_, fun v x hx => ?_, fun _ => Nat.zero_le _⟩
   ·cases L with
    | nil => cases h2; exact ⟨x0, h1, by simp [wt]⟩
    | cons e L => simp at h3
   ·have := h0 v x hx; subst this; simp
  ·rintro k ⟨dk, x⟩ hk ⟨hx, hs, hc, hb, hn⟩
   have hx' : x = (k : Int) := hx
   subst hx'
   refine Yld.ite (fun hlt => ?_) (fun hge => ?_)
   ·have hlt' : k < g.length + 2 := by have := of_decide_eq_true hlt; omega
    refine Yld.bind (P := fun t => (∃ d, t = .inl d ∧ Snd g (mget m0) (mget d) ∧ Compl g (mget m0) (k + 1) (mget d) ∧ Bd ((k + 1 : Nat) * 64) (mget d) ∧ (NoNeg g → k + 1 ≤ g.length)) ∨ (∃ d, t = .inr (true, d) ∧ Lst g (mget m0) (mget d))) ?_ ?_
    ·refine Yld.bind (P := fun t => Rd g (mget m0) (mget dk) g.length (mget t.1) t.2 ∧ Bd (k * 64 + g.length) (mget t.1)) ?_ ?_
     ·refine Yld.rounds g.length (fun j s => s.2.2 = (j : Int) ∧ Rd g (mget m0) (mget dk) j (mget s.1) s.2.1 ∧ Bd (k * 64 + j) (mget s.1)) (by omega) ⟨rfl, Rd.begin hs, by simpa using hb⟩ ?_
      rintro j ⟨d, c, x⟩ hj ⟨hx, hr, hbd⟩
      have hx' : x = (j : Int) := hx
      subst hx'
      refine Yld.ite (fun hlt => ?_) (fun hge => ?_)
      ·have hj' : j < g.length := by have := of_decide_eq_true hlt; omega
       have he := get_idx hj'
       have hwe := hw _ (List.mem_of_getElem? he)
       refine Yld.bind (P := fun t => Rd g (mget m0) (mget dk) (j + 1) (mget t.1) t.2 ∧ Bd (k * 64 + (j + 1 : Nat)) (mget t.1)) ?_ ?_
       ·refine Yld.idx (by omega) (by omega) (Yld.ln ?_)
        generalize idx g (j : Int) = e at he hwe
        cases hs1 : mget d e.src with
        | none =>
         refine Yld.iff (by rw [mHas_none hs1]; rfl) (Yld.some ⟨hr.no he fun x hx => ?_, hbd.mono (by omega)⟩)
         rw [hs1] at hx; cases hx
        | some x =>
         have hbx := hbd _ _ hs1
         have hwr : IntKind.i64.wrap (mGet d e.src + e.weight) = x + e.weight := by rw [mGet_some hs1]; exact wi64' (by omega) (by omega)
         rw [hwr, mHas_some hs1]
         have yes : (∀ y, mget d e.to = some y → x + e.weight < y) → Rd g (mget m0) (mget dk) (j + 1) (mget (mset d e.to (x + e.weight))) true ∧ Bd (k * 64 + (j + 1 : Nat)) (mget (mset d e.to (x + e.weight))) := fun hy => by
          rw [mget_up]
          exact ⟨hr.yes he hs1 hy, (hbd.up hs1 hwe).mono (by omega)⟩
         cases ht : mget d e.to with
         | none =>
          refine Yld.ift (by rw [mHas_none ht]; rfl) (Yld.some (yes fun y hy => ?_))
          rw [ht] at hy; cases hy
         | some y =>
          rw [mHas_some ht, mGet_some ht]
          by_cases hy : x + e.weight < y
          ·refine Yld.ift (by rw [dtt hy]; rfl) (Yld.some (yes fun y' hy' => ?_))
           rw [ht] at hy'; cases hy'; exact hy
          ·refine Yld.iff (by rw [dff hy]; rfl) (Yld.some ⟨hr.no he fun x' hx' => ?_, hbd.mono (by omega)⟩)
           rw [hs1] at hx'; cases hx'
           exact ⟨y, ht, by omega⟩
       ·rintro ⟨d', c'⟩ ⟨h1, h2⟩
        exact Yld.some (.inl ⟨_, rfl, ⟨wi64' (by omega) (by omega), h1, h2⟩, hj'⟩)
      ·have hj' : j = g.length := by have := of_decide_eq_false hge; omega
       subst hj'
       exact Yld.some (.inr ⟨_, rfl, hr, hbd⟩)
     ·rintro ⟨d, c⟩ ⟨hr, hbd⟩
      cases c with
      | false => exact Yld.some (.inr ⟨_, rfl, hr.still hc rfl⟩)
      | true =>
       refine Yld.some (.inl ⟨_, rfl, hr.snd, hr.next hc, hbd.mono (by omega), fun hnn => ?_⟩)
       have h1 := hn hnn
       by_cases h2 : k = g.length
       ·subst h2
        have h3 := hr.all (hc.all fun a b L _ hw => short hnn hw)
        cases h3
       ·omega
    ·rintro t (⟨d, rfl, h1, h2, h3, h4⟩ | ⟨d, rfl, h1⟩)
     ·exact Yld.some (.inl ⟨_, rfl, ⟨wi64' (by omega) (by omega), h1, h2, h3, h4⟩, hlt'⟩)
     ·exact Yld.some (.inr ⟨_, rfl, .inr ⟨d, rfl, h1⟩⟩)
   ·refine Yld.some (.inr ⟨_, rfl, .inl ⟨dk, rfl, fun hnn => ?_⟩⟩)
    have h1 := hn hnn
    have h2 := of_decide_eq_false hge
    omega
 ·rintro t (⟨d, rfl, h1⟩ | ⟨d, rfl, h1⟩)
  ·exact Yld.some (.inr ⟨rfl, h1⟩)
  ·exact Yld.some (.inl ⟨rfl, h1⟩)
end Go.Proofs.Ytimhhebjefkjlaa

namespace Go.Proofs.Ytimhhebjefkjlaa
open Go Go.Sk
set_option linter.unusedVariables false
set_option linter.unusedSimpArgs false
def ge (e : REdge) : GEdge := ⟨e.From, e.To, e.Weight, e.Report⟩
def src (n start : Int) : Ds := fun v => if 0 ≤ v ∧ v ≤ n ∧ (start < 0 ∨ v = start) then some 0 else none
theorem src_zero {n start v x : Int} (h : src n start v = some x) : x = 0 := by
 unfold src at h; split at h
 ·cases h; rfl
 ·cases h
end Go.Proofs.Ytimhhebjefkjlaa

namespace Go.Proofs.Ytimhhebjefkjlaa
open Go Go.Sk
set_option linter.unusedVariables false
set_option linter.unusedSimpArgs false
theorem Yld_each {α ι β : Type} {B : ι → α → Option (ι ⊕ β)} (I : List α → ι → Prop) (R : β → Prop) (all : List α) (step : ∀ pre x suf v, all = pre ++ x :: suf → I pre v → Yld (B v x) fun z => (∃ v', z = .inl v' ∧ I (pre ++ [x]) v') ∨ ∃ y, z = .inr y ∧ R y) :
  ∀ (xs pre : List α) (v : ι), all = pre ++ xs → I pre v → Yld (each B xs v) fun z => (∃ v', z = .inl v' ∧ I all v') ∨ ∃ y, z = .inr y ∧ R y
 | [], pre, v, he, h => by
  rw [List.append_nil] at he
  subst he
  exact ⟨_, rfl, .inl ⟨v, rfl, h⟩⟩
 | x :: xs, pre, v, he, h => by
  obtain ⟨z, hz, h1⟩ := step pre x xs v he h
  unfold each
  rw [hz]
  rcases h1 with ⟨v', rfl, h2⟩ | ⟨y, rfl, h2⟩
  ·exact Yld_each I R all step xs (pre ++ [x]) v' (by rw [he]; simp) h2
  ·exact ⟨_, rfl, .inr ⟨y, rfl, h2⟩⟩
theorem take_idx {α : Type} [Inhabited α] {l : List α} {i : Nat} (h : i < l.length) : l.take (i + 1) = l.take i ++ [idx l (i : Int)] := by
 rw [idx_nat l i h]
 exact List.take_succ_eq_append_getElem h
theorem cnt_append (l l' : List Report) (now : Int) : cnt (l ++ l') now = cnt l now ++ cntF now l.length l' := by
 unfold cnt
 rw [cntF_append]
 simp
theorem mem_cntF {now : Int} {i : Int} {r : Report} : ∀ {l : List Report} {s : Int}, (i, r) ∈ cntF now s l ↔ s ≤ i ∧ l[(i - s).toNat]? = some r ∧ r.Time ≤ now
 | [], s => by simp [cntF]
 | q :: l, s => by
  have ih := mem_cntF (l := l) (s := s + 1) (now := now) (i := i) (r := r)
  have key : (i, r) ∈ cntF now s (q :: l) ↔ (q.Time ≤ now ∧ i = s ∧ r = q) ∨ (i, r) ∈ cntF now (s + 1) l := by
   show (i, r) ∈ (if q.Time ≤ now then (s, q) :: cntF now (s + 1) l else cntF now (s + 1) l) ↔ _
   split
   ·next h => simp [h]
   ·next h => simp [h]
  rw [key, ih]
  constructor
  ·rintro (⟨h1, rfl, rfl⟩ | ⟨h1, h2, h3⟩)
   ·exact ⟨Int.le_refl _, by simp, h1⟩
   ·refine ⟨by omega, ?_, h3⟩
    have : (i - s).toNat = (i - (s + 1)).toNat + 1 := by omega
    rw [this, List.getElem?_cons_succ]
    exact h2
  ·rintro ⟨h1, h2, h3⟩
   by_cases e : i = s
   ·subst e
    left
    simp at h2
    subst h2
    exact ⟨h3, rfl, rfl⟩
   ·right
    have : (i - s).toNat = (i - (s + 1)).toNat + 1 := by omega
    rw [this, List.getElem?_cons_succ] at h2
    exact ⟨by omega, h2, h3⟩
theorem mem_cnt {l : List Report} {now : Int} {i : Int} {r : Report} : (i, r) ∈ cnt l now ↔ 0 ≤ i ∧ l[i.toNat]? = some r ∧ r.Time ≤ now := by
 unfold cnt
 rw [mem_cntF]
 simp
def two (i : Int) (r : Report) : List GEdge := [⟨r.A, r.B, r.Hi, i⟩, ⟨r.B, r.A, -r.Lo, i⟩]
def gr (l : List Report) (now axis : Int) : List GEdge := (cnt l now).flatMap fun p => if p.2.Axis = axis then two p.1 p.2 else []
structure Good (r : Report) : Prop where
 A : 0 ≤ r.A ∧ r.A ≤ 400
 B : 0 ≤ r.B ∧ r.B ≤ 400
 ne : r.A ≠ r.B
 axis : 0 ≤ r.Axis ∧ r.Axis ≤ 2
 lo : -1099511627776 ≤ r.Lo ∧ r.Lo ≤ 1099511627776
 hi : -1099511627776 ≤ r.Hi ∧ r.Hi ≤ 1099511627776
 time : 0 ≤ r.Time
theorem good_iff (r : Report) : Good r ↔ (0 ≤ r.A ∧ r.A ≤ 400) ∧ (0 ≤ r.B ∧ r.B ≤ 400) ∧ r.A ≠ r.B ∧ (0 ≤ r.Axis ∧ r.Axis ≤ 2) ∧ (-1099511627776 ≤ r.Lo ∧ r.Lo ≤ 1099511627776) ∧ (-1099511627776 ≤ r.Hi ∧ r.Hi ≤ 1099511627776) ∧ 0 ≤ r.Time :=
 ⟨fun h => ⟨h.1, h.2, h.3, h.4, h.5, h.6, h.7⟩, fun ⟨a, b, c, d, e, f, g⟩ => ⟨a, b, c, d, e, f, g⟩⟩
instance (r : Report) : Decidable (Good r) := decidable_of_iff _ (good_iff r).symm
def AllG (l : List Report) : Prop := ∀ r ∈ l, Good r
instance (l : List Report) : Decidable (AllG l) := inferInstanceAs (Decidable (∀ r ∈ l, Good r))
theorem mem_gr {l : List Report} {now axis : Int} {e : GEdge} : e ∈ gr l now axis ↔ ∃ i r, (i, r) ∈ cnt l now ∧ r.Axis = axis ∧ (e = ⟨r.A, r.B, r.Hi, i⟩ ∨ e = ⟨r.B, r.A, -r.Lo, i⟩) := by
 unfold gr
 rw [List.mem_flatMap]
 constructor
 ·rintro ⟨⟨i, r⟩, h1, h2⟩
  by_cases h3 : r.Axis = axis
  ·rw [if_pos h3] at h2
   simp only [two, List.mem_cons, List.not_mem_nil, or_false] at h2
   exact ⟨i, r, h1, h3, h2⟩
  ·rw [if_neg h3] at h2
   cases h2
 ·rintro ⟨i, r, h1, h2, h3⟩
  refine ⟨(i, r), h1, ?_⟩
  rw [if_pos h2]
  simp only [two, List.mem_cons, List.not_mem_nil, or_false]
  exact h3
theorem cnt_mem {l : List Report} {now i : Int} {r : Report} (h : (i, r) ∈ cnt l now) : r ∈ l := List.mem_of_getElem? (mem_cnt.1 h).2.1
theorem gr_wts {l : List Report} {now axis : Int} (hg : AllG l) : Wts (gr l now axis) := by
 intro e he
 obtain ⟨i, r, h1, h2, h3⟩ := mem_gr.1 he
 have h4 := hg r (cnt_mem h1)
 have h5 := h4.lo
 have h6 := h4.hi
 rcases h3 with rfl | rfl
 ·exact h6
 ·constructor <;> show _ ≤ _ <;> dsimp only <;> omega
theorem cntF_len (now : Int) : ∀ (l : List Report) (s : Int), (cntF now s l).length ≤ l.length
 | [], s => by simp [cntF]
 | r :: l, s => by
  have := cntF_len now l (s + 1)
  unfold cntF
  split <;> simp only [List.length_cons] <;> omega
theorem gr_len (l : List Report) (now axis : Int) : (gr l now axis).length ≤ 2 * l.length := by
 have h := cntF_len now l 0
 have key : ∀ xs : List (Int × Report), (xs.flatMap fun p => if p.2.Axis = axis then two p.1 p.2 else []).length ≤ 2 * xs.length := by
  intro xs
  induction xs with
  | nil => simp
  | cons x xs ih =>
   rw [List.flatMap_cons, List.length_append]
   have : (if x.2.Axis = axis then two x.1 x.2 else []).length ≤ 2 := by split <;> simp [two]
   simp only [List.length_cons]
   omega
 have := key (cnt l now)
 have h2 : (cnt l now).length ≤ l.length := h
 unfold gr
 omega
def tn (l : List Report) : Int := l.foldl (fun n r => max (max n r.A) r.B) 0
theorem tn_append (l : List Report) (r : Report) : tn (l ++ [r]) = max (max (tn l) r.A) r.B := by simp [tn, List.foldl_append]
theorem tn_fold : ∀ (l : List Report) (s : Int), s ≤ l.foldl (fun n r => max (max n r.A) r.B) s ∧ (∀ r ∈ l, r.A ≤ l.foldl (fun n r => max (max n r.A) r.B) s ∧ r.B ≤ l.foldl (fun n r => max (max n r.A) r.B) s) ∧ ∀ m, s ≤ m → (∀ r ∈ l, r.A ≤ m ∧ r.B ≤ m) → l.foldl (fun n r => max (max n r.A) r.B) s ≤ m
 | [], s => ⟨Int.le_refl _, fun r h => (by cases h), fun m h _ => h⟩
 | q :: l, s => by
  obtain ⟨h1, h2, h3⟩ := tn_fold l (max (max s q.A) q.B)
  rw [List.foldl_cons]
  refine ⟨by omega, fun r hr => ?_, fun m hs hm => ?_⟩
  ·rcases List.mem_cons.1 hr with rfl | hr
   ·constructor <;> omega
   ·exact h2 r hr
  ·have := hm q List.mem_cons_self
   exact h3 m (by omega) fun r hr => hm r (List.mem_cons_of_mem _ hr)
theorem tn_nonneg (l : List Report) : 0 ≤ tn l := (tn_fold l 0).1
theorem tn_ge {l : List Report} {r : Report} (h : r ∈ l) : r.A ≤ tn l ∧ r.B ≤ tn l := (tn_fold l 0).2.1 r h
theorem gr_inr {l : List Report} {now axis n : Int} (hg : AllG l) (hn : tn l ≤ n) : InR n (gr l now axis) := by
 intro e he
 obtain ⟨i, r, h1, h2, h3⟩ := mem_gr.1 he
 have hm := cnt_mem h1
 have h4 := hg r hm
 have h5 := h4.A
 have h6 := h4.B
 have h7 := tn_ge hm
 rcases h3 with rfl | rfl
 ·exact ⟨⟨h5.1, by show r.A ≤ n; omega⟩, h6.1, by show r.B ≤ n; omega⟩
 ·exact ⟨⟨h6.1, by show r.B ≤ n; omega⟩, h5.1, by show r.A ≤ n; omega⟩
theorem p_edges {F : Nat} {l : List Report} {now axis : Int} (hg : AllG l) (hl : l.length ≤ 1000) : sensor_edges_S F l now axis = some (gr l now axis) := by
 refine Yld.eq ?_
 unfold sensor_edges_S
 refine Yld.bind (Yld_each (fun pre out => out = pre.flatMap fun p => if p.2.Axis = axis then two p.1 p.2 else []) (fun _ => False) (cnt l now) ?_ (cnt l now) [] [] rfl rfl) ?_
 ·rintro pre ⟨i, r⟩ suf v he rfl
  have hm : (i, r) ∈ cnt l now := by rw [he]; simp
  have h4 := (hg r (cnt_mem hm)).lo
  have hlen : (pre.flatMap fun p => if p.2.Axis = axis then two p.1 p.2 else []).length ≤ 2000 := by
   have h1 := gr_len l now axis
   unfold gr at h1
   rw [he, List.flatMap_append, List.length_append] at h1
   omega
  by_cases h : r.Axis = axis
  ·refine Yld.ift (dtt h) (Yld.lnE _ rfl (Yld.app (by simp only [List.length_cons, List.length_nil]; omega) (Yld.some (.inl ⟨_, rfl, ?_⟩))))
   have hw : IntKind.i64.wrap (-r.Lo) = -r.Lo := wi64' (by omega) (by omega)
   rw [List.flatMap_append, List.flatMap_cons, List.flatMap_nil, List.append_nil, if_pos h]
   dsimp only
   rw [hw]
   rfl
  ·refine Yld.iff (dff h) (Yld.some (.inl ⟨_, rfl, ?_⟩))
   rw [List.flatMap_append, List.flatMap_cons, List.flatMap_nil, List.append_nil, if_neg h, List.append_nil]
 ·rintro z (⟨v, rfl, rfl⟩ | ⟨y, rfl, h⟩)
  ·exact Yld.some rfl
  ·exact h.elim
theorem p_things {F : Nat} {l : List Report} (hl : l.length ≤ 1000) (hF : 1000 < F) : sensor_things_S F l = some (tn l) := by
 refine Yld.eq ?_
 unfold sensor_things_S
 refine Yld.bind (P := fun n => n = tn l) (Yld.rounds l.length (fun k s => s.2 = (k : Int) ∧ s.1 = tn (l.take k)) (by omega) ⟨rfl, rfl⟩ ?_) fun x h => Yld.some h
 rintro k ⟨n, x⟩ hk ⟨hx, hs⟩
 have hx' : x = (k : Int) := hx
 subst hx'
 have hs' : n = tn (l.take k) := hs
 refine Yld.ite (fun hlt => ?_) (fun hge => ?_)
 ·have hk' : k < l.length := by have := of_decide_eq_true hlt; omega
  refine Yld.idx (by omega) (by omega) (Yld.some (.inl ⟨_, rfl, ⟨wi64' (by omega) (by omega), ?_⟩, hk'⟩))
  show max (max n _) _ = _
  rw [take_idx hk', tn_append, hs']
 ·have hk' : k = l.length := by have := of_decide_eq_false hge; omega
  subst hk'
  rw [List.take_length] at hs'
  exact Yld.some (.inr ⟨_, rfl, hs'⟩)
theorem r_things {F : Nat} {l : List Report} (hl : l.length ≤ 1000) (hF : 1000 < F) : skewbackref39_Things_S F l = some (tn l) := by
 refine Yld.eq ?_
 unfold skewbackref39_Things_S
 refine Yld.bind (P := fun n => n = tn l) (Yld.rounds l.length (fun k s => s.2 = (k : Int) ∧ s.1 = tn (l.take k)) (by omega) ⟨rfl, rfl⟩ ?_) fun x h => Yld.some h
 rintro k ⟨n, x⟩ hk ⟨hx, hs⟩
 have hx' : x = (k : Int) := hx
 subst hx'
 have hs' : n = tn (l.take k) := hs
 refine Yld.ite (fun hlt => ?_) (fun hge => ?_)
 ·have hk' : k < l.length := by have := of_decide_eq_true hlt; omega
  refine Yld.idx (by omega) (by omega) (Yld.idx (by omega) (by omega) (Yld.some (.inl ⟨_, rfl, ⟨wi64' (by omega) (by omega), ?_⟩, hk'⟩)))
  show max n (max _ _) = _
  rw [take_idx hk', tn_append, hs']
  dsimp only
  omega
 ·have hk' : k = l.length := by have := of_decide_eq_false hge; omega
  subst hk'
  rw [List.take_length] at hs'
  exact Yld.some (.inr ⟨_, rfl, hs'⟩)
end Go.Proofs.Ytimhhebjefkjlaa

namespace Go.Proofs.Ytimhhebjefkjlaa
open Go Go.Sk
set_option linter.unusedVariables false
set_option linter.unusedSimpArgs false
theorem good_dec (r : Report) : decide (Good r) = (decide (0 ≤ r.A ∧ r.A ≤ 400) && (decide (0 ≤ r.B ∧ r.B ≤ 400) && (decide (r.A ≠ r.B) && (decide (0 ≤ r.Axis ∧ r.Axis ≤ 2) && (decide (-1099511627776 ≤ r.Lo ∧ r.Lo ≤ 1099511627776) && (decide (-1099511627776 ≤ r.Hi ∧ r.Hi ≤ 1099511627776) && decide (0 ≤ r.Time))))))) := by
 rw [Bool.eq_iff_iff]
 simp only [Bool.and_eq_true, decide_eq_true_eq]
 exact good_iff r
theorem v1 (F : Nat) (n : Int) : sensor_valid_1_S F n = some (decide (0 ≤ n ∧ n ≤ 400)) := by
 unfold sensor_valid_1_S
 rw [Bool.decide_and]
theorem v2 (F : Nat) (n : Int) : sensor_valid_2_S F n = some (decide (-1099511627776 ≤ n ∧ n ≤ 1099511627776)) := by
 unfold sensor_valid_2_S letN
 rw [Bool.decide_and, Bool.and_comm]
theorem v3 (F : Nat) (n : Int) : skewbackref39_within_S F n = some (decide (-1099511627776 ≤ n ∧ n ≤ 1099511627776)) := by
 unfold skewbackref39_within_S letN
 rw [Bool.decide_and, Bool.and_comm]
theorem p_valid (F : Nat) (r : Report) : sensor_valid_S F r = some (decide (Good r)) := by
 unfold sensor_valid_S
 rw [good_dec]
 simp only [v1, v2, Bool.decide_and (p := 0 ≤ r.Axis)]
 generalize decide (0 ≤ r.A ∧ r.A ≤ 400) = p1
 generalize decide (0 ≤ r.B ∧ r.B ≤ 400) = p2
 generalize decide (r.A ≠ r.B) = p3
 generalize decide (0 ≤ r.Axis) = p4
 generalize decide (r.Axis ≤ 2) = p5
 generalize decide (-1099511627776 ≤ r.Lo ∧ r.Lo ≤ 1099511627776) = p6
 generalize decide (-1099511627776 ≤ r.Hi ∧ r.Hi ≤ 1099511627776) = p7
 generalize decide (0 ≤ r.Time) = p8
 revert p1 p2 p3 p4 p5 p6 p7 p8
 decide
theorem r_valid (F : Nat) (r : Report) : skewbackref39_Valid_S F r = some (decide (Good r)) := by
 unfold skewbackref39_Valid_S
 rw [good_dec]
 simp only [v3]
 have q1 : decide (r.A < 0) = !(decide (0 ≤ r.A)) := by rw [← decide_not]; exact decide_eq_decide.2 (by omega)
 have q2 : decide (400 < r.A) = !(decide (r.A ≤ 400)) := by rw [← decide_not]; exact decide_eq_decide.2 (by omega)
 have q3 : decide (r.B < 0) = !(decide (0 ≤ r.B)) := by rw [← decide_not]; exact decide_eq_decide.2 (by omega)
 have q4 : decide (400 < r.B) = !(decide (r.B ≤ 400)) := by rw [← decide_not]; exact decide_eq_decide.2 (by omega)
 have q5 : decide (r.A = r.B) = !(decide (r.A ≠ r.B)) := by rw [← decide_not]; exact decide_eq_decide.2 (by omega)
 have q6 : decide (r.Axis < 0) = !(decide (0 ≤ r.Axis)) := by rw [← decide_not]; exact decide_eq_decide.2 (by omega)
 have q7 : decide (2 < r.Axis) = !(decide (r.Axis ≤ 2)) := by rw [← decide_not]; exact decide_eq_decide.2 (by omega)
 rw [q1, q2, q3, q4, q5, q6, q7]
 simp only [Bool.decide_and (p := 0 ≤ r.Axis), Bool.decide_and (p := 0 ≤ r.A), Bool.decide_and (p := 0 ≤ r.B)]
 generalize decide (0 ≤ r.A) = a1
 generalize decide (r.A ≤ 400) = a2
 generalize decide (0 ≤ r.B) = b1
 generalize decide (r.B ≤ 400) = b2
 generalize decide (r.A ≠ r.B) = p3
 generalize decide (0 ≤ r.Axis) = p4
 generalize decide (r.Axis ≤ 2) = p5
 generalize decide (-1099511627776 ≤ r.Lo ∧ r.Lo ≤ 1099511627776) = p6
 generalize decide (-1099511627776 ≤ r.Hi ∧ r.Hi ≤ 1099511627776) = p7
 generalize decide (0 ≤ r.Time) = p8
 cases a1
 ·rfl
 cases a2
 ·rfl
 revert b1 b2 p3 p4 p5 p6 p7 p8
 decide
end Go.Proofs.Ytimhhebjefkjlaa

namespace Go.Proofs.Ytimhhebjefkjlaa
open Go Go.Sk
set_option linter.unusedVariables false
set_option linter.unusedSimpArgs false
theorem mem_take_idx {α : Type} [Inhabited α] {l : List α} {k : Nat} (hk : k < l.length) {r : α} : r ∈ l.take (k + 1) ↔ r ∈ l.take k ∨ r = idx l (k : Int) := by
 rw [take_idx hk]; simp
def ck (l : List Report) : Int := if 200 < l.length then 2 else if AllG l then 0 else 1
theorem r_check {F : Nat} {l : List Report} (hF : 1000 < F) : skewbackref39_Check_S F l = some (ck l) := by
 refine Yld.eq ?_
 unfold skewbackref39_Check_S ck
 refine Yld.ite (fun h => ?_) (fun h => ?_)
 ·rw [if_pos (by have := of_decide_eq_true h; omega)]
  exact Yld.some rfl
 ·have hl : ¬ 200 < l.length := by have := of_decide_eq_false h; omega
  rw [if_neg hl]
  refine Yld.bind (P := fun t => (t = .inl () ∧ AllG l) ∨ (t = .inr 1 ∧ ¬ AllG l)) (Yld.rounds l.length (fun k s => s = (k : Int) ∧ AllG (l.take k)) (by omega) ⟨rfl, fun r hr => by cases hr⟩ ?_) ?_
  ·rintro k s hk ⟨rfl, hg⟩
   refine Yld.ite (fun hlt => ?_) (fun hge => ?_)
   ·have hk' : k < l.length := by have := of_decide_eq_true hlt; omega
    refine Yld.idx (by omega) (by omega) (Yld.bindE (r_valid F _) ?_)
    by_cases h1 : Good (idx l (k : Int))
    ·refine Yld.iff (by rw [dtt h1]; rfl) (Yld.some (.inl ⟨_, rfl, ⟨wi64' (by omega) (by omega), fun r hr => ?_⟩, hk'⟩))
     rcases (mem_take_idx hk').1 hr with h2 | h2
     ·exact hg r h2
     ·rw [h2]; exact h1
    ·refine Yld.ift (by rw [dff h1]; rfl) (Yld.some (.inr ⟨_, rfl, .inr ⟨rfl, fun ha => h1 (ha _ (idx_mem (by omega) (by omega)))⟩⟩))
   ·have hk' : k = l.length := by have := of_decide_eq_false hge; omega
    subst hk'
    rw [List.take_length] at hg
    exact Yld.some (.inr ⟨_, rfl, .inl ⟨rfl, hg⟩⟩)
  ·rintro t (⟨rfl, h1⟩ | ⟨rfl, h1⟩)
   ·rw [if_pos h1]; exact Yld.some rfl
   ·rw [if_neg h1]; exact Yld.some rfl
structure FewP (l : List Report) (m : Nat) : Prop where
 len : l.length ≤ m
 good : AllG l
 tn : tn l ≤ 9
theorem r_few {F : Nat} {l : List Report} {m : Nat} (hF : 1000 < F) (hm : m ≤ 30) : Yld (skewbackref39_Few_S F l (m : Int)) fun b => b = true ↔ FewP l m := by
 unfold skewbackref39_Few_S
 by_cases h : (m : Int) < (l.length : Int)
 ·refine Yld.g0 (by rw [dtt h]; rfl) (Yld.ift (by rw [dtt h]; rfl) (Yld.some ⟨fun h1 => (by cases h1), fun h1 => by have := h1.len; omega⟩))
 ·refine Yld.g1 (by rw [dff h]; rfl) (Yld.bindE (r_check hF) ?_)
  unfold ck
  rw [if_neg (by omega : ¬ 200 < l.length)]
  by_cases h1 : AllG l
  ·rw [if_pos h1]
   refine Yld.iff (by rw [dff h]; rfl) (Yld.bindE (r_things (by omega) hF) (Yld.some ?_))
   rw [decide_eq_true_eq]
   exact ⟨fun h2 => ⟨by omega, h1, h2⟩, fun h2 => h2.tn⟩
  ·rw [if_neg h1]
   refine Yld.ift (by rw [dff h]; rfl) (Yld.some ⟨fun h1 => (by cases h1), fun h2 => absurd h2.good h1⟩)
theorem p_anywhere {F : Nat} {g : List GEdge} {n : Int} (hF : 100 < F) (hn0 : 0 ≤ n) (hn : n ≤ 20) (hg : g.length ≤ 64) (hw : Wts g) (hi : InR n g) :
  Yld (sensor_graph_anywhere_S F g n) fun r => (r.2 = true ∧ NoNeg g ∧ Lst g (src n (-1)) (mget r.1)) ∨ (r.2 = false ∧ ¬ NoNeg g) := by
 unfold sensor_graph_anywhere_S
 have e0 : IntKind.i64.wrap (n + 1) = n + 1 := wi64' (by omega) (by omega)
 refine Yld.bind (P := fun d => mget d = src n (-1)) ?_ ?_
 ·refine Yld.rounds (n + 1).toNat (fun k s => s.2 = (k : Int) ∧ ∀ v, mget s.1 v = if 0 ≤ v ∧ v < k then some 0 else none) (by omega) ⟨rfl, fun v => by rw [if_neg (by omega)]; rfl⟩ ?_
  rintro k ⟨d, x⟩ hk ⟨hx, hv⟩
  have hx' : x = (k : Int) := hx
  subst hx'
  have hv' : ∀ v, mget d v = if 0 ≤ v ∧ v < k then some 0 else none := hv
  rw [e0]
  refine Yld.ite (fun hlt => ?_) (fun hge => ?_)
  ·have hk' : (k : Int) < n + 1 := of_decide_eq_true hlt
   refine Yld.some (.inl ⟨_, rfl, ⟨wi64' (by omega) (by omega), fun v => ?_⟩, by omega⟩)
   show mget (mset d (k : Int) 0) v = _
   rw [mget_mset, hv']
   by_cases e : v = k
   ·rw [if_pos e, if_pos (by omega)]
   ·rw [if_neg e]
    by_cases e2 : 0 ≤ v ∧ v < (k : Int)
    ·rw [if_pos e2, if_pos (by omega)]
    ·rw [if_neg e2, if_neg (by omega)]
  ·have hk' := of_decide_eq_false hge
   refine Yld.some (.inr ⟨_, rfl, ?_⟩)
   funext v
   rw [hv']
   unfold src
   by_cases e2 : 0 ≤ v ∧ v < (k : Int)
   ·rw [if_pos e2, if_pos (by omega)]
   ·rw [if_neg e2, if_neg (by omega)]
 ·intro d hd
  refine Yld.bind (p_least (m0 := d) hF hg hw (fun v x h => by rw [hd] at h; exact src_zero h)) ?_
  rintro ⟨b, m⟩ (⟨h1, h2⟩ | ⟨h1, h2⟩)
  ·rw [hd] at h2
   refine Yld.some (.inl ⟨h1, h2.noneg fun e he => ?_, h2⟩)
   have := hi e he
   unfold src
   rw [if_pos (by omega)]; rfl
  ·exact Yld.some (.inr ⟨h1, h2⟩)
def one (t : Int) : Ds := fun v => if v = t then some 0 else none
theorem p_from {F : Nat} {g : List GEdge} {t : Int} (hF : 100 < F) (hg : g.length ≤ 64) (hw : Wts g) (hn : NoNeg g) :
  Yld (sensor_graph_from_S F g t) fun d => Lst g (one t) (mget d) := by
 unfold sensor_graph_from_S
 have e : mget (mset ([] : MapI) t 0) = one t := by
  funext v
  rw [mget_mset]
  rfl
 refine Yld.bind (p_least hF hg hw (fun v x h => ?_)) ?_
 ·rw [e] at h
  unfold one at h
  split at h
  ·cases h; rfl
  ·cases h
 rintro ⟨b, m⟩ (⟨h1, h2⟩ | ⟨h1, h2⟩)
 ·rw [e] at h2
  exact Yld.some h2
 ·exact absurd hn h2
def Cons (l : List Report) (now : Int) : Prop := ∀ a, 0 ≤ a → a < 3 → NoNeg (gr l now a)
structure Hy (l : List Report) : Prop where
 len : l.length ≤ 32
 good : AllG l
 tn : tn l ≤ 20
theorem FewP.hy {l : List Report} {m : Nat} (h : FewP l m) (hm : m ≤ 30) : Hy l := ⟨by have := h.len; omega, h.good, by have := h.tn; omega⟩
theorem Hy.glen {l : List Report} (h : Hy l) (now axis : Int) : (gr l now axis).length ≤ 64 := by
 have := gr_len l now axis
 have := h.len
 omega
theorem p_cons {F : Nat} {l : List Report} {now : Int} (hF : 1000 < F) (h : Hy l) : Yld (sensor_Consistent_S F l now) fun b => b = true ↔ Cons l now := by
 unfold sensor_Consistent_S
 have hl := h.len
 refine Yld.bind (P := fun t => (t = .inl () ∧ Cons l now) ∨ (t = .inr false ∧ ¬ Cons l now)) (Yld.rounds 3 (fun k s => s = (k : Int) ∧ ∀ a, 0 ≤ a → a < (k : Int) → NoNeg (gr l now a)) (by omega) ⟨rfl, fun a h1 h2 => by omega⟩ ?_) ?_
 ·rintro k s hk ⟨rfl, hg⟩
  refine Yld.ite (fun hlt => ?_) (fun hge => ?_)
  ·have hk' : (k : Int) < 3 := of_decide_eq_true hlt
   refine Yld.bindE (p_edges h.good (by omega)) (Yld.bindE (p_things (by omega) hF) (Yld.bind (p_anywhere (by omega) (tn_nonneg l) h.tn (h.glen _ _) (gr_wts h.good) (gr_inr h.good (Int.le_refl _))) ?_))
   rintro ⟨d, b⟩ (⟨h1, h2, h3⟩ | ⟨h1, h2⟩)
   ·cases h1
    refine Yld.some (.inl ⟨_, rfl, ⟨wi64' (by omega) (by omega), fun a ha1 ha2 => ?_⟩, by omega⟩)
    by_cases e : a = k
    ·subst e; exact h2
    ·exact hg a ha1 (by omega)
   ·cases h1
    exact Yld.some (.inr ⟨_, rfl, .inr ⟨rfl, fun hc => h2 (hc k (by omega) hk')⟩⟩)
  ·have hk' := of_decide_eq_false hge
   exact Yld.some (.inr ⟨_, rfl, .inl ⟨rfl, fun a h1 h2 => hg a h1 (by omega)⟩⟩)
 ·rintro t (⟨rfl, h1⟩ | ⟨rfl, h1⟩)
  ·exact Yld.some ⟨fun _ => h1, fun _ => rfl⟩
  ·exact Yld.some ⟨fun h2 => (by cases h2), fun h2 => absurd h2 h1⟩
end Go.Proofs.Ytimhhebjefkjlaa

namespace Go.Proofs.Ytimhhebjefkjlaa
open Go Go.Sk
set_option linter.unusedVariables false
set_option linter.unusedSimpArgs false
theorem idx_set' {α : Type} [Inhabited α] {l : List α} {i j : Int} {x : α} (h0 : 0 ≤ i) (h1 : i < l.length) (hj : 0 ≤ j) : idx (l.set i.toNat x) j = if j = i then x else idx l j := by
 unfold idx
 rw [List.getD_eq_getElem?_getD, List.getD_eq_getElem?_getD, List.getElem?_set]
 by_cases e : j = i
 ·subst e
  have : j.toNat < l.length := by omega
  simp [this]
 ·have : i.toNat ≠ j.toNat := by omega
  simp [e, this]
theorem set_same {α : Type} [Inhabited α] {l : List α} {i : Int} {x : α} (h0 : 0 ≤ i) (h1 : i < l.length) : idx (l.set i.toNat x) i = x := by
 rw [idx_set' h0 h1 h0, if_pos rfl]
def turn (g : List GEdge) : List GEdge := g.map fun e => ⟨e.to, e.src, e.weight, e.report⟩
theorem wk_turn {g : List GEdge} : ∀ {L : List GEdge} {a b : Int}, Wk (turn g) a L b → ∃ L', Wk g b L' a ∧ wt L' = wt L ∧ L'.length = L.length
 | [], a, b, hw => ⟨[], hw.symm, rfl, rfl⟩
 | e :: L, a, b, ⟨h1, h2, h3⟩ => by
  obtain ⟨e', i1, rfl⟩ := List.mem_map.1 h1
  obtain ⟨L', j1, j2, j3⟩ := wk_turn h3
  refine ⟨L' ++ [e'], wk_append.2 ⟨_, j1, i1, rfl, h2⟩, ?_, by simp [j3]⟩
  rw [wt_append]
  simp only [wt]
  omega
theorem turn_turn (g : List GEdge) : turn (turn g) = g := by
 unfold turn
 rw [List.map_map]
 exact (List.map_congr_left fun e _ => rfl).trans (List.map_id g)
theorem nn_turn {g : List GEdge} (hn : NoNeg g) : NoNeg (turn g) := fun a L hw => by
 obtain ⟨L', h1, h2, _⟩ := wk_turn hw
 have := hn a L' h1
 omega
theorem turn_len (g : List GEdge) : (turn g).length = g.length := by simp [turn]
theorem turn_wts {g : List GEdge} (h : Wts g) : Wts (turn g) := fun e he => by
 obtain ⟨e', h1, rfl⟩ := List.mem_map.1 he
 exact h e' h1
theorem wt_bd : ∀ {L : List GEdge}, (∀ e ∈ L, -1099511627776 ≤ e.weight ∧ e.weight ≤ 1099511627776) → -((L.length : Int) * 1099511627776) ≤ wt L ∧ wt L ≤ (L.length : Int) * 1099511627776
 | [], _ => by simp [wt]
 | e :: L, h => by
  have h1 := h e List.mem_cons_self
  have h2 := wt_bd (L := L) fun e he => h e (List.mem_cons_of_mem _ he)
  simp only [wt, List.length_cons]
  constructor <;> omega
theorem Lst.bd {g : List GEdge} {d0 d : Ds} (h : Lst g d0 d) (hn : NoNeg g) (hw : Wts g) (hg : g.length ≤ 64) (h0 : ∀ v x, d0 v = some x → x = 0) {v x : Int} (hx : d v = some x) : -70368744177664 ≤ x ∧ x ≤ 70368744177664 := by
 obtain ⟨a, x0, L, h1, h2, h3⟩ := h.snd v x hx
 have h4 := h0 a x0 h1
 obtain ⟨L', h5, h6, h7⟩ := short hn h2
 obtain ⟨y, h8, h9⟩ := h.cpl v (x0 + wt L') ⟨a, x0, L', h1, h5, rfl⟩
 rw [hx] at h8
 cases h8
 have h10 := wt_bd (L := L') fun e he => hw e (wk_mem h5 e he)
 constructor <;> omega
theorem Lst.bd' {g : List GEdge} {d0 d : Ds} (h : Lst g d0 d) (hn : NoNeg g) (hw : Wts g) (hg : g.length ≤ 64) (h0 : ∀ v x, d0 v = some x → x = 0) (v : Int) : -70368744177664 ≤ (d v).getD 0 ∧ (d v).getD 0 ≤ 70368744177664 := by
 cases e : d v with
 | none => simp
 | some x => exact h.bd hn hw hg h0 e
theorem one_zero {t v x : Int} (h : one t v = some x) : x = 0 := by
 unfold one at h
 split at h
 ·cases h; rfl
 ·cases h
theorem mGet_D (m : MapI) (k : Int) : mGet m k = (mget m k).getD 0 := rfl
theorem B3_len (x : Arr3Bound) : x.l.length = 3 := rfl
theorem B3_set {x : Arr3Bound} {a a' : Int} {b : Bound} (h0 : 0 ≤ a) (h1 : a < 3) (h2 : 0 ≤ a') : idx (x.set a b).l a' = if a' = a then b else idx x.l a' := by
 rw [Arr3Bound.set_l, idx_set' h0 (by rw [B3_len]; exact h1) h2]
theorem A3_ext {x y : A3} (h : ∀ a : Int, 0 ≤ a → a < 3 → idx x.l a = idx y.l a) : x = y := by
 have h0 := h 0 (by omega) (by omega)
 have h1 := h 1 (by omega) (by omega)
 have h2 := h 2 (by omega) (by omega)
 cases x; cases y
 simp only [A3.mk.injEq]
 exact ⟨h0, h1, h2⟩
theorem B3_ext {x y : Arr3Bound} (h : ∀ a : Int, 0 ≤ a → a < 3 → idx x.l a = idx y.l a) : x = y := by
 have h0 := h 0 (by omega) (by omega)
 have h1 := h 1 (by omega) (by omega)
 have h2 := h 2 (by omega) (by omega)
 cases x; cases y
 simp only [Arr3Bound.mk.injEq]
 exact ⟨h0, h1, h2⟩
theorem list_ext {α : Type} [Inhabited α] {l m : List α} (h : l.length = m.length) (hd : ∀ i : Int, 0 ≤ i → i < l.length → idx l i = idx m i) : l = m := by
 apply List.ext_getElem h
 intro i h1 h2
 have := hd i (by omega) (by omega)
 rw [idx_nat l i h1, idx_nat m i h2] at this
 exact this
def SolE (l : List Report) (now i a z : Int) : Prop := ∃ d, Lst (gr l now a) (src (tn l) (-1)) d ∧ z = (d (i + 1)).getD 0 - (d 0).getD 0
structure SolP (l : List Report) (now : Int) (out : List A3) : Prop where
 len : (out.length : Int) = tn l
 ent : ∀ i a : Int, 0 ≤ i → i < tn l → 0 ≤ a → a < 3 → SolE l now i a (idx (idx out i).l a)
theorem SolE.unique {l : List Report} {now i a z z' : Int} (h : SolE l now i a z) (h' : SolE l now i a z') : z = z' := by
 obtain ⟨d, h1, h2⟩ := h
 obtain ⟨d', h3, h4⟩ := h'
 cases h1.unique h3
 omega
theorem SolP.unique {l : List Report} {now : Int} {o o' : List A3} (h : SolP l now o) (h' : SolP l now o') : o = o' := by
 have h1 := h.len
 have h2 := h'.len
 exact list_ext (by omega) fun i i0 i1 => A3_ext fun a a0 a1 => (h.ent i a i0 (by omega) a0 a1).unique (h'.ent i a i0 (by omega) a0 a1)
theorem src_le {g : List GEdge} {n : Int} {d : Ds} (h : Lst g (src n (-1)) d) {v : Int} (h0 : 0 ≤ v) (h1 : v ≤ n) : ∃ y, d v = some y ∧ y ≤ 0 :=
 h.cpl v 0 ⟨v, 0, [], by unfold src; rw [if_pos (by omega)], rfl, by simp [wt]⟩
end Go.Proofs.Ytimhhebjefkjlaa

namespace Go.Proofs.Ytimhhebjefkjlaa
open Go Go.Sk
set_option linter.unusedVariables false
set_option linter.unusedSimpArgs false
def BoxE (l : List Report) (now i a : Int) (b : Bound) : Prop := ∃ u d, Lst (gr l now a) (one 0) u ∧ Lst (turn (gr l now a)) (one 0) d ∧ b = ⟨-((d (i + 1)).getD 0), (u (i + 1)).getD 0, (d (i + 1)).isSome, (u (i + 1)).isSome⟩
structure BoxP (l : List Report) (now : Int) (out : List Arr3Bound) : Prop where
 len : (out.length : Int) = tn l
 ent : ∀ i a : Int, 0 ≤ i → i < tn l → 0 ≤ a → a < 3 → BoxE l now i a (idx (idx out i).l a)
theorem BoxE.unique {l : List Report} {now i a : Int} {z z' : Bound} (h : BoxE l now i a z) (h' : BoxE l now i a z') : z = z' := by
 obtain ⟨u, d, h1, h2, h3⟩ := h
 obtain ⟨u', d', h4, h5, h6⟩ := h'
 cases h1.unique h4
 cases h2.unique h5
 rw [h3, h6]
theorem BoxP.unique {l : List Report} {now : Int} {o o' : List Arr3Bound} (h : BoxP l now o) (h' : BoxP l now o') : o = o' := by
 have h1 := h.len
 have h2 := h'.len
 exact list_ext (by omega) fun i i0 i1 => B3_ext fun a a0 a1 => (h.ent i a i0 (by omega) a0 a1).unique (h'.ent i a i0 (by omega) a0 a1)
theorem p_back {F : Nat} {g : List GEdge} (hg : g.length ≤ 64) (hF : 100 < F) : sensor_graph_back_S F g = some (turn g) := by
 refine Yld.eq ?_
 unfold sensor_graph_back_S slices_Clone_S
 refine Yld.bindE (x := g) (by rw [app?_eq (by simp only [List.length_nil]; omega)]; rfl) ?_
 refine Yld.bind (P := fun o => o = turn g) (Yld.rounds g.length (fun k s => s.2 = (k : Int) ∧ s.1 = turn (g.take k) ++ g.drop k) (by omega) ⟨rfl, rfl⟩ ?_) fun o h => Yld.some h
 rintro k ⟨o, x⟩ hk ⟨hx, ho⟩
 have hx' : x = (k : Int) := hx
 subst hx'
 have ho' : o = turn (g.take k) ++ g.drop k := ho
 have hlen : o.length = g.length := by rw [ho', List.length_append, turn_len, List.length_take, List.length_drop]; omega
 refine Yld.ite (fun hlt => ?_) (fun hge => ?_)
 ·have hk' : k < g.length := by have := of_decide_eq_true hlt; omega
  have hgk := get_idx hk'
  have hok : idx o (k : Int) = idx g (k : Int) := by
   have h1 := get_idx (g := o) (j := k) (by omega)
   rw [ho', List.getElem?_append_right (by rw [turn_len, List.length_take]; omega), turn_len, List.length_take, List.getElem?_drop] at h1
   have e : k + (k - min k g.length) = k := by omega
   rw [e, hgk] at h1
   rw [ho']
   exact (Option.some.inj h1).symm
  have hset : ∀ e : GEdge, o.set k e = turn (g.take k) ++ e :: g.drop (k + 1) := fun e => by
   rw [ho', List.set_append_right _ _ (by rw [turn_len, List.length_take]; omega), turn_len, List.length_take]
   have e1 : k - min k g.length = 0 := by omega
   rw [e1, List.drop_eq_getElem_cons hk']
   rfl
  have kl : (k : Int) < (o.length : Int) := by omega
  refine Yld.idx (by omega) kl (Yld.idx (by omega) kl (Yld.idx (by omega) kl (Yld.idx (by omega) (by rw [List.length_set]; exact kl) (Yld.some (.inl ⟨_, rfl, ⟨wi64' (by omega) (by omega), ?_⟩, hk'⟩)))))
  show (o.set _ _).set _ _ = _
  dsimp only
  rw [set_same (by omega) (by omega), List.set_set, hok, Int.toNat_natCast, hset, take_idx hk']
  unfold turn
  rw [List.map_append]
  simp
 ·have hk' : k = g.length := by have := of_decide_eq_false hge; omega
  subst hk'
  rw [List.take_length, List.drop_length, List.append_nil] at ho'
  exact Yld.some (.inr ⟨_, rfl, ho'⟩)
theorem B3_setset (x : Arr3Bound) (a : Int) (b c : Bound) (h0 : 0 ≤ a) (h1 : a < 3) : (x.set a b).set a c = x.set a c := B3_ext fun a' a0 a1 => by
 rw [B3_set h0 h1 a0, B3_set h0 h1 a0, B3_set h0 h1 a0]
 split <;> rfl
theorem B3_same (x : Arr3Bound) (a : Int) (b : Bound) (h0 : 0 ≤ a) (h1 : a < 3) : idx (x.set a b).l a = b := by rw [B3_set h0 h1 h0, if_pos rfl]
theorem p_boxes {F : Nat} {l : List Report} {now : Int} (hF : 1000 < F) (h : Hy l) : Yld (sensor_Boxes_S F l now) fun r => (Cons l now ∧ r.2 = 0 ∧ BoxP l now r.1) ∨ (¬ Cons l now ∧ r = ([], 200)) := by
  unfold sensor_Boxes_S
  have hl := h.len
  have t0 := tn_nonneg l
  have t1 := h.tn
  refine Yld.bind (p_cons hF h) fun b hb => ?_
  refine Yld.ite (fun hc => ?_) (fun hc => ?_)
  · refine Yld.some (.inr ⟨fun hcc => ?_, rfl⟩)
    rw [hb.2 hcc] at hc
    cases hc
  have hcc : Cons l now := hb.1 (by cases b; · cases hc
                                    · rfl)
  refine Yld.bindE (p_things (by omega) hF) (Yld.bindE (x := List.replicate (tn l).toNat _) (by unfold mk?; rw [if_pos (by omega)]) ?_)
  refine Yld.bind (P := BoxP l now) (Yld.rounds 3 (fun k s => s.2 = (k : Int) ∧ (s.1.length : Int) = tn l ∧ ∀ i a : Int, 0 ≤ i → i < tn l → 0 ≤ a → a < (k : Int) → BoxE l now i a (idx (idx s.1 i).l a)) (by omega) ⟨rfl, by simp; omega, fun i a _ _ h1 h2 => by omega⟩ ?_) fun o ho => Yld.some (.inl ⟨hcc, rfl, ho⟩)
  rintro k ⟨out, x⟩ hk ⟨hx, hlen, hent⟩
  have hx' : x = (k : Int) := hx
  subst hx'
  have hlen' : (out.length : Int) = tn l := hlen
  have hent' : ∀ i a : Int, 0 ≤ i → i < tn l → 0 ≤ a → a < (k : Int) → BoxE l now i a (idx (idx out i).l a) := hent
  refine Yld.ite (fun hlt => ?_) (fun hge => ?_)
  · have hk' : (k : Int) < 3 := of_decide_eq_true hlt
    have hk0 : (0 : Int) ≤ (k : Int) := by omega
    have hnn := hcc k hk0 hk'
    refine Yld.bind (P := fun o => (o.length : Int) = tn l ∧ ∀ i a : Int, 0 ≤ i → i < tn l → 0 ≤ a → a < (k : Int) + 1 → BoxE l now i a (idx (idx o i).l a)) ?_ (fun o ho => Yld.some (.inl ⟨_, rfl, ⟨wi64' (by omega) (by omega), ho.1, fun i a i0 i1 a0 a1 => ho.2 i a i0 i1 a0 (by omega)⟩, by omega⟩))
    refine Yld.bindE (p_edges h.good (by omega)) ?_
    refine Yld.bind (p_from (by omega) (h.glen _ _) (gr_wts h.good) hnn) fun u hu => ?_
    refine Yld.bindE (p_back (h.glen _ _) (by omega)) ?_
    have htl : (turn (gr l now k)).length ≤ 64 := by rw [turn_len]; exact h.glen _ _
    refine Yld.bind (p_from (by omega) htl (turn_wts (gr_wts h.good)) (nn_turn hnn)) fun d hd => ?_
    have hbu := hu.bd' hnn (gr_wts h.good) (h.glen now k) fun v x => one_zero
    have hbd := hd.bd' (nn_turn hnn) (turn_wts (gr_wts h.good)) htl fun v x => one_zero
    refine Yld.bind (P := fun o => (o.length : Int) = tn l ∧ ∀ i a : Int, 0 ≤ i → i < tn l → 0 ≤ a → a < (k : Int) + 1 → BoxE l now i a (idx (idx o i).l a)) ?_ (fun o ho => Yld.some ho)
    refine Yld.rounds (tn l).toNat (fun j s => s.2 = (j : Int) ∧ (s.1.length : Int) = tn l ∧ ∀ i a : Int, 0 ≤ i → i < tn l → 0 ≤ a → (a < (k : Int) ∨ (a = k ∧ i < (j : Int))) → BoxE l now i a (idx (idx s.1 i).l a)) (by omega) ⟨rfl, hlen', fun i a i0 i1 a0 a1 => hent' i a i0 i1 a0 (by omega)⟩ ?_
    rintro j ⟨o, x⟩ hj ⟨hx, ho, he⟩
    have hx' : x = (j : Int) := hx
    subst hx'
    have ho' : (o.length : Int) = tn l := ho
    have he' : ∀ i a : Int, 0 ≤ i → i < tn l → 0 ≤ a → (a < (k : Int) ∨ (a = k ∧ i < (j : Int))) → BoxE l now i a (idx (idx o i).l a) := he
    refine Yld.ite (fun hlt => ?_) (fun hge => ?_)
    · have hj' : (j : Int) < tn l := by have := of_decide_eq_true hlt; omega
      have e1 : IntKind.i64.wrap ((j : Int) + 1) = (j : Int) + 1 := wi64' (by omega) (by omega)
      have j0 : (0 : Int) ≤ (j : Int) := by omega
      have jl : (j : Int) < o.length := by omega
      dsimp only
      rw [e1]
      refine Yld.idx j0 jl (Yld.idx hk0 (by rw [B3_len]; exact hk') (Yld.ln ?_))
      have jl2 : ∀ y, (j : Int) < ((o.set (j : Int).toNat y).length : Int) := fun y => by rw [List.length_set]; exact jl
      have hs2 : ∀ y : Arr3Bound, idx (o.set (j : Int).toNat y) (j : Int) = y := fun y => set_same j0 jl
      have hk3 : ∀ y : Arr3Bound, (k : Int) < y.l.length := fun y => by rw [B3_len]; exact hk'
      refine Yld.idx j0 (jl2 _) (Yld.idx hk0 (hk3 _) (Yld.ln ?_))
      simp only [hs2, B3_same _ _ _ hk0 hk', List.set_set, B3_setset _ _ _ _ hk0 hk']
      refine Yld.idx j0 (jl2 _) (Yld.idx hk0 (hk3 _) ?_)
      simp only [hs2, B3_same _ _ _ hk0 hk', List.set_set, B3_setset _ _ _ _ hk0 hk']
      refine Yld.idx j0 (jl2 _) (Yld.idx hk0 (hk3 _) ?_)
      simp only [hs2, B3_same _ _ _ hk0 hk', List.set_set, B3_setset _ _ _ _ hk0 hk']
      refine Yld.idx j0 (jl2 _) (Yld.idx hk0 (hk3 _) ?_)
      simp only [hs2, B3_same _ _ _ hk0 hk', List.set_set, B3_setset _ _ _ _ hk0 hk']
      refine Yld.idx j0 (jl2 _) (Yld.idx hk0 (hk3 _) ?_)
      simp only [hs2, B3_same _ _ _ hk0 hk', List.set_set, B3_setset _ _ _ _ hk0 hk']
      refine Yld.some (.inl ⟨_, rfl, ⟨rfl, by show ((o.set _ _).length : Int) = _; rw [List.length_set]; exact ho', fun i a i0 i1 a0 a1 => ?_⟩, by omega⟩)
      have b1 := hbd ((j : Int) + 1)
      dsimp only at b1 ⊢
      rw [idx_set' j0 jl i0]
      by_cases ei : i = j
      · rw [if_pos ei, B3_set hk0 hk' a0]
        by_cases ea : a = k
        · rw [if_pos ea]
          subst ei; subst ea
          refine ⟨_, _, hu, hd, ?_⟩
          rw [mGet_D, wi64' (by omega) (by omega)]
          rfl
        · rw [if_neg ea, ← ei]
          exact he' i a i0 i1 a0 (by omega)
      · rw [if_neg ei]
        exact he' i a i0 i1 a0 (by omega)
    · have hj' := of_decide_eq_false hge
      exact Yld.some (.inr ⟨_, rfl, ho', fun i a i0 i1 a0 a1 => he' i a i0 i1 a0 (by omega)⟩)
  · have hk' := of_decide_eq_false hge
    exact Yld.some (.inr ⟨_, rfl, hlen', fun i a i0 i1 a0 a1 => hent' i a i0 i1 a0 (by omega)⟩)
end Go.Proofs.Ytimhhebjefkjlaa

namespace Go.Proofs.Ytimhhebjefkjlaa
open Go Go.Sk
set_option linter.unusedVariables false
set_option linter.unusedSimpArgs false
def ImpP (u d : Ds) (r : Report) : Prop := (∃ p, u r.B = some p ∧ p ≤ r.Hi) ∧ ∃ q, d r.A = some q ∧ r.Lo ≤ -q
def ImpR (l : List Report) (now : Int) (r : Report) (x : Bool × Int) : Prop := (¬ Good r ∧ x = (false, 1)) ∨ (Good r ∧ ¬ Cons l now ∧ x = (false, 200)) ∨ (Good r ∧ Cons l now ∧ x.2 = 0 ∧ ∃ u d, Lst (gr l now r.Axis) (one r.A) u ∧ Lst (gr l now r.Axis) (one r.B) d ∧ (x.1 = true ↔ ImpP u d r))
theorem ImpR.unique {l : List Report} {now : Int} {r : Report} {x y : Bool × Int} (h : ImpR l now r x) (h' : ImpR l now r y) : x = y := by
 rcases h with ⟨h1, h2⟩ | ⟨h1, h2, h3⟩ | ⟨h1, h2, h3, u, d, h4, h5, h6⟩
 ·rcases h' with ⟨i1, i2⟩ | ⟨i1, _⟩ | ⟨i1, _⟩
  ·rw [h2, i2]
  ·exact absurd i1 h1
  ·exact absurd i1 h1
 ·rcases h' with ⟨i1, i2⟩ | ⟨i1, i2, i3⟩ | ⟨i1, i2, _⟩
  ·exact absurd h1 i1
  ·rw [h3, i3]
  ·exact absurd i2 h2
 ·rcases h' with ⟨i1, i2⟩ | ⟨i1, i2, i3⟩ | ⟨i1, i2, i3, u', d', i4, i5, i6⟩
  ·exact absurd h1 i1
  ·exact absurd h2 i2
  ·cases h4.unique i4
   cases h5.unique i5
   refine Prod.ext ?_ (h3.trans i3.symm)
   rw [Bool.eq_iff_iff]
   exact h6.trans i6.symm
theorem p_implied {F : Nat} {l : List Report} {now : Int} {r : Report} (hF : 1000 < F) (h : Hy l) : Yld (sensor_Implied_S F l now r) (ImpR l now r) := by
  unfold sensor_Implied_S
  have hl := h.len
  refine Yld.bindE (p_valid F r) ?_
  by_cases hg : Good r
  · refine Yld.iff (by rw [dtt hg]; rfl) (Yld.bind (p_cons hF h) fun b hb => ?_)
    by_cases hc : Cons l now
    · refine Yld.iff (by rw [hb.2 hc]; rfl) ?_
      have hnn := hc r.Axis hg.axis.1 (by have := hg.axis.2; omega)
      refine Yld.bindE (p_edges h.good (by omega)) ?_
      refine Yld.bind (p_from (by omega) (h.glen _ _) (gr_wts h.good) hnn) fun u hu => ?_
      refine Yld.bind (p_from (by omega) (h.glen _ _) (gr_wts h.good) hnn) fun d hd => ?_
      refine Yld.ln (Yld.ln (Yld.some (.inr (.inr ⟨hg, hc, rfl, _, _, hu, hd, ?_⟩))))
      have hbd := hd.bd' hnn (gr_wts h.good) (h.glen now r.Axis) (fun v x => one_zero) r.A
      dsimp only
      rw [mGet_D d, wi64' (by omega) (by omega)]
      unfold ImpP mHas
      rw [mGet_D]
      cases hu1 : mget u r.B with
      | none => simp
      | some p =>
        cases hd1 : mget d r.A with
        | none => simp
        | some q => simp
    · exact Yld.ift (by have : b = false := by
                          cases b
                          · rfl
                          · exact absurd (hb.1 rfl) hc
                        rw [this]; rfl) (Yld.some (.inr (.inl ⟨hg, hc, rfl⟩)))
  · exact Yld.ift (by rw [dff hg]; rfl) (Yld.some (.inl ⟨hg, rfl⟩))
theorem bool_not {b : Bool} {p : Prop} (h : b = true ↔ p) (hp : ¬ p) : b = false := by
 cases b
 ·rfl
 ·exact absurd (h.1 rfl) hp
def off (at0 : List A3) (thing axis : Int) : Int := if thing < 1 ∨ (at0.length : Int) < thing then 0 else idx (idx at0 (thing - 1)).l axis
def FitP (l : List Report) (now : Int) (at0 : List A3) : Prop := ∀ i r, (i, r) ∈ cnt l now → r.Lo ≤ off at0 r.B r.Axis - off at0 r.A r.Axis ∧ off at0 r.B r.Axis - off at0 r.A r.Axis ≤ r.Hi
end Go.Proofs.Ytimhhebjefkjlaa

namespace Go.Proofs.Ytimhhebjefkjlaa
open Go Go.Sk
set_option linter.unusedVariables false
set_option linter.unusedSimpArgs false
def RV (g : List GEdge) (t : Int) (k : Nat) (v x : Int) : Prop := (∃ L, Wk g v L t ∧ L.length = k ∧ wt L = x) ∧ ∀ L, Wk g v L t → L.length = k → x ≤ wt L
theorem RV.unique {g : List GEdge} {t v x y : Int} {k : Nat} (h : RV g t k v x) (h' : RV g t k v y) : x = y := by
 obtain ⟨⟨L, h1, h2, h3⟩, h4⟩ := h
 obtain ⟨⟨M, i1, i2, i3⟩, i4⟩ := h'
 have := h4 M i1 i2
 have := i4 L h1 h2
 omega
theorem RV.bd {g : List GEdge} (hw : Wts g) {t v x : Int} {k : Nat} (h : RV g t k v x) : -((k : Int) * 1099511627776) ≤ x ∧ x ≤ (k : Int) * 1099511627776 := by
 obtain ⟨⟨L, h1, h2, h3⟩, h4⟩ := h
 have := wt_bd (L := L) fun e he => hw e (wk_mem h1 e he)
 rw [h2, h3] at this
 exact this
theorem RV.ex {g : List GEdge} (hw : Wts g) {t v : Int} {L : List GEdge} (h : Wk g v L t) : ∃ x, x ≤ wt L ∧ RV g t L.length v x := by
 have hb : ∀ M, Wk g v M t → M.length = L.length → -((L.length : Int) * 1099511627776) ≤ wt M := fun M h1 h2 => by
  have := (wt_bd (L := M) fun e he => hw e (wk_mem h1 e he)).1
  rw [h2] at this
  exact this
 obtain ⟨m, ⟨M, m1, m2, m3⟩, hm⟩ := least_nat (p := fun k => ∃ M, Wk g v M t ∧ M.length = L.length ∧ (wt M + (L.length : Int) * 1099511627776).toNat = k) _ ⟨L, h, rfl, rfl⟩
 have hle : ∀ N, Wk g v N t → N.length = L.length → wt M ≤ wt N := fun N n1 n2 => by
  have h1 := hm _ ⟨N, n1, n2, rfl⟩
  have h2 := hb N n1 n2
  have h3 := hb M m1 m2
  omega
 exact ⟨wt M, hle L h rfl, ⟨M, m1, m2, rfl⟩, hle⟩
theorem RV.zero {g : List GEdge} {t v x : Int} (h : RV g t 0 v x) : v = t ∧ x = 0 := by
 obtain ⟨⟨L, h1, h2, h3⟩, _⟩ := h
 have : L = [] := List.eq_nil_of_length_eq_zero h2
 subst this
 exact ⟨h1, h3.symm⟩
structure RLst (g : List GEdge) (t : Int) (k : Nat) (d : Ds) : Prop where
 snd : ∀ v x, d v = some x → ∃ L, Wk g v L t ∧ L.length = k ∧ wt L = x
 cpl : ∀ v L, Wk g v L t → L.length = k → ∃ y, d v = some y ∧ y ≤ wt L
theorem RLst.rv {g : List GEdge} {t : Int} {k : Nat} {d : Ds} (h : RLst g t k d) {v x : Int} : d v = some x ↔ RV g t k v x := by
 constructor
 ·intro hx
  refine ⟨h.snd v x hx, fun L h1 h2 => ?_⟩
  obtain ⟨y, h3, h4⟩ := h.cpl v L h1 h2
  rw [hx] at h3
  cases h3
  exact h4
 ·rintro ⟨⟨L, h1, h2, h3⟩, h4⟩
  obtain ⟨y, h5, h6⟩ := h.cpl v L h1 h2
  obtain ⟨M, i1, i2, i3⟩ := h.snd v y h5
  have := h4 M i1 i2
  rw [h5]
  congr 1
  omega
theorem RLst.zero (g : List GEdge) (t : Int) : RLst g t 0 (one t) := by
 constructor
 ·intro v x h
  unfold one at h
  split at h
  ·next e => cases h; exact ⟨[], e, rfl, rfl⟩
  ·cases h
 ·intro v L h1 h2
  have : L = [] := List.eq_nil_of_length_eq_zero h2
  subst this
  have h1' : v = t := h1
  exact ⟨0, by unfold one; rw [if_pos h1'], Int.le_refl _⟩
structure Nx (g : List GEdge) (d : Ds) (j : Nat) (nx : Ds) : Prop where
 snd : ∀ v y, nx v = some y → ∃ e x, e ∈ g ∧ e.src = v ∧ d e.to = some x ∧ y = x + e.weight
 cpl : ∀ i, i < j → ∀ e, g[i]? = some e → ∀ x, d e.to = some x → ∃ y, nx e.src = some y ∧ y ≤ x + e.weight
theorem Nx.yes {g : List GEdge} {d nx : Ds} {j : Nat} (h : Nx g d j nx) {e : GEdge} (he : g[j]? = some e) {x : Int} (hx : d e.to = some x) (hy : ∀ y, nx e.src = some y → x + e.weight < y) : Nx g d (j + 1) (up nx e.src (x + e.weight)) := by
 constructor
 ·intro v y h1
  unfold up at h1
  split at h1
  ·next hc => cases h1; exact ⟨e, x, List.mem_of_getElem? he, hc.symm, hx, rfl⟩
  ·exact h.snd v y h1
 ·intro i hi e' he' x' hx'
  by_cases hij : i = j
  ·subst hij
   rw [he] at he'
   cases he'
   rw [hx] at hx'
   cases hx'
   exact ⟨_, by unfold up; rw [if_pos rfl], Int.le_refl _⟩
  ·obtain ⟨y, h1, h2⟩ := h.cpl i (by omega) e' he' x' hx'
   by_cases hs : e'.src = e.src
   ·have := hy y (by rw [← hs]; exact h1)
    exact ⟨_, by unfold up; rw [if_pos hs], by omega⟩
   ·exact ⟨y, by unfold up; rw [if_neg hs]; exact h1, h2⟩
theorem Nx.no {g : List GEdge} {d nx : Ds} {j : Nat} (h : Nx g d j nx) {e : GEdge} (he : g[j]? = some e) (hy : ∀ x, d e.to = some x → ∃ y, nx e.src = some y ∧ y ≤ x + e.weight) : Nx g d (j + 1) nx := by
 refine ⟨h.snd, fun i hi e' he' x' hx' => ?_⟩
 by_cases hij : i = j
 ·subst hij
  rw [he] at he'
  cases he'
  exact hy x' hx'
 ·exact h.cpl i (by omega) e' he' x' hx'
theorem Nx.fin {g : List GEdge} {d nx : Ds} {t : Int} {k : Nat} (h : Nx g d g.length nx) (hd : RLst g t k d) : RLst g t (k + 1) nx := by
 constructor
 ·intro v y hy
  obtain ⟨e, x, h1, h2, h3, h4⟩ := h.snd v y hy
  obtain ⟨L, i1, i2, i3⟩ := hd.snd _ _ h3
  exact ⟨e :: L, ⟨h1, h2, i1⟩, by simp [i2], by simp only [wt]; omega⟩
 ·intro v L hw hl
  cases L with
  | nil => simp at hl
  | cons e L =>
   obtain ⟨h1, h2, h3⟩ := hw
   obtain ⟨y, h4, h5⟩ := hd.cpl _ L h3 (by simpa using hl)
   obtain ⟨i, hi⟩ := List.mem_iff_getElem?.1 h1
   obtain ⟨z, h6, h7⟩ := h.cpl i (List.getElem?_eq_some_iff.1 hi).1 e hi y h4
   exact ⟨z, by rw [← h2]; exact h6, by simp only [wt]; omega⟩
def Okk (g : List GEdge) (t at_ sum : Int) (k : Nat) (e : GEdge) : Prop := e.src = at_ ∧ ∃ x, RV g t k e.to x ∧ sum + e.weight + x < 0
structure FirstAt (g : List GEdge) (t at_ sum : Int) (k i : Nat) (e : GEdge) : Prop where
 get : g[i]? = some e
 ok : Okk g t at_ sum k e
 first : ∀ i', i' < i → ∀ e', g[i']? = some e' → ¬ Okk g t at_ sum k e'
theorem FirstAt.unique {g : List GEdge} {t at_ sum : Int} {k i i' : Nat} {e e' : GEdge} (h : FirstAt g t at_ sum k i e) (h' : FirstAt g t at_ sum k i' e') : e = e' := by
 have : i = i' := by
  rcases Nat.lt_trichotomy i i' with hlt | heq | hgt
  ·exact absurd h.ok (h'.first i hlt e h.get)
  ·exact heq
  ·exact absurd h'.ok (h.first i' hgt e' h'.get)
 subst this
 have h1 := h.get
 rw [h'.get] at h1
 exact (Option.some.inj h1).symm
def FstW (g : List GEdge) (t : Int) : Nat → Int → Int → List GEdge → Prop
 | 0, _, _, out => out = []
 | k + 1, at_, sum, out => ∃ i e out', out = e :: out' ∧ FirstAt g t at_ sum k i e ∧ FstW g t k e.to (sum + e.weight) out'
theorem FstW.unique {g : List GEdge} {t : Int} : ∀ {k : Nat} {at_ sum : Int} {o o' : List GEdge}, FstW g t k at_ sum o → FstW g t k at_ sum o' → o = o'
 | 0, _, _, _, _, h, h' => h.trans h'.symm
 | k + 1, _, _, _, _, ⟨i, e, o1, h1, h2, h3⟩, ⟨i', e', o2, i1, i2, i3⟩ => by
  cases h2.unique i2
  rw [h1, i1, FstW.unique h3 i3]
theorem FstW.len {g : List GEdge} {t : Int} : ∀ {k : Nat} {at_ sum : Int} {o : List GEdge}, FstW g t k at_ sum o → o.length = k
 | 0, _, _, _, h => by rw [show _ = [] from h]; rfl
 | k + 1, _, _, _, ⟨i, e, o1, h1, h2, h3⟩ => by rw [h1, List.length_cons, FstW.len h3]
theorem FstW.wk {g : List GEdge} {t : Int} : ∀ {k : Nat} {at_ sum : Int} {o : List GEdge}, FstW g t k at_ sum o → (∃ y, RV g t k at_ y ∧ sum + y < 0) → Wk g at_ o t ∧ sum + wt o < 0
 | 0, at_, sum, o, h, ⟨y, h1, h2⟩ => by
  have h' : o = [] := h
  subst h'
  obtain ⟨h3, h4⟩ := h1.zero
  exact ⟨h3, by simp only [wt]; omega⟩
 | k + 1, at_, sum, o, ⟨i, e, o1, h1, h2, h3⟩, _ => by
  subst h1
  obtain ⟨h4, x, h5, h6⟩ := h2.ok
  obtain ⟨h7, h8⟩ := FstW.wk h3 ⟨x, h5, h6⟩
  exact ⟨⟨List.mem_of_getElem? h2.get, h4, h7⟩, by simp only [wt]; omega⟩
def NegR (g : List GEdge) (s : Int) (k : Nat) : Prop := ∃ x, RV g s k s x ∧ x < 0
end Go.Proofs.Ytimhhebjefkjlaa

namespace Go.Proofs.Ytimhhebjefkjlaa
open Go Go.Sk
set_option linter.unusedVariables false
set_option linter.unusedSimpArgs false
end Go.Proofs.Ytimhhebjefkjlaa

namespace Go.Proofs.Ytimhhebjefkjlaa
open Go Go.Sk
set_option linter.unusedVariables false
set_option linter.unusedSimpArgs false
structure PlP (rs pl : List Int) : Prop where
 asc : pl.Pairwise (· < ·)
 mem : ∀ p, p ∈ pl ↔ p ∈ rs
theorem asc_nodup {pl : List Int} (h : pl.Pairwise (· < ·)) : pl.Nodup := h.imp fun h => by omega
theorem PlP.unique {rs pl pl' : List Int} (h : PlP rs pl) (h' : PlP rs pl') : pl = pl' := by
 have hp : pl.Perm pl' := (List.perm_ext_iff_of_nodup (asc_nodup h.asc) (asc_nodup h'.asc)).2 fun p => (h.mem p).trans (h'.mem p).symm
 exact List.Perm.eq_of_pairwise (le := fun x y : Int => x < y) (fun a b _ _ h1 h2 => by omega) h.asc h'.asc hp
def bad (p : Int × Report) : Bool := decide (p.2.Hi < p.2.Lo)
def HitP (l : List Report) (now : Int) (n : Nat) (a s : Int) (pl : List Int) : Prop := NegR (gr l now a) s n ∧ ∃ out, FstW (gr l now a) s n s 0 out ∧ PlP (out.map (·.report)) pl
def ContrP (l : List Report) (now : Int) (y : List Int × Int) : Prop :=
 (∃ i r, (cnt l now).find? bad = some (i, r) ∧ y = ([i], r.Axis)) ∨
 ((cnt l now).find? bad = none ∧ Cons l now ∧ y = ([], -1)) ∨
 ((cnt l now).find? bad = none ∧ ¬ Cons l now ∧ ∃ (n : Nat) (a s : Int) (pl : List Int), y = (pl, a) ∧ 2 ≤ n ∧ 0 ≤ a ∧ a < 3 ∧ 0 ≤ s ∧ s ≤ tn l ∧ HitP l now n a s pl ∧
  ∀ (n' : Nat) (a' s' : Int), 2 ≤ n' → 0 ≤ a' → a' < 3 → 0 ≤ s' → s' ≤ tn l → NegR (gr l now a') s' n' → n < n' ∨ (n = n' ∧ (a < a' ∨ (a = a' ∧ s ≤ s'))))
theorem ContrP.unique {l : List Report} {now : Int} {y y' : List Int × Int} (h : ContrP l now y) (h' : ContrP l now y') : y = y' := by
 rcases h with ⟨i, r, h1, h2⟩ | ⟨h1, h2, h3⟩ | ⟨h1, h2, n, a, s, pl, h3, h4, h5, h6, h7, h8, h9, h10⟩
 ·rcases h' with ⟨i', r', i1, i2⟩ | ⟨i1, _⟩ | ⟨i1, _⟩
  ·rw [h1] at i1
   cases i1
   rw [h2, i2]
  ·rw [h1] at i1; cases i1
  ·rw [h1] at i1; cases i1
 ·rcases h' with ⟨i', r', i1, i2⟩ | ⟨i1, i2, i3⟩ | ⟨i1, i2, _⟩
  ·rw [h1] at i1; cases i1
  ·rw [h3, i3]
  ·exact absurd h2 i2
 ·rcases h' with ⟨i', r', i1, i2⟩ | ⟨i1, i2, i3⟩ | ⟨i1, i2, n', a', s', pl', i3, i4, i5, i6, i7, i8, i9, i10⟩
  ·rw [h1] at i1; cases i1
  ·exact absurd i2 h2
  ·have j1 := h10 n' a' s' i4 i5 i6 i7 i8 i9.1
   have j2 := i10 n a s h4 h5 h6 h7 h8 h9.1
   have e1 : n = n' := by omega
   have e2 : a = a' := by omega
   have e3 : s = s' := by omega
   subst e1; subst e2; subst e3
   obtain ⟨_, o, k1, k2⟩ := h9
   obtain ⟨_, o', k3, k4⟩ := i9
   cases k1.unique k3
   rw [h3, i3, k2.unique k4]
theorem neg_ex {l : List Report} {now : Int} (h : Hy l) (hc : ¬ Cons l now) : ∃ (n : Nat) (a s : Int), 2 ≤ n ∧ (n : Int) ≤ tn l + 1 ∧ 0 ≤ a ∧ a < 3 ∧ 0 ≤ s ∧ s ≤ tn l ∧ NegR (gr l now a) s n := by
 have h1 : ∃ a, 0 ≤ a ∧ a < 3 ∧ ¬ NoNeg (gr l now a) := by
  apply Classical.byContradiction
  intro hn
  exact hc fun a a0 a1 => Classical.not_not.1 fun h2 => hn ⟨a, a0, a1, h2⟩
 obtain ⟨a, a0, a1, hn⟩ := h1
 obtain ⟨s, L, hm⟩ := minneg hn
 have hir : InR (tn l) (gr l now a) := gr_inr h.good (Int.le_refl _)
 have hlen := hm.len hir
 obtain ⟨x, h2, h3⟩ := RV.ex (gr_wts h.good) hm.wk
 have t0 := tn_nonneg l
 have hw := hm.wk
 have hneg := hm.neg
 refine ⟨L.length, a, s, ?_, by omega, a0, a1, ?_⟩
 ·match L, hw, hneg with
  | [], _, hneg => simp [wt] at hneg
  | [e], hw, hneg =>
   obtain ⟨i, r, i1, i2, i3⟩ := mem_gr.1 hw.1
   have h4 := (h.good r (cnt_mem i1)).ne
   have h5 : e.src = s := hw.2.1
   have h6 : e.to = s := hw.2.2
   rcases i3 with rfl | rfl
   ·exact absurd (h5.trans h6.symm) h4
   ·exact absurd (h6.trans h5.symm) h4
  | _ :: _ :: _, _, _ => simp
 ·match L, hw, hneg with
  | [], _, hneg => simp [wt] at hneg
  | e :: M, hw, hneg =>
   have h5 := (hir e hw.1).1
   have h6 : e.src = s := hw.2.1
   exact ⟨by omega, by omega, x, h3, by omega⟩
end Go.Proofs.Ytimhhebjefkjlaa

namespace Go.Proofs.Ytimhhebjefkjlaa
open Go Go.Sk
set_option linter.unusedVariables false
set_option linter.unusedSimpArgs false
end Go.Proofs.Ytimhhebjefkjlaa

namespace Go.Proofs.Ytimhhebjefkjlaa
open Go Go.Sk
set_option linter.unusedVariables false
set_option linter.unusedSimpArgs false
theorem ContrP.len {l : List Report} {now : Int} (h : Hy l) {y : List Int × Int} (hy : ContrP l now y) : y.1.length ≤ 30 := by
 rcases hy with ⟨i, r, h1, rfl⟩ | ⟨h1, h2, rfl⟩ | ⟨h1, h2, n, a, s, pl, rfl, h4, h5, h6, h7, h8, ⟨_, out, h9, h10⟩, h11⟩
 ·simp
 ·simp
 ·obtain ⟨N, a0, s0, n2, nt, aa0, aa1, ss0, ss1, hN⟩ := neg_ex h h2
  have h12 := h11 N a0 s0 n2 aa0 aa1 ss0 ss1 hN
  have h13 := nodup_len (asc_nodup h10.asc) fun p hp => (h10.mem p).1 hp
  rw [List.length_map, h9.len] at h13
  have := h.tn
  show pl.length ≤ 30
  omega
theorem san {Q : Bool → Prop} (h : Q true) : Yld ((skewbacklaw39_sanity_S 2000).bind fun x => some x) Q := Yld.bindE sanity_ok (Yld.some h)
end Go.Proofs.Ytimhhebjefkjlaa

namespace Go.Proofs.Ytimhhebjefkjlaa
open Go Go.Sk
set_option linter.unusedVariables false
set_option linter.unusedSimpArgs false
def Pot (g : List GEdge) (p : Int → Int) : Prop := ∀ e ∈ g, p e.to ≤ p e.src + e.weight
theorem Pot.walk {g : List GEdge} {p : Int → Int} (h : Pot g p) : ∀ {L : List GEdge} {a b : Int}, Wk g a L b → p b ≤ p a + wt L
 | [], a, b, hw => by cases hw; simp [wt]
 | e :: L, a, b, ⟨h1, h2, h3⟩ => by
  have h4 := h e h1
  have h5 := h.walk h3
  rw [h2] at h4
  simp only [wt]
  omega
theorem Pot.nn {g : List GEdge} {p : Int → Int} (h : Pot g p) : NoNeg g := fun a L hw => by
 have := h.walk hw
 omega
theorem Pot.neg {g : List GEdge} {p : Int → Int} (h : Pot g p) : Pot (turn g) (fun v => -(p v)) := fun e he => by
 obtain ⟨e', h1, rfl⟩ := List.mem_map.1 he
 have := h e' h1
 dsimp only
 omega
theorem Lst.pot {g : List GEdge} {n : Int} {s : Ds} (h : Lst g (src n (-1)) s) (hi : InR n g) : Pot g (fun v => (s v).getD 0) := fun e he => by
 have h1 := (hi e he).1
 obtain ⟨y, h2, _⟩ := src_le h h1.1 h1.2
 obtain ⟨z, h3, h4⟩ := h.stable he h2
 dsimp only
 rw [h2, h3]
 exact h4
theorem one_self (t : Int) : one t t = some 0 := if_pos rfl
theorem Lst.wk1 {g : List GEdge} {s v x : Int} {u : Ds} (h : Lst g (one s) u) (hx : u v = some x) : ∃ L, Wk g s L v ∧ x = wt L := by
 obtain ⟨a, x0, L, h1, h2, h3⟩ := h.snd v x hx
 unfold one at h1
 split at h1
 ·next hc => cases h1; subst hc; exact ⟨L, h2, by omega⟩
 ·cases h1
theorem Lst.self {g : List GEdge} {s : Int} {u : Ds} (h : Lst g (one s) u) (hn : NoNeg g) : u s = some 0 := by
 obtain ⟨y, h1, h2⟩ := h.cpl s 0 ⟨s, 0, [], one_self s, rfl, by simp [wt]⟩
 obtain ⟨L, h3, h4⟩ := h.wk1 h1
 have := hn s L h3
 rw [h1]
 congr 1
 omega
theorem cnt_snoc (l : List Report) (r : Report) (now : Int) : cnt (l ++ [r]) now = cnt l now ++ if r.Time ≤ now then [((l.length : Int), r)] else [] := by
 rw [cnt_append]
 congr 1
theorem gr_snoc (l : List Report) (r : Report) (now axis : Int) : gr (l ++ [r]) now axis = gr l now axis ++ if r.Time ≤ now ∧ r.Axis = axis then two (l.length : Int) r else [] := by
 unfold gr
 rw [cnt_snoc, List.flatMap_append]
 congr 1
 by_cases h1 : r.Time ≤ now
 ·by_cases h2 : r.Axis = axis
  ·rw [if_pos h1, if_pos ⟨h1, h2⟩, List.flatMap_cons, List.flatMap_nil, List.append_nil, if_pos h2]
  ·rw [if_pos h1, if_neg fun h => h2 h.2, List.flatMap_cons, List.flatMap_nil, List.append_nil, if_neg h2]
 ·rw [if_neg h1, if_neg fun h => h1 h.1]
  rfl
theorem gr_sub (l : List Report) (r : Report) (now axis : Int) : ∀ e ∈ gr l now axis, e ∈ gr (l ++ [r]) now axis := fun e he => by
 rw [gr_snoc]
 exact List.mem_append.2 (.inl he)
theorem cons_snoc {l : List Report} {r : Report} {now : Int} (ht : r.Time ≤ now) (ha : 0 ≤ r.Axis ∧ r.Axis < 3) : Cons (l ++ [r]) now ↔ Cons l now ∧ NoNeg (gr l now r.Axis ++ two (l.length : Int) r) := by
 constructor
 ·intro h
  refine ⟨fun a a0 a1 => nn_mono (gr_sub l r now a) (h a a0 a1), ?_⟩
  have := h r.Axis ha.1 ha.2
  rw [gr_snoc, if_pos ⟨ht, rfl⟩] at this
  exact this
 ·rintro ⟨h1, h2⟩ a a0 a1
  rw [gr_snoc]
  by_cases e : r.Axis = a
  ·subst e
   rw [if_pos ⟨ht, rfl⟩]
   exact h2
  ·rw [if_neg fun h => e h.2, List.append_nil]
   exact h1 a a0 a1
theorem Hy.snoc {l : List Report} {r : Report} {m : Nat} (h : FewP l m) (hm : m ≤ 30) (hr : Good r) (hA : r.A ≤ 9) (hB : r.B ≤ 9) : Hy (l ++ [r]) := by
 have h1 := h.len
 have h2 := h.tn
 refine ⟨by simp only [List.length_append, List.length_cons, List.length_nil]; omega, fun q hq => ?_, ?_⟩
 ·rcases List.mem_append.1 hq with hq | hq
  ·exact h.good q hq
  ·cases List.mem_singleton.1 hq
   exact hr
 ·rw [tn_append]
  omega
theorem FitP.pot {l : List Report} {now : Int} {at0 : List A3} (h : FitP l now at0) (a : Int) : Pot (gr l now a) (fun v => off at0 v a) := fun e he => by
 obtain ⟨i, r, h1, h2, h3⟩ := mem_gr.1 he
 have h4 := h i r h1
 rw [h2] at h4
 rcases h3 with rfl | rfl
 ·dsimp only; omega
 ·dsimp only; omega
theorem FitP.cons {l : List Report} {now : Int} {at0 : List A3} (h : FitP l now at0) : Cons l now := fun a _ _ => (h.pot a).nn
end Go.Proofs.Ytimhhebjefkjlaa

namespace Go.Proofs.Ytimhhebjefkjlaa
open Go Go.Sk
set_option linter.unusedVariables false
set_option linter.unusedSimpArgs false
def Gle (g g' : List GEdge) : Prop := ∀ e ∈ g, ∃ L, Wk g' e.src L e.to ∧ wt L ≤ e.weight
theorem wk_gle {g g' : List GEdge} (h : Gle g g') : ∀ {L : List GEdge} {a b : Int}, Wk g a L b → ∃ L', Wk g' a L' b ∧ wt L' ≤ wt L
 | [], a, b, hw => ⟨[], hw, Int.le_refl _⟩
 | e :: L, a, b, ⟨h1, h2, h3⟩ => by
  obtain ⟨M, i1, i2⟩ := h e h1
  obtain ⟨N, j1, j2⟩ := wk_gle h h3
  rw [h2] at i1
  exact ⟨M ++ N, wk_append.2 ⟨_, i1, j1⟩, by rw [wt_append]; simp only [wt]; omega⟩
theorem nn_gle {g g' : List GEdge} (h : Gle g g') (hn : NoNeg g') : NoNeg g := fun a L hw => by
 obtain ⟨L', h1, h2⟩ := wk_gle h hw
 have := hn a L' h1
 omega
theorem gle_turn {g g' : List GEdge} (h : Gle g g') : Gle (turn g) (turn g') := fun e he => by
 obtain ⟨e', h1, rfl⟩ := List.mem_map.1 he
 obtain ⟨L, h2, h3⟩ := h e' h1
 have h4 : Wk (turn (turn g')) e'.src L e'.to := by rw [turn_turn]; exact h2
 obtain ⟨L', h5, h6, _⟩ := wk_turn h4
 exact ⟨L', h5, by dsimp only; omega⟩
theorem sub_turn {g g' : List GEdge} (h : ∀ e ∈ g, e ∈ g') : ∀ e ∈ turn g, e ∈ turn g' := fun e he => by
 obtain ⟨e', h1, rfl⟩ := List.mem_map.1 he
 exact List.mem_map.2 ⟨e', h e' h1, rfl⟩
theorem lst_more {g g' : List GEdge} {d0 d : Ds} (h : ∀ e ∈ g, e ∈ g') (h' : Gle g' g) (hl : Lst g d0 d) : Lst g' d0 d := by
 refine ⟨fun v x hx => ?_, ?_⟩
 ·obtain ⟨a, x0, L, h1, h2, h3⟩ := hl.snd v x hx
  exact ⟨a, x0, L, h1, wk_mono h h2, h3⟩
 ·rintro v x ⟨a, x0, L, h1, h2, rfl⟩
  obtain ⟨L', h3, h4⟩ := wk_gle h' h2
  obtain ⟨y, h5, h6⟩ := hl.cpl v _ ⟨a, x0, L', h1, h3, rfl⟩
  exact ⟨y, h5, by omega⟩
theorem lst_le {g g' : List GEdge} {d0 d d' : Ds} (h : ∀ e ∈ g, e ∈ g') (hl : Lst g d0 d) (hl' : Lst g' d0 d') {v x : Int} (hx : d v = some x) : ∃ y, d' v = some y ∧ y ≤ x := by
 obtain ⟨a, x0, L, h1, h2, h3⟩ := hl.snd v x hx
 exact hl'.cpl v x ⟨a, x0, L, h1, wk_mono h h2, h3⟩
theorem narrow_ent {l : List Report} {r : Report} {now i a : Int} {x y : Bound} (hx : BoxE l now i a x) (hy : BoxE (l ++ [r]) now i a y) :
  (x.Above = true → y.Above = true ∧ y.Hi ≤ x.Hi) ∧ (x.Below = true → y.Below = true ∧ x.Lo ≤ y.Lo) := by
 obtain ⟨u, d, h1, h2, rfl⟩ := hx
 obtain ⟨u', d', i1, i2, rfl⟩ := hy
 have hs := gr_sub l r now a
 constructor
 ·intro h
  dsimp only at h ⊢
  obtain ⟨z, hz⟩ := Option.isSome_iff_exists.1 h
  obtain ⟨w, hw, hle⟩ := lst_le hs h1 i1 hz
  rw [hz, hw]
  exact ⟨rfl, hle⟩
 ·intro h
  dsimp only at h ⊢
  obtain ⟨z, hz⟩ := Option.isSome_iff_exists.1 h
  obtain ⟨w, hw, hle⟩ := lst_le (sub_turn hs) h2 i2 hz
  rw [hz, hw]
  exact ⟨rfl, by dsimp only [Option.getD_some]; omega⟩
theorem imp_gle {l : List Report} {r : Report} {now : Int} {u d : Ds} (hu : Lst (gr l now r.Axis) (one r.A) u) (hd : Lst (gr l now r.Axis) (one r.B) d) (h : ImpP u d r) (a : Int) : Gle (gr (l ++ [r]) now a) (gr l now a) := by
 intro e he
 rw [gr_snoc] at he
 replace he := List.mem_append.1 he
 rcases he with he | he
 ·exact ⟨[e], ⟨he, rfl, rfl⟩, by simp [wt]⟩
 ·by_cases hc : r.Time ≤ now ∧ r.Axis = a
  ·rw [if_pos hc] at he
   obtain ⟨_, rfl⟩ := hc
   obtain ⟨⟨p, h1, h2⟩, q, h3, h4⟩ := h
   obtain ⟨L, i1, i2⟩ := hu.wk1 h1
   obtain ⟨M, j1, j2⟩ := hd.wk1 h3
   simp only [two, List.mem_cons, List.not_mem_nil, or_false] at he
   rcases he with rfl | rfl
   ·exact ⟨L, i1, by dsimp only; omega⟩
   ·exact ⟨M, j1, by dsimp only; omega⟩
  ·rw [if_neg hc] at he
   cases he
theorem imp_high {l : List Report} {r q : Report} {now : Int} {u d : Ds} (hu : Lst (gr l now r.Axis) (one r.A) u) (hd : Lst (gr l now r.Axis) (one r.B) d) (h : ImpP u d r) (ha : 0 ≤ r.Axis ∧ r.Axis < 3) (ht : q.Time ≤ now) (hA : q.A = r.A) (hB : q.B = r.B) (hax : q.Axis = r.Axis) (hq : r.Hi < q.Lo ∨ q.Hi < r.Lo) : ¬ Cons (l ++ [q]) now := by
 intro hc
 have h2 := ((cons_snoc ht (by rw [hax]; exact ha)).1 hc).2
 rw [hax] at h2
 obtain ⟨⟨p, h3, h4⟩, p', h5, h6⟩ := h
 obtain ⟨L, i1, i2⟩ := hu.wk1 h3
 obtain ⟨M, j1, j2⟩ := hd.wk1 h5
 have hsub : ∀ e ∈ gr l now r.Axis, e ∈ gr l now r.Axis ++ two (l.length : Int) q := fun e he => List.mem_append.2 (.inl he)
 rcases hq with hq | hq
 ·have h7 := h2 r.A (L ++ [(⟨q.B, q.A, -q.Lo, (l.length : Int)⟩ : GEdge)]) (wk_append.2 ⟨r.B, wk_mono hsub i1, List.mem_append.2 (.inr (by simp [two])), hB, hA⟩)
  rw [wt_append] at h7
  simp only [wt] at h7
  omega
 ·have h7 := h2 r.B (M ++ [(⟨q.A, q.B, q.Hi, (l.length : Int)⟩ : GEdge)]) (wk_append.2 ⟨r.A, wk_mono hsub j1, List.mem_append.2 (.inr (by simp [two])), hA, hB⟩)
  rw [wt_append] at h7
  simp only [wt] at h7
  omega
theorem narrows_law (l : List Report) (now : Int) (r : Report) : skewbacklaw39_SensorNarrows_S 2000 l now r = some true := by
 refine Yld.eq ?_
 unfold skewbacklaw39_SensorNarrows_S
 refine Yld.bind (r_few (m := 30) (by omega) (by omega)) fun b hb => ?_
 cases b with
 | false => exact Yld.g0 rfl (Yld.ln (Yld.ift rfl (san rfl)))
 | true =>
 have hf := hb.1 rfl
 refine Yld.g1 rfl (Yld.bind (r_few (l := [r]) (m := 1) (by omega) (by omega)) fun b2 hb2 => ?_)
 refine Yld.ln (Yld.ite (fun _ => san rfl) (fun hc => ?_))
 simp only [Bool.or_eq_false_iff, decide_eq_false_iff_not, Bool.not_eq_false'] at hc
 obtain ⟨⟨⟨_, hb2t⟩, hnow⟩, hmax⟩ := hc
 have hf2 := hb2.1 hb2t
 have hr : Good r := hf2.good r (by simp)
 have htn2 := hf2.tn
 have htr := tn_ge (l := [r]) (r := r) (by simp)
 have hlo := hr.lo
 have hhi := hr.hi
 have hax := hr.axis
 rw [wi64' (z := -r.Lo) (by omega) (by omega), wi64' (z := -r.Hi) (by omega) (by omega)] at hmax
 have hy := hf.hy (by omega)
 have hll := hf.len
 have hyS := Hy.snoc hf (by omega) hr (by omega) (by omega)
 have htk : l.take ((l.length : Int)).toNat = l := by rw [Int.toNat_natCast, List.take_length]
 refine Yld.bind (p_boxes (now := now) (by omega) hy) ?_
 rintro ⟨bx, e⟩ hbx
 refine Yld.take (by omega) (by omega) ?_
 rw [htk]
 refine Yld.app (by simp only [List.length_cons, List.length_nil]; omega) ?_
 refine Yld.bind (p_boxes (now := now) (by omega) hyS) ?_
 rintro ⟨bx', f⟩ hbx'
 refine Yld.bind (p_implied (now := now) (r := r) (by omega) hy) ?_
 rintro ⟨im, g⟩ him
 have hsubC : Cons (l ++ [r]) now → Cons l now := fun h a a0 a1 => nn_mono (gr_sub l r now a) (h a a0 a1)
 rcases hbx with ⟨hcc, h2, h3⟩ | ⟨hcc, h2⟩
 ·dsimp only at h2 h3
  subst h2
  refine Yld.iff rfl ?_
  rcases him with ⟨i1, _⟩ | ⟨_, i1, _⟩ | ⟨_, _, i2, u, d, hu, hd, himp⟩
  ·exact absurd hr i1
  ·exact absurd hcc i1
  dsimp only at i2 himp
  subst i2
  have hgle : im = true → ∀ a, Gle (gr (l ++ [r]) now a) (gr l now a) := fun h a => imp_gle hu hd (himp.1 h) a
  have hok : im = true → Cons (l ++ [r]) now := fun h a a0 a1 => nn_gle (hgle h a) (hcc a a0 a1)
  have hof : (im && decide (f ≠ 0)) = false := by
   cases him : im
   ·rfl
   ·rcases hbx' with ⟨_, j2, _⟩ | ⟨j1, _⟩
    ·dsimp only at j2; subst j2; rfl
    ·exact absurd (hok him) j1
  rw [hof]
  refine Yld.iff rfl ?_
  refine Yld.take (by omega) (by omega) ?_
  rw [htk, wi64' (z := r.Hi + 1) (by omega) (by omega)]
  refine Yld.app (by simp only [List.length_cons, List.length_nil]; omega) ?_
  have hy1 : Hy (l ++ [(⟨r.A, r.B, r.Axis, r.Hi + 1, 1099511627776, r.Time⟩ : Report)]) := Hy.snoc hf (by omega) ⟨hr.A, hr.B, hr.ne, hr.axis, by dsimp only; omega, by dsimp only; omega, hr.time⟩ (by dsimp only; omega) (by dsimp only; omega)
  refine Yld.bind (p_cons (now := now) (by omega) hy1) fun c1 hc1 => ?_
  refine Yld.take (by omega) (by omega) ?_
  rw [htk, wi64' (z := r.Lo - 1) (by omega) (by omega)]
  refine Yld.app (by simp only [List.length_cons, List.length_nil]; omega) ?_
  have hy2 : Hy (l ++ [(⟨r.A, r.B, r.Axis, -1099511627776, r.Lo - 1, r.Time⟩ : Report)]) := Hy.snoc hf (by omega) ⟨hr.A, hr.B, hr.ne, hr.axis, by dsimp only; omega, by dsimp only; omega, hr.time⟩ (by dsimp only; omega) (by dsimp only; omega)
  refine Yld.bind (p_cons (now := now) (by omega) hy2) fun c2 hc2 => ?_
  have hq : (im && (c1 || c2)) = false := by
   cases him : im
   ·rfl
   ·have hP := himp.1 him
    have k1 : c1 = false := bool_not hc1 (imp_high hu hd hP ⟨hax.1, by omega⟩ (by dsimp only; omega) rfl rfl rfl (.inl (by dsimp only; omega)))
    have k2 : c2 = false := bool_not hc2 (imp_high hu hd hP ⟨hax.1, by omega⟩ (by dsimp only; omega) rfl rfl rfl (.inr (by dsimp only; omega)))
    rw [k1, k2]
    rfl
  rw [hq]
  refine Yld.iff rfl ?_
  rcases hbx' with ⟨jc, j2, j3⟩ | ⟨j1, j2⟩
  ·dsimp only at j2 j3
   subst j2
   refine Yld.iff rfl ?_
   have hbl := h3.len
   have hbl' := j3.len
   have htge : tn l ≤ tn (l ++ [r]) := by rw [tn_append]; omega
   have ht9 := hf.tn
   refine Yld.bind (P := fun t => t = .inl ()) ?_ ?_
   ·refine Yld.rounds bx.length (fun k s => s = (k : Int)) (by omega) rfl ?_
    rintro k x hk rfl
    refine Yld.ite (fun hlt => ?_) (fun hge => ?_)
    ·have hk' : k < bx.length := by
      have h9 : (k : Int) < (bx.length : Int) := of_decide_eq_true hlt
      omega
     refine Yld.bind (P := fun t => t = .inl ()) ?_ ?_
     ·refine Yld.bind (P := fun t => t = .inl ()) ?_ ?_
      ·refine Yld.rounds 3 (fun j s => s = (j : Int)) (by omega) rfl ?_
       rintro j x hj rfl
       refine Yld.ite (fun hlt => ?_) (fun hge => ?_)
       ·have hj' : (j : Int) < 3 := of_decide_eq_true hlt
        have j0 : (0 : Int) ≤ (j : Int) := by omega
        refine Yld.idx (by omega) (show (k : Int) < (bx.length : Int) by omega) ?_
        refine Yld.idx j0 (by rw [B3_len]; exact hj') ?_
        refine Yld.idx (by omega) (show (k : Int) < (bx'.length : Int) by omega) ?_
        refine Yld.idx j0 (by rw [B3_len]; exact hj') ?_
        have e1 := h3.ent (k : Int) (j : Int) (by omega) (by omega) j0 hj'
        have e2 := j3.ent (k : Int) (j : Int) (by omega) (by omega) j0 hj'
        have hn := narrow_ent e1 e2
        have heq : im = true → idx (idx bx (k : Int)).l (j : Int) = idx (idx bx' (k : Int)).l (j : Int) := fun him => by
         obtain ⟨u1, d1, a1, a2, a3⟩ := e1
         refine BoxE.unique (l := l ++ [r]) (now := now) (i := (k : Int)) (a := (j : Int)) ⟨u1, d1, ?_, ?_, a3⟩ e2
         ·exact lst_more (gr_sub l r now j) (hgle him j) a1
         ·exact lst_more (sub_turn (gr_sub l r now j)) (gle_turn (hgle him j)) a2
        generalize idx (idx bx (k : Int)).l (j : Int) = x at hn heq ⊢
        generalize idx (idx bx' (k : Int)).l (j : Int) = y at hn heq ⊢
        have c1 : (x.Above && ((!y.Above) || (decide (x.Hi < y.Hi)))) = false := by
         cases h1 : x.Above
         ·rfl
         ·obtain ⟨h2, h3⟩ := hn.1 h1
          rw [h2, dff (by omega)]
          rfl
        have c2 : (x.Below && ((!y.Below) || (decide (y.Lo < x.Lo)))) = false := by
         cases h1 : x.Below
         ·rfl
         ·obtain ⟨h2, h3⟩ := hn.2 h1
          rw [h2, dff (by omega)]
          rfl
        have c3 : (im && decide (x ≠ y)) = false := by
         cases h1 : im
         ·rfl
         ·rw [dff fun h => h (heq h1)]
          rfl
        rw [c1, c2, c3]
        exact Yld.ln (Yld.ln (Yld.iff rfl (Yld.some (.inl ⟨_, rfl, wi64' (by omega) (by omega), by omega⟩))))
       ·exact Yld.some (.inr ⟨_, rfl, rfl⟩)
      ·rintro t rfl
       exact Yld.some rfl
     ·rintro t rfl
      exact Yld.some (.inl ⟨_, rfl, wi64' (by omega) (by omega), hk'⟩)
    ·exact Yld.some (.inr ⟨_, rfl, rfl⟩)
   ·rintro t rfl
    exact san rfl
  ·cases j2
   exact Yld.ift rfl (san rfl)
 ·cases h2
  refine Yld.ift rfl (Yld.bindE sanity_ok (Yld.some ?_))
  rcases hbx' with ⟨j1, _⟩ | ⟨_, j2⟩
  ·exact absurd (hsubC j1) hcc
  ·cases j2
   rcases him with ⟨i1, _⟩ | ⟨_, _, i2⟩ | ⟨_, i1, _⟩
   ·exact absurd hr i1
   ·cases i2
    rfl
   ·exact absurd i1 hcc
end Go.Proofs.Ytimhhebjefkjlaa

namespace Go.Proofs.Ytimhhebjefkjlaa
open Go Go.Sk
theorem narrows_ctr (x0 : List Report) (x1 : Int) (x2 : Report)  : Meets Try.prog [] 6 [] [.one (.sl 6 (x0.map eReport)), .one (.i x1), .agg (eReport x2)] (Is [] (.b (.one (.bool true)))) :=
 skewbacklaw39_SensorNarrows_spec (narrows_law x0 x1 x2 )
end Go.Proofs.Ytimhhebjefkjlaa

