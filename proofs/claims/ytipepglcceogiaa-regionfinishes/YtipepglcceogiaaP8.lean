/- the plain law -/
import Derived.Test.YtipepglcceogiaaP7
namespace Go.Proofs.Ytipepglcceogiaa
open Go.Sk
open Go
set_option linter.unusedSimpArgs false
set_option linter.unusedVariables false
/-! ## every open gift has a letter on its way -/
def isL (y : Parcel) (k f t e : Int) : Prop := y.Kind = k ∧ y.From = f ∧ y.To = t ∧ y.Epoch = e
def Ob (g : Int → Holding) (q : List Parcel) : Prop :=
  ∀ a, ((g a).Phase = 2 → (∃ y ∈ q, isL y 1 a (g a).Peer (g a).Epoch) ∨ (∃ y ∈ q, isL y 2 (g a).Peer a (g a).Epoch)) ∧
    ((g a).Phase = 3 → (∃ y ∈ q, isL y 3 a (g a).Peer (g a).Epoch) ∨ (∃ y ∈ q, isL y 4 (g a).Peer a (g a).Epoch))
def wt (x : Parcel) : Nat := if x.Kind = 1 then 4 else if x.Kind = 2 then 3 else if x.Kind = 3 then 2 else 1
def wts : List Parcel → Nat
  | [] => 0
  | x :: q => wt x + wts q
theorem wts_app : ∀ p q : List Parcel, wts (p ++ q) = wts p + wts q
  | [], q => by simp [wts]
  | x :: p, q => by rw [List.cons_append, wts, wts, wts_app p q]; omega
theorem wt_pos (x : Parcel) : 1 ≤ wt x := by unfold wt; repeat' split
                                             all_goals omega
theorem wts_len : ∀ q : List Parcel, q.length ≤ wts q
  | [] => by simp [wts]
  | x :: q => by have := wts_len q; have := wt_pos x; simp only [wts, List.length_cons]; omega
theorem step_wt (a : Int) (v : Holding) (x : Parcel) : wts (step a v x).2 + 1 ≤ wt x := by
  have h1 := wt_pos x
  unfold step
  split
  · exact h1
  split
  · rename_i k
    have : wt x = 4 := by unfold wt; rw [if_pos k]
    repeat' split
    all_goals simp [wts, ansK, wt, k]
  split
  · rename_i k1 k
    have : wt x = 3 := by unfold wt; rw [if_neg k1, if_pos k]
    repeat' split
    all_goals simp [wts, ansK, wt, k]
  split
  · rename_i k1 k2 k
    have : wt x = 2 := by unfold wt; rw [if_neg k1, if_neg k2, if_pos k]
    repeat' split
    all_goals simp [wts, ansK, wt, k]
  split
  · repeat' split
    all_goals exact h1
  · exact h1
theorem stepG_wt (n : Int) (g : Int → Holding) (x : Parcel) : wts (stepG n g x).2 + 1 ≤ wt x := by
  unfold stepG
  split
  · exact step_wt _ _ _
  · exact wt_pos x
/-- the phase after a letter -/
theorem step_ph (a : Int) (v : Holding) (x : Parcel) : (step a v x).1 = v ∨ ((step a v x).1.Phase ≠ 2 ∧ ((step a v x).1.Phase = 3 → v.Phase = 2 ∧ (step a v x).1.Peer = x.From ∧ (step a v x).1.Epoch = x.Epoch ∧ (step a v x).2 = ansK a x 3)) := by
  unfold step
  repeat' split
  all_goals first | exact .inl rfl | (right; simp only; grind)
section
variable {n : Int} {g : Int → Holding} {last : Str} {h : Int} (I : Inv n g last h) (n4 : n ≤ 4) (ph : ∀ i, (g i).Phase = 0 ∨ (g i).Phase = 1 ∨ (g i).Phase = 2 ∨ (g i).Phase = 3 ∨ (g i).Phase = 4)
include I n4
theorem good_mk {a p k : Int} {x : Parcel} (ha : (g a).Phase = 2 ∨ (g a).Phase = 3) (hb : x.Body = 1) (he : x.Epoch = (g a).Epoch) (hx : (x.From = a ∧ x.To = (g a).Peer) ∨ (x.From = (g a).Peer ∧ x.To = a)) : ¬ badP x.To x ∧ 0 ≤ x.To ∧ x.To < n := by
  have q := I.q a ha
  have o := I.out a (by omega)
  unfold badP
  omega
include ph
/-- the accept comes -/
theorem ans1 {a : Int} {x : Parcel} (ha : (g a).Phase = 2) (hb : x.Body = 1) (hx : isL x 1 a (g a).Peer (g a).Epoch) : ∃ y ∈ (stepG n g x).2, isL y 2 (g a).Peer a (g a).Epoch := by
  obtain ⟨k, f, t, e⟩ := hx
  have hg := good_mk I n4 (p := 0) (k := 0) (.inl ha) hb e (.inl ⟨f, t⟩)
  have q := I.q a (.inl ha)
  have hah : a = h := Classical.byContradiction fun hc => (I.o a hc).2.1 ha
  subst hah
  have o := I.o _ q.1
  have hp := ph (g a).Peer
  have fact : (step x.To (g x.To) x).2 = ansK x.To x 2 := by
    unfold step
    rw [if_neg hg.1, if_pos k, t]
    by_cases c : (g (g a).Peer).Epoch < x.Epoch ∧ ((g (g a).Peer).Phase = 0 ∨ (g (g a).Peer).Phase = 4 ∨ (g (g a).Peer).Phase = 3)
    · rw [if_pos c]
    · have e2 : (g (g a).Peer).Epoch = (g a).Epoch := by omega
      have o2 := I.o2 ha _ q.1 e2
      rw [if_neg c, if_pos ⟨o2.1, by omega, by omega⟩]
  refine ⟨⟨x.To, x.From, 2, x.Body, x.Epoch, []⟩, ?_, rfl, t, f, e⟩
  unfold stepG
  rw [if_pos hg.2]
  show _ ∈ (step x.To (g x.To) x).2
  rw [fact]
  simp [ansK]
omit ph in
/-- the last answer comes -/
theorem ans3 {a : Int} {x : Parcel} (ha : (g a).Phase = 3) (hb : x.Body = 1) (hx : isL x 3 a (g a).Peer (g a).Epoch) : ∃ y ∈ (stepG n g x).2, isL y 4 (g a).Peer a (g a).Epoch := by
  obtain ⟨k, f, t, e⟩ := hx
  have hg := good_mk I n4 (p := 0) (k := 0) (.inr ha) hb e (.inl ⟨f, t⟩)
  have fact : (step x.To (g x.To) x).2 = ansK x.To x 4 := by
    unfold step
    rw [if_neg hg.1, if_neg (by omega), if_neg (by omega), if_pos k, t]
    by_cases c : (g (g a).Peer).Phase = 4 ∧ (g (g a).Peer).Epoch = x.Epoch ∧ (g (g a).Peer).Peer = x.From
    · rw [if_pos c]
    · rw [if_neg c]
      by_cases hah : a = h
      · subst hah
        have o3 := I.o3 ha
        exact absurd ⟨o3.2.2.1, by omega, by omega⟩ c
      · have r := I.r a hah ha
        unfold past at r
        rw [← e] at r
        rw [if_pos r]
  refine ⟨⟨x.To, x.From, 4, x.Body, x.Epoch, []⟩, ?_, rfl, t, f, e⟩
  unfold stepG
  rw [if_pos hg.2]
  show _ ∈ (step x.To (g x.To) x).2
  rw [fact]
  simp [ansK]
omit ph in
theorem take2 {a : Int} {x : Parcel} (ha : (g a).Phase = 2) (hb : x.Body = 1) (hx : isL x 2 (g a).Peer a (g a).Epoch) : ((stepG n g x).1 a).Phase = 3 := by
  obtain ⟨k, f, t, e⟩ := hx
  have hg := good_mk I n4 (p := 0) (k := 0) (.inl ha) hb e (.inr ⟨f, t⟩)
  unfold stepG
  rw [if_pos hg.2]
  show (upd g x.To _ a).Phase = 3
  unfold upd step
  rw [if_pos t.symm, if_neg hg.1, if_neg (by omega), if_pos k, t, if_pos ⟨ha, by omega, by omega⟩]
omit ph in
theorem take4 {a : Int} {x : Parcel} (ha : (g a).Phase = 3) (hb : x.Body = 1) (hx : isL x 4 (g a).Peer a (g a).Epoch) : ((stepG n g x).1 a).Phase = 0 := by
  obtain ⟨k, f, t, e⟩ := hx
  have hg := good_mk I n4 (p := 0) (k := 0) (.inr ha) hb e (.inr ⟨f, t⟩)
  unfold stepG
  rw [if_pos hg.2]
  show (upd g x.To _ a).Phase = 0
  unfold upd step
  rw [if_pos t.symm, if_neg hg.1, if_neg (by omega), if_neg (by omega), if_neg (by omega), if_pos k, t, if_pos ⟨ha, by omega, by omega⟩]
omit I n4 ph in
theorem stepG_at (x : Parcel) (a : Int) : (stepG n g x).1 a = g a ∨ (((stepG n g x).1 a).Phase ≠ 2 ∧ (((stepG n g x).1 a).Phase = 3 → a = x.To ∧ ((stepG n g x).1 a).Peer = x.From ∧ ((stepG n g x).1 a).Epoch = x.Epoch ∧ (stepG n g x).2 = ansK a x 3)) := by
  unfold stepG
  split
  · show upd g x.To _ a = g a ∨ _
    by_cases e : a = x.To
    · subst e
      have u : upd g x.To (step x.To (g x.To) x).1 x.To = (step x.To (g x.To) x).1 := if_pos rfl
      dsimp only
      rw [u]
      rcases step_ph x.To (g x.To) x with s | s
      · exact .inl s
      · exact .inr ⟨s.1, fun h3 => ⟨rfl, (s.2 h3).2⟩⟩
    · exact .inl (if_neg e)
  · exact .inl rfl
theorem ob_step {x : Parcel} {q : List Parcel} (hb : x.Body = 1) (hq : Ob g (x :: q)) : Ob (stepG n g x).1 (q ++ (stepG n g x).2) := by
  intro a
  have old := hq a
  rcases stepG_at (n := n) (g := g) x a with e | ⟨e1, e2⟩
  · have t2 := take2 I n4 (a := a) (x := x)
    have t4 := take4 I n4 (a := a) (x := x)
    rw [e] at t2 t4 ⊢
    refine ⟨fun h2 => ?_, fun h3 => ?_⟩
    · rcases old.1 h2 with ⟨y, hy, hl⟩ | ⟨y, hy, hl⟩
      · rcases List.mem_cons.1 hy with hy | hy
        · subst hy
          obtain ⟨z, hz, hz'⟩ := ans1 I n4 ph h2 hb hl
          exact .inr ⟨z, List.mem_append.2 (.inr hz), hz'⟩
        · exact .inl ⟨y, List.mem_append.2 (.inl hy), hl⟩
      · rcases List.mem_cons.1 hy with hy | hy
        · subst hy
          have := t2 h2 hb hl
          omega
        · exact .inr ⟨y, List.mem_append.2 (.inl hy), hl⟩
    · rcases old.2 h3 with ⟨y, hy, hl⟩ | ⟨y, hy, hl⟩
      · rcases List.mem_cons.1 hy with hy | hy
        · subst hy
          obtain ⟨z, hz, hz'⟩ := ans3 I n4 h3 hb hl
          exact .inr ⟨z, List.mem_append.2 (.inr hz), hz'⟩
        · exact .inl ⟨y, List.mem_append.2 (.inl hy), hl⟩
      · rcases List.mem_cons.1 hy with hy | hy
        · subst hy
          have := t4 h3 hb hl
          omega
        · exact .inr ⟨y, List.mem_append.2 (.inl hy), hl⟩
  · refine ⟨fun h2 => absurd h2 e1, fun h3 => ?_⟩
    obtain ⟨r1, r2, r3, r4⟩ := e2 h3
    left
    rw [r4, r2, r3]
    exact ⟨⟨a, x.From, 3, x.Body, x.Epoch, []⟩, List.mem_append.2 (.inr (by simp [ansK])), rfl, rfl, rfl, rfl⟩
omit I n4 ph in
theorem still_step {x : Parcel} (hq : ∀ i, (g i).Phase ≠ 2 ∧ (g i).Phase ≠ 3) (i : Int) : ((stepG n g x).1 i).Phase ≠ 2 ∧ ((stepG n g x).1 i).Phase ≠ 3 := by
  unfold stepG
  split
  · show (upd g x.To _ i).Phase ≠ 2 ∧ (upd g x.To _ i).Phase ≠ 3
    unfold upd
    split
    · rcases step_ph x.To (g x.To) x with s | s
      · rw [s]; exact hq _
      · exact ⟨s.1, fun h3 => (hq x.To).1 (s.2 h3).1⟩
    · exact hq i
  · exact hq i
end
theorem ob_nil {g : Int → Holding} (h : Ob g []) (i : Int) : (g i).Phase ≠ 2 ∧ (g i).Phase ≠ 3 := by
  have := h i
  refine ⟨fun e => ?_, fun e => ?_⟩
  · rcases this.1 e with ⟨y, hy, _⟩ | ⟨y, hy, _⟩ <;> simp at hy
  · rcases this.2 e with ⟨y, hy, _⟩ | ⟨y, hy, _⟩ <;> simp at hy
end Go.Proofs.Ytipepglcceogiaa
