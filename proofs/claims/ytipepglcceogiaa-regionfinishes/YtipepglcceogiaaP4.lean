/- the plain law -/
import Derived.Test.YtipepglcceogiaaP3
namespace Go.Proofs.Ytipepglcceogiaa
open Go.Sk
open Go
set_option linter.unusedSimpArgs false
set_option linter.unusedVariables false
/-! ## the protocol: what holds of all nodes and of all letters -/
def past (v : Holding) (E : Int) : Prop := E < v.Epoch ∨ (v.Epoch = E ∧ v.Phase ≠ 4)
def upd (g : Int → Holding) (a : Int) (v : Holding) : Int → Holding := fun i => if i = a then v else g i
theorem upd_self (g : Int → Holding) (a : Int) : upd g a (g a) = g := by
  funext i
  unfold upd
  split
  · rename_i h; rw [h]
  · rfl
def letterOk (n : Int) (g : Int → Holding) (last : Str) (h : Int) (x : Parcel) : Prop :=
  (0 ≤ x.From ∧ x.From < n) ∧ x.Body = 1 ∧ (x.Kind = 1 → x.Epoch ≤ (g h).Epoch ∧ ((g h).Phase = 2 → x.Epoch = (g h).Epoch → x.From = h ∧ x.Data = last)) ∧
    (x.Kind = 2 → x.Epoch ≤ (g x.From).Epoch) ∧ (x.Kind = 3 → past (g x.To) x.Epoch ∨ ((g h).Phase = 3 ∧ x.Epoch = (g h).Epoch ∧ x.To = (g h).Peer)) ∧ (x.Kind = 4 → past (g x.From) x.Epoch)
structure Inv (n : Int) (g : Int → Holding) (last : Str) (h : Int) : Prop where
  hr : 0 ≤ h ∧ h < n
  out : ∀ i, (g i).Phase ≠ 0 → 0 ≤ i ∧ i < n
  p : (g h).Phase = 1 ∨ (g h).Phase = 2 ∨ (g h).Phase = 3
  d : (g h).Data = last
  o : ∀ i, i ≠ h → (g i).Phase ≠ 1 ∧ (g i).Phase ≠ 2 ∧ (g i).Epoch ≤ (g h).Epoch
  o2 : (g h).Phase = 2 → ∀ i, i ≠ h → (g i).Epoch = (g h).Epoch → (g i).Phase = 4 ∧ (g i).Peer = h ∧ (g i).Data = last
  o3 : (g h).Phase = 3 → (g h).Peer ≠ h ∧ (g (g h).Peer).Epoch = (g h).Epoch ∧ (g (g h).Peer).Phase = 4 ∧ (g (g h).Peer).Peer = h ∧ (g (g h).Peer).Data = last
  o4 : (g h).Phase = 3 → ∀ i, i ≠ h → (g i).Phase = 3 → (g i).Epoch < (g h).Epoch
  r : ∀ i, i ≠ h → (g i).Phase = 3 → past (g (g i).Peer) (g i).Epoch
  q : ∀ i, (g i).Phase = 2 ∨ (g i).Phase = 3 → (g i).Peer ≠ i ∧ (0 ≤ (g i).Peer ∧ (g i).Peer < n) ∧ 1 ≤ (g i).Epoch ∧ (g i).Epoch ≤ 1099511627776
def step (a : Int) (v : Holding) (x : Parcel) : Holding × List Parcel :=
  if badP a x then (v, [])
  else if x.Kind = 1 then
    (if v.Epoch < x.Epoch ∧ (v.Phase = 0 ∨ v.Phase = 4 ∨ v.Phase = 3) then (⟨1, x.Epoch, 4, x.From, x.Data⟩, ansK a x 2)
     else if v.Phase = 4 ∧ v.Epoch = x.Epoch ∧ v.Peer = x.From then (v, ansK a x 2) else (v, []))
  else if x.Kind = 2 then
    (if v.Phase = 2 ∧ v.Epoch = x.Epoch ∧ v.Peer = x.From then (⟨1, x.Epoch, 3, x.From, v.Data⟩, ansK a x 3) else (v, []))
  else if x.Kind = 3 then
    (if v.Phase = 4 ∧ v.Epoch = x.Epoch ∧ v.Peer = x.From then (⟨1, x.Epoch, 1, 0, v.Data⟩, ansK a x 4)
     else if x.Epoch < v.Epoch ∨ (v.Epoch = x.Epoch ∧ v.Phase ≠ 4) then (v, ansK a x 4) else (v, []))
  else if x.Kind = 4 then
    (if v.Phase = 3 ∧ v.Epoch = x.Epoch ∧ v.Peer = x.From then (⟨1, x.Epoch, 0, 0, []⟩, []) else (v, []))
  else (v, [])
/-- the effect on the nodes, and on each letter that was sent -/
structure Keeps (n : Int) (g g' : Int → Holding) (last last' : Str) (h h' : Int) : Prop where
  inv : Inv n g' last' h'
  let_ : ∀ x, letterOk n g last h x → letterOk n g' last' h' x
theorem Keeps.refl {n : Int} {g : Int → Holding} {last : Str} {h : Int} (I : Inv n g last h) : Keeps n g g last last h h := ⟨I, fun _ hx => hx⟩
theorem let_mono {n : Int} {g g' : Int → Holding} {last : Str} {h : Int} {x : Parcel} (hm : ∀ i, (g i).Epoch ≤ (g' i).Epoch) (hp : ∀ i E, past (g i) E → past (g' i) E) (hh : g' h = g h) (hx : letterOk n g last h x) : letterOk n g' last h x := by
  obtain ⟨y1, y2, y3, y4, y5, y6⟩ := hx
  unfold letterOk
  rw [hh]
  exact ⟨y1, y2, y3, fun k => Int.le_trans (y4 k) (hm _), fun k => (y5 k).imp (hp _ _) id, fun k => hp _ _ (y6 k)⟩
theorem kk_of {n : Int} {g : Int → Holding} {last : Str} {h a : Int} {v : Holding} (hah : a ≠ h) (he : (g a).Epoch ≤ v.Epoch) (hp : ∀ E, past (g a) E → past v E) (y : Parcel) (hy : letterOk n g last h y) : letterOk n (upd g a v) last h y := by
  have u : ∀ i, i ≠ a → upd g a v i = g i := fun i hi => if_neg hi
  have u' : upd g a v a = v := if_pos rfl
  refine let_mono (fun i => ?_) (fun i E hE => ?_) (u h (Ne.symm hah)) hy
  · by_cases e : i = a
    · rw [e, u']; exact he
    · rw [u i e]; exact Int.le_refl _
  · by_cases e : i = a
    · rw [e, u']; rw [e] at hE; exact hp E hE
    · rw [u i e]; exact hE
section
variable {n : Int} {g : Int → Holding} {last : Str} {h : Int} (I : Inv n g last h)
include I
/-- an offer -/
theorem inv_offer {a t : Int} (hp : (g a).Phase = 1) (hat : a ≠ t) (ht : 0 ≤ t ∧ t < n) (he : 0 ≤ (g a).Epoch ∧ (g a).Epoch < 1099511627776) : Keeps n g (upd g a ⟨1, (g a).Epoch + 1, 2, t, (g a).Data⟩) last last h h := by
  have e : a = h := Classical.byContradiction fun hc => (I.o a hc).1 hp
  subst e
  obtain ⟨hr, out, p, d, o, o2, o3, o4, r, q⟩ := I
  refine ⟨⟨hr, ?_, ?_, ?_, ?_, ?_, ?_, ?_, ?_, ?_⟩, ?_⟩
  all_goals grind [upd, past, letterOk]
theorem inv_cancel {a : Int} (hp : (g a).Phase = 2) : Keeps n g (upd g a ⟨1, (g a).Epoch, 1, 0, (g a).Data⟩) last last h h := by
  have e : a = h := Classical.byContradiction fun hc => (I.o a hc).2.1 hp
  subst e
  obtain ⟨hr, out, p, d, o, o2, o3, o4, r, q⟩ := I
  refine ⟨⟨hr, ?_, ?_, ?_, ?_, ?_, ?_, ?_, ?_, ?_⟩, ?_⟩
  all_goals grind [upd, past, letterOk]
theorem inv_put {a : Int} {b : Int} {w : Str} (hp : (g a).Phase = 1) : Keeps n g (upd g a ⟨b, (g a).Epoch, (g a).Phase, (g a).Peer, w⟩) last w h h := by
  have e : a = h := Classical.byContradiction fun hc => (I.o a hc).1 hp
  subst e
  obtain ⟨hr, out, p, d, o, o2, o3, o4, r, q⟩ := I
  refine ⟨⟨hr, ?_, ?_, ?_, ?_, ?_, ?_, ?_, ?_, ?_⟩, ?_⟩
  all_goals grind [upd, past, letterOk]
/-- what a node sends is right -/
theorem inv_letter {a : Int} {x : Parcel} (hb : (g a).Body = 1) (hx : x ∈ letterOf a (g a)) : letterOk n g last h x := by
  unfold letterOf at hx
  obtain ⟨hr, out, p, d, o, o2, o3, o4, r, q⟩ := I
  split at hx
  · rename_i hp
    have e : a = h := Classical.byContradiction fun hc => (o a hc).2.1 hp
    subst e
    simp only [List.mem_singleton] at hx
    subst hx
    grind [letterOk]
  · split at hx
    · rename_i hp
      simp only [List.mem_singleton] at hx
      subst hx
      unfold letterOk past
      have := out a (by omega)
      refine ⟨this, hb, by simp, by simp, fun _ => ?_, by simp⟩
      by_cases e : a = h
      · subst e; right; exact ⟨hp, rfl, rfl⟩
      · left; exact r a e hp
    · simp at hx
set_option maxHeartbeats 2000000 in
theorem inv_step {x : Parcel} (hx : letterOk n g last h x) (ha : 0 ≤ x.To ∧ x.To < n) :
    ∃ h', Keeps n g (upd g x.To (step x.To (g x.To) x).1) last last h h' ∧ ∀ y ∈ (step x.To (g x.To) x).2, letterOk n (upd g x.To (step x.To (g x.To) x).1) last h' y := by
  unfold step
  split
  · rw [upd_self]; exact ⟨h, .refl I, by simp⟩
  rename_i hb
  obtain ⟨-, hb2, hb3, hb4, hb5, hb6⟩ := good_of hb
  obtain ⟨x1, x2, x3, x4, x5, x6⟩ := hx
  have I' := I
  obtain ⟨hr, out, p, d, o, o2, o3, o4, r, q⟩ := I'
  split
  · rename_i k1
    split
    · rename_i hc
      have hah : x.To ≠ h := by intro e; have := (x3 k1).1; rw [← e] at this; omega
      have kk := kk_of (n := n) (last := last) (v := ⟨1, x.Epoch, 4, x.From, x.Data⟩) hah (Int.le_of_lt hc.1) (fun E hE => .inl (by unfold past at hE; show E < x.Epoch; omega))
      refine ⟨h, ⟨⟨hr, ?_, ?_, ?_, ?_, ?_, ?_, ?_, ?_, ?_⟩, kk⟩, ?_⟩
      clear kk
      all_goals first | grind [upd, past, letterOk, ansK] | (intro i; unfold upd; split <;> grind [past])
    · split
      · rw [upd_self]; refine ⟨h, .refl I, ?_⟩; grind [letterOk, ansK]
      · rw [upd_self]; exact ⟨h, .refl I, by simp⟩
  split
  · rename_i k2
    split
    · rename_i hc
      have e : x.To = h := Classical.byContradiction fun hc' => (o _ hc').2.1 hc.1
      subst e
      have hpe := x4 k2
      have hpo := o x.From hb3
      have hpp := o2 hc.1 x.From hb3 (by omega)
      refine ⟨x.To, ⟨⟨hr, ?_, ?_, ?_, ?_, ?_, ?_, ?_, ?_, ?_⟩, ?_⟩, ?_⟩
      all_goals first | grind [upd, past, letterOk, ansK] | (intro i; unfold upd; split <;> grind [past])
    · rw [upd_self]; exact ⟨h, .refl I, by simp⟩
  split
  · rename_i k3
    split
    · rename_i hc
      have hB := (x5 k3).resolve_left (by unfold past; omega)
      obtain ⟨b1, b2, b3⟩ := hB
      have hpp := o3 b1
      refine ⟨x.To, ⟨⟨ha, ?_, ?_, ?_, ?_, ?_, ?_, ?_, ?_, ?_⟩, ?_⟩, ?_⟩
      all_goals first | grind [upd, past, letterOk, ansK] | (intro i; unfold upd; split <;> grind [past])
    · split
      · rw [upd_self]; refine ⟨h, .refl I, ?_⟩; grind [letterOk, ansK, past]
      · rw [upd_self]; exact ⟨h, .refl I, by simp⟩
  split
  · rename_i k4
    split
    · rename_i hc
      have hah : x.To ≠ h := by
        intro e
        have h3 := o3 (by rw [← e]; exact hc.1)
        have h4 := x6 k4
        unfold past at h4
        rw [← e, hc.2.2] at h3
        omega
      have kk := kk_of (n := n) (last := last) (v := ⟨1, x.Epoch, 0, 0, []⟩) hah (show (g x.To).Epoch ≤ x.Epoch by omega) (fun E hE => by unfold past at hE ⊢; show E < x.Epoch ∨ (x.Epoch = E ∧ (0 : Int) ≠ 4); omega)
      refine ⟨h, ⟨⟨hr, ?_, ?_, ?_, ?_, ?_, ?_, ?_, ?_, ?_⟩, kk⟩, by simp⟩
      clear kk
      all_goals first | grind [upd, past, letterOk, ansK] | (intro i; unfold upd; split <;> grind [past])
    · rw [upd_self]; exact ⟨h, .refl I, by simp⟩
  · rw [upd_self]; exact ⟨h, .refl I, by simp⟩
end
end Go.Proofs.Ytipepglcceogiaa
