/- the plain law -/
import Derived.Test.YtipepglcceogiaaP4
namespace Go.Proofs.Ytipepglcceogiaa
open Go.Sk
open Go
set_option linter.unusedSimpArgs false
set_option linter.unusedVariables false
/-! ## the lists of the computers -/
def one (l : List Holding) : Prop := validB 0 l = true ∧ ∀ h ∈ l, h.Body = 1
theorem one_cases {l : List Holding} (h : one l) : l = [] ∨ ∃ a, l = [a] ∧ rightB a = true ∧ a.Body = 1 := by
  match l, h with
  | [], _ => exact .inl rfl
  | [a], h => exact .inr ⟨a, rfl, (valid_mem h.1 a (by simp)).1, h.2 a (by simp)⟩
  | a :: b :: l, h =>
    have h1 := h.2 a (by simp)
    have h2 := h.2 b (by simp)
    have h3 := h.1
    simp only [validB, Bool.and_eq_true, decide_eq_true_eq] at h3
    omega
theorem one_len {l : List Holding} (h : one l) : l.length ≤ 1 := by
  rcases one_cases h with e | ⟨a, e, _⟩ <;> subst e <;> simp
theorem one_phase {l : List Holding} (h : one l) : (getB 1 l).Phase = 0 ∨ rightB (getB 1 l) = true := by
  by_cases e : (getB 1 l).Phase = 0
  · exact .inl e
  · exact .inr (getB_phase h.1 e)
theorem one_letters {l : List Holding} (h : one l) (f : Int) : l.flatMap (letterOf f) = letterOf f (getB 1 l) := by
  rcases one_cases h with e | ⟨a, e, _, hb⟩
  · subst e; rfl
  · subst e; simp [getB, hb]
theorem one_put {l : List Holding} (h : one l) {v : Holding} (hv : rightB v = true) (hb : v.Body = 1) : one (putB v l) ∧ getB 1 (putB v l) = v := by
  have e := getB_put l 0 v h.1
  rw [hb] at e
  refine ⟨⟨putB_valid h.1 hv (by omega), ?_⟩, e⟩
  rcases one_cases h with e | ⟨a, e, _, hb'⟩
  · subst e; simp [putB, hb]
  · subst e; simp [putB, hb, hb']
theorem recv_step {l : List Holding} (h : one l) {x : Parcel} (hb : x.Body = 1) (a : Int) : one (recvK l a x).L ∧ getB 1 (recvK l a x).L = (step a (getB 1 l) x).1 ∧ (recvK l a x).Sent = (step a (getB 1 l) x).2 := by
  obtain ⟨fr, to, ki, bo, ep, da⟩ := x
  have hb : bo = 1 := hb
  subst hb
  have hv := recv_valid h.1 a ⟨fr, to, ki, 1, ep, da⟩
  unfold recvK at hv ⊢
  unfold step
  have P : ∀ {b e p q : Int} {d : Str}, b = 1 → validB 0 (putB ⟨b, e, p, q, d⟩ l) = true → one (putB ⟨b, e, p, q, d⟩ l) ∧ getB 1 (putB ⟨b, e, p, q, d⟩ l) = ⟨b, e, p, q, d⟩ := by
    intro b e p q d hb hv
    subst hb
    refine ⟨⟨hv, ?_⟩, getB_put' h.1⟩
    rcases one_cases h with e | ⟨a, e, _, hb'⟩
    · subst e; simp [putB]
    · subst e; simp [putB, hb']
  dsimp only at hv ⊢
  by_cases hbad : badP a ⟨fr, to, ki, 1, ep, da⟩
  · rw [if_pos hbad, if_pos hbad]; exact ⟨h, rfl, rfl⟩
  rw [if_neg hbad] at hv ⊢; rw [if_neg hbad]
  have M : ∀ p : Int, ((getB 1 l).Phase = p ∧ matK l ⟨fr, to, ki, 1, ep, da⟩) = ((getB 1 l).Phase = p ∧ (getB 1 l).Epoch = ep ∧ (getB 1 l).Peer = fr) := fun _ => rfl
  by_cases k1 : ki = 1
  · rw [if_pos k1] at hv ⊢; rw [if_pos k1]
    by_cases c : (getB 1 l).Epoch < ep ∧ ((getB 1 l).Phase = 0 ∨ (getB 1 l).Phase = 4 ∨ (getB 1 l).Phase = 3)
    · rw [if_pos c] at hv ⊢; rw [if_pos c]
      exact ⟨(P rfl hv).1, (P rfl hv).2, rfl⟩
    · rw [if_neg c] at hv ⊢; rw [if_neg c]
      by_cases c : (getB 1 l).Phase = 4 ∧ (getB 1 l).Epoch = ep ∧ (getB 1 l).Peer = fr
      · rw [if_pos c, if_pos ((M 4).mpr c)]; exact ⟨h, rfl, rfl⟩
      · rw [if_neg c, if_neg (fun e => c ((M 4).mp e))]; exact ⟨h, rfl, rfl⟩
  rw [if_neg k1] at hv ⊢; rw [if_neg k1]
  by_cases k2 : ki = 2
  · rw [if_pos k2] at hv ⊢; rw [if_pos k2]
    by_cases c : (getB 1 l).Phase = 2 ∧ (getB 1 l).Epoch = ep ∧ (getB 1 l).Peer = fr
    · rw [if_pos ((M 2).mpr c)] at hv ⊢; rw [if_pos c]
      exact ⟨(P rfl hv).1, (P rfl hv).2, rfl⟩
    · rw [if_neg c, if_neg (fun e => c ((M 2).mp e))]; exact ⟨h, rfl, rfl⟩
  rw [if_neg k2] at hv ⊢; rw [if_neg k2]
  by_cases k3 : ki = 3
  · rw [if_pos k3] at hv ⊢; rw [if_pos k3]
    by_cases c : (getB 1 l).Phase = 4 ∧ (getB 1 l).Epoch = ep ∧ (getB 1 l).Peer = fr
    · rw [if_pos ((M 4).mpr c)] at hv ⊢; rw [if_pos c]
      exact ⟨(P rfl hv).1, (P rfl hv).2, rfl⟩
    · rw [if_neg c, if_neg (fun e => c ((M 4).mp e))]
      by_cases c : ep < (getB 1 l).Epoch ∨ ((getB 1 l).Epoch = ep ∧ (getB 1 l).Phase ≠ 4)
      · rw [if_pos c, if_pos c]; exact ⟨h, rfl, rfl⟩
      · rw [if_neg c, if_neg c]; exact ⟨h, rfl, rfl⟩
  rw [if_neg k3] at hv ⊢; rw [if_neg k3]
  by_cases k4 : ki = 4
  · rw [if_pos k4] at hv ⊢; rw [if_pos k4]
    by_cases c : (getB 1 l).Phase = 3 ∧ (getB 1 l).Epoch = ep ∧ (getB 1 l).Peer = fr
    · rw [if_pos ((M 3).mpr c)] at hv ⊢; rw [if_pos c]
      exact ⟨(P rfl hv).1, (P rfl hv).2, rfl⟩
    · rw [if_neg c, if_neg (fun e => c ((M 3).mp e))]; exact ⟨h, rfl, rfl⟩
  rw [if_neg k4, if_neg k4]; exact ⟨h, rfl, rfl⟩
structure Conn (n : Int) (all : List (List Holding)) : Prop where
  len : (all.length : Int) = n
  n4 : 2 ≤ n ∧ n ≤ 4
  ok : ∀ l ∈ all, one l
def G (all : List (List Holding)) (i : Int) : Holding := if 0 ≤ i ∧ i < all.length then getB 1 (idx all i) else ⟨1, 0, 0, 0, []⟩
theorem G_in {all : List (List Holding)} {i : Int} (h : 0 ≤ i ∧ i < all.length) : G all i = getB 1 (idx all i) := if_pos h
theorem G_body (all : List (List Holding)) (i : Int) : (G all i).Body = 1 := by
  unfold G
  split
  · exact getB_body 1 _
  · rfl
theorem idx_set {all : List (List Holding)} {a i : Int} {m : List Holding} (ha : 0 ≤ a ∧ a < all.length) (hi : 0 ≤ i ∧ i < all.length) : idx (all.set a.toNat m) i = if i = a then m else idx all i := by
  unfold idx
  simp only [List.getD_eq_getElem?_getD, List.getElem?_set]
  by_cases e : i = a
  · subst e
    rw [if_pos rfl, if_pos rfl, if_pos (by omega)]; rfl
  · rw [if_neg (by omega), if_neg e]
theorem G_set {all : List (List Holding)} {a : Int} {m : List Holding} (ha : 0 ≤ a ∧ a < all.length) : G (all.set a.toNat m) = upd (G all) a (getB 1 m) := by
  funext i
  unfold upd G
  rw [List.length_set]
  by_cases hi : 0 ≤ i ∧ i < (all.length : Int)
  · rw [if_pos hi, if_pos hi, idx_set ha hi]
    split <;> rfl
  · rw [if_neg hi, if_neg hi, if_neg (by omega)]
theorem Conn.set {n : Int} {all : List (List Holding)} (C : Conn n all) {m : List Holding} (hm : one m) (k : Nat) : Conn n (all.set k m) := by
  refine ⟨by rw [List.length_set]; exact C.len, C.n4, fun l hl => ?_⟩
  rcases List.mem_or_eq_of_mem_set hl with h | h
  · exact C.ok l h
  · subst h; exact hm
theorem Conn.at {n : Int} {all : List (List Holding)} (C : Conn n all) {a : Int} (ha : 0 ≤ a ∧ a < all.length) : one (idx all a) := C.ok _ (idx_mem ha.1 ha.2)
theorem G_right {n : Int} {all : List (List Holding)} (C : Conn n all) {i : Int} (h : (G all i).Phase ≠ 0) : rightB (G all i) = true ∧ 0 ≤ i ∧ i < n := by
  unfold G at h ⊢
  split at h
  · rename_i hi
    rw [if_pos hi]
    rw [← C.len]
    exact ⟨(one_phase (C.at hi)).resolve_left h, hi⟩
  · exact absurd rfl h
theorem G_phase {n : Int} {all : List (List Holding)} (C : Conn n all) (i : Int) : (G all i).Phase = 0 ∨ (G all i).Phase = 1 ∨ (G all i).Phase = 2 ∨ (G all i).Phase = 3 ∨ (G all i).Phase = 4 := by
  by_cases h : (G all i).Phase = 0
  · exact .inl h
  · have := rightB_iff.1 (G_right C h).1
    omega
/-- a letter arrives -/
def stepG (n : Int) (g : Int → Holding) (x : Parcel) : (Int → Holding) × List Parcel := if 0 ≤ x.To ∧ x.To < n then (upd g x.To (step x.To (g x.To) x).1, (step x.To (g x.To) x).2) else (g, [])
theorem step_len (a : Int) (v : Holding) (x : Parcel) : (step a v x).2.length ≤ 1 := by
  unfold step ansK
  repeat' split
  all_goals simp
theorem stepG_len (n : Int) (g : Int → Holding) (x : Parcel) : (stepG n g x).2.length ≤ 1 := by
  unfold stepG
  split
  · exact step_len _ _ _
  · simp
theorem arrive_val {n : Int} {all : List (List Holding)} (C : Conn n all) {x : Parcel} (hb : x.Body = 1) {sent : List Parcel} (hs : sent.length ≤ 1000000) {last : Str} {F : Nat} (hF : 10 ≤ F) :
    ∃ all', skewbacklaw41_yard_arrive_S F x last all sent = some (all', sent ++ (stepG n (G all) x).2) ∧ Conn n all' ∧ G all' = (stepG n (G all) x).1 := by
  unfold skewbacklaw41_yard_arrive_S stepG
  have hn := C.len
  by_cases h : 0 ≤ x.To ∧ x.To < n
  · have h' : 0 ≤ x.To ∧ x.To < (all.length : Int) := by omega
    rw [if_pos (by simp; omega), if_pos h]
    have ho := C.at h'
    have hl := one_len ho
    obtain ⟨r1, r2, r3⟩ := recv_step ho hb x.To
    have s1 := step_len x.To (getB 1 (idx all x.To)) x
    rw [← r3] at s1
    refine ⟨all.set x.To.toNat (recvK (idx all x.To) x.To x).L, ?_, C.set r1 _, ?_⟩
    · refine bs (idx?_eq h'.1 h'.2) (bs2 (region_Receive_val (by omega) (by omega) ho.1 (by omega)) (bs (app?_eq (by omega)) (bs (idx?_eq h'.1 h'.2) ?_)))
      rw [G_in h', r3]
    · rw [G_set h', r2, G_in h']
  · rw [if_neg (by simp; omega), if_neg h]
    exact ⟨all, by simp, C, rfl⟩
structure Yard (n : Int) (all : List (List Holding)) (last : Str) (sent : List Parcel) (h : Int) : Prop where
  C : Conn n all
  I : Inv n (G all) last h
  K : ∀ y ∈ sent, letterOk n (G all) last h y
theorem arrive_ok {n : Int} {all : List (List Holding)} {last : Str} {sent : List Parcel} {h : Int} (Y : Yard n all last sent h) {x : Parcel} (hx : x ∈ sent) (hs : sent.length ≤ 1000000) {F : Nat} (hF : 10 ≤ F) :
    ∃ all' h', skewbacklaw41_yard_arrive_S F x last all sent = some (all', sent ++ (stepG n (G all) x).2) ∧ Yard n all' last (sent ++ (stepG n (G all) x).2) h' ∧ G all' = (stepG n (G all) x).1 := by
  obtain ⟨all', e, C', g⟩ := arrive_val Y.C (Y.K x hx).2.1 hs hF (last := last)
  unfold stepG at g ⊢ e
  by_cases ht : 0 ≤ x.To ∧ x.To < n
  · rw [if_pos ht] at g e ⊢
    dsimp only at g e ⊢
    obtain ⟨h', k1, k2⟩ := inv_step Y.I (Y.K x hx) ht
    rw [← g] at k1 k2
    refine ⟨all', h', e, ⟨C', k1.inv, fun y hy => ?_⟩, g⟩
    rcases List.mem_append.1 hy with hy | hy
    · exact k1.let_ y (Y.K y hy)
    · exact k2 y hy
  · rw [if_neg ht] at g e ⊢
    rw [List.append_nil]
    have g : G all' = G all := g
    rw [List.append_nil] at e
    exact ⟨all', h, e, ⟨C', by rw [g]; exact Y.I, by rw [g]; exact Y.K⟩, g⟩
end Go.Proofs.Ytipepglcceogiaa
