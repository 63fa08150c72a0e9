/- the plain law -/
import Derived.Test.YtipepglcceogiaaP8
namespace Go.Proofs.Ytipepglcceogiaa
open Go.Sk
open Go
set_option linter.unusedSimpArgs false
set_option linter.unusedVariables false
theorem mem_letter {f : Int} {v : Holding} {y : Parcel} (h : y ∈ letterOf f v) : y.Kind = 1 ∨ y.Kind = 3 := by
  unfold letterOf at h
  split at h
  · simp only [List.mem_singleton] at h; subst h; exact .inl rfl
  · split at h
    · simp only [List.mem_singleton] at h; subst h; exact .inr rfl
    · simp at h
theorem wts_letter (f : Int) (v : Holding) : wts (letterOf f v) ≤ 4 := by
  unfold letterOf
  split
  · simp [wts, wt]
  · split <;> simp [wts, wt]
/-- all send their letters -/
theorem letters_loop {n : Int} {all : List (List Holding)} {last : Str} {sent : List Parcel} {h : Int} (Y : Yard n all last sent h) (hs : sent.length ≤ 1000) {F : Nat} (hF : 1000 ≤ F) :
    ∃ new, iter F (un2 fun sent_32 x_33 => if (decide (x_33 < (all.length : Int))) = true then (Option.bind (idx? all x_33) (fun x_35 => Option.bind (region_Letters_S F x_35 x_33) (fun x_36 => Option.bind (app? sent_32 x_36) (fun x_37 => some (.inl (x_37, IntKind.i64.wrap (x_33 + 1))))))) else (some (.inr sent_32))) (sent, 0) = some (sent ++ new) ∧ Yard n all last (sent ++ new) h ∧ wts new ≤ 16 ∧ Ob (G all) new := by
  have hn := Y.C.len
  have n4 := Y.C.n4
  obtain ⟨t, e, new, ht, hY, hw, hOb⟩ := iter_spec (body := un2 fun sent_32 x_33 => if (decide (x_33 < (all.length : Int))) = true then (Option.bind (idx? all x_33) (fun x_35 => Option.bind (region_Letters_S F x_35 x_33) (fun x_36 => Option.bind (app? sent_32 x_36) (fun x_37 => some (.inl (x_37, IntKind.i64.wrap (x_33 + 1))))))) else (some (.inr sent_32)))
    (fun s => 0 ≤ s.2 ∧ s.2 ≤ n ∧ ∃ new, s.1 = sent ++ new ∧ (∀ y ∈ new, letterOk n (G all) last h y) ∧ (wts new : Int) ≤ 4 * s.2 ∧ ∀ i, 0 ≤ i → i < s.2 → ∀ y ∈ letterOf i (G all i), y ∈ new) (fun s => (n - s.2).toNat)
    (fun t => ∃ new, t = sent ++ new ∧ (∀ y ∈ new, letterOk n (G all) last h y) ∧ wts new ≤ 16 ∧ ∀ i, 0 ≤ i → i < n → ∀ y ∈ letterOf i (G all i), y ∈ new) (by
    rintro ⟨s, k⟩ ⟨k0, k1, new, hs', hok, hw, hin⟩
    dsimp only [un2] at k0 k1 hs' hw hin ⊢
    subst hs'
    by_cases hk : k < n
    · have ho := Y.C.at ⟨k0, (by omega : k < all.length)⟩
      have hl := one_len ho
      have e1 : (idx all k).flatMap (letterOf k) = letterOf k (G all k) := by rw [one_letters ho, G_in ⟨k0, by omega⟩]
      have l1 := letterOf_len k (G all k)
      have l2 := wts_len new
      have l3 := wts_letter k (G all k)
      refine ⟨.inl (sent ++ (new ++ letterOf k (G all k)), k + 1), ?_, fun s' es => ?_, fun t et => by simp at et⟩
      · rw [if_pos (by simp; omega)]
        refine bs (idx?_eq k0 (by omega)) (bs (region_Letters_val (by omega) (by omega)) (bs (app?_eq (by rw [e1]; simp only [List.length_append]; omega)) ?_))
        rw [e1, wrap64 (by omega) (by omega), List.append_assoc]
      · simp only [Sum.inl.injEq] at es
        subst es
        dsimp only
        refine ⟨⟨by omega, by omega, new ++ letterOf k (G all k), rfl, fun y hy => ?_, by rw [wts_app]; omega, fun i i0 i1 y hy => ?_⟩, by omega⟩
        · rcases List.mem_append.1 hy with hy | hy
          · exact hok y hy
          · exact inv_letter Y.I (G_body all k) hy
        · by_cases hik : i = k
          · subst hik; exact List.mem_append.2 (.inr hy)
          · exact List.mem_append.2 (.inl (hin i i0 (by omega) y hy))
    · refine ⟨.inr (sent ++ new), by rw [if_neg (by simp; omega)], fun s' es => by simp at es, fun t et => ?_⟩
      simp only [Sum.inr.injEq] at et
      exact ⟨new, et.symm, hok, by omega, fun i i0 i1 => hin i i0 (by omega)⟩) F (sent, 0) ⟨by simp, by simp; omega, [], by simp, by simp, by simp [wts], fun i i0 i1 => absurd i1 (by simp only; omega)⟩ (by simp only; omega)
  subst ht
  refine ⟨new, e, ⟨Y.C, Y.I, fun y hy => ?_⟩, hw, fun a => ⟨fun ha => ?_, fun ha => ?_⟩⟩
  · rcases List.mem_append.1 hy with hy | hy
    · exact Y.K y hy
    · exact hY y hy
  · have o := Y.I.out a (by omega)
    left
    exact ⟨⟨a, (G all a).Peer, 1, (G all a).Body, (G all a).Epoch, (G all a).Data⟩, hOb a o.1 o.2 _ (by unfold letterOf; rw [if_pos ha]; simp), rfl, rfl, rfl, rfl⟩
  · have o := Y.I.out a (by omega)
    left
    exact ⟨⟨a, (G all a).Peer, 3, (G all a).Body, (G all a).Epoch, []⟩, hOb a o.1 o.2 _ (by unfold letterOf; rw [if_neg (by omega), if_pos ha]; simp), rfl, rfl, rfl, rfl⟩
theorem drop_at {α : Type} [Inhabited α] (l : List α) {i : Int} (h0 : 0 ≤ i) (h1 : i < l.length) : l.drop i.toNat = idx l i :: l.drop (i + 1).toNat := by
  have e : (i + 1).toNat = i.toNat + 1 := by omega
  rw [e, List.drop_eq_getElem_cons (by omega), ← idx_nat l i.toNat (by omega)]
  have : ((i.toNat : Nat) : Int) = i := by omega
  rw [this]
/-- the letters of a round arrive, and those that answer them -/
theorem queue_loop {n : Int} {all : List (List Holding)} {last : Str} {sent new : List Parcel} {h : Int} (Y : Yard n all last (sent ++ new) h) (hs : sent.length ≤ 1000) (hw : wts new ≤ 16) (hO : Ob (G all) new) {F : Nat} (hF : 1000 ≤ F) :
    ∃ all' sent' h', iter F (un3 fun all_38 sent_39 i_40 => letN ((decide (i_40 < (sent_39.length : Int))) && (decide (i_40 < 10000))) fun x_43 => if x_43 = true then (Option.bind (idx? sent_39 i_40) (fun x_44 => Option.bind (skewbacklaw41_yard_arrive_S F x_44 last all_38 sent_39) (un2 fun x_45 x_46 => some (.inl (x_45, x_46, IntKind.i64.wrap (i_40 + 1)))))) else (some (.inr (all_38, sent_39)))) (all, sent ++ new, (sent.length : Int)) = some (all', sent') ∧ Yard n all' last sent' h' ∧ sent'.length ≤ sent.length + 16 ∧ ∀ i, (G all' i).Phase ≠ 2 ∧ (G all' i).Phase ≠ 3 := by
  have n4 := Y.C.n4
  obtain ⟨⟨all', sent'⟩, e, h', hY, hl, hq⟩ := iter_spec (body := un3 fun all_38 sent_39 i_40 => letN ((decide (i_40 < (sent_39.length : Int))) && (decide (i_40 < 10000))) fun x_43 => if x_43 = true then (Option.bind (idx? sent_39 i_40) (fun x_44 => Option.bind (skewbacklaw41_yard_arrive_S F x_44 last all_38 sent_39) (un2 fun x_45 x_46 => some (.inl (x_45, x_46, IntKind.i64.wrap (i_40 + 1)))))) else (some (.inr (all_38, sent_39))))
    (fun s => (sent.length : Int) ≤ s.2.2 ∧ s.2.2 ≤ s.2.1.length ∧ s.2.2 + (wts (s.2.1.drop s.2.2.toNat) : Int) ≤ sent.length + 16 ∧ Ob (G s.1) (s.2.1.drop s.2.2.toNat) ∧ ∃ h, Yard n s.1 last s.2.1 h) (fun s => (sent.length + 16 - s.2.2).toNat)
    (fun t => ∃ h', Yard n t.1 last t.2 h' ∧ t.2.length ≤ sent.length + 16 ∧ ∀ i, (G t.1 i).Phase ≠ 2 ∧ (G t.1 i).Phase ≠ 3) (by
    rintro ⟨a, s, k⟩ ⟨k0, k1, k2, k3, h, Y⟩
    dsimp only [un3, un2, letN] at k0 k1 k2 k3 Y ⊢
    have hd := wts_len (s.drop k.toNat)
    rw [List.length_drop] at hd
    by_cases hk : k < s.length
    · obtain ⟨a', h', q1, q2, q3⟩ := arrive_ok Y (idx_mem (show 0 ≤ k by omega) hk) (by omega) (show 10 ≤ F by omega)
      have hsl := stepG_len n (G a) (idx s k)
      have hdr := drop_at s (show 0 ≤ k by omega) hk
      have hwt := stepG_wt n (G a) (idx s k)
      have hdr2 : (s ++ (stepG n (G a) (idx s k)).2).drop (k + 1).toNat = s.drop (k + 1).toNat ++ (stepG n (G a) (idx s k)).2 := List.drop_append_of_le_length (by omega)
      refine ⟨.inl (a', s ++ (stepG n (G a) (idx s k)).2, k + 1), ?_, fun s' es => ?_, fun t et => by simp at et⟩
      · rw [if_pos (by simp; omega)]
        refine bs (idx?_eq (by omega) hk) (bs2 q1 ?_)
        rw [wrap64 (by omega) (by omega)]
      · simp only [Sum.inl.injEq] at es
        subst es
        dsimp only
        rw [hdr2, wts_app, q3]
        rw [hdr] at k2 k3
        rw [wts] at k2
        refine ⟨⟨by omega, by simp only [List.length_append]; omega, by omega, ob_step Y.I (by omega) (G_phase Y.C) (Y.K _ (idx_mem (by omega) hk)).2.1 k3, h', q2⟩, by omega⟩
    · have hke : s.drop k.toNat = [] := List.drop_eq_nil_of_le (by omega)
      refine ⟨.inr (a, s), by rw [if_neg (by simp; omega)], fun s' es => by simp at es, fun t et => ?_⟩
      simp only [Sum.inr.injEq] at et
      subst et
      rw [hke] at k3
      exact ⟨h, Y, by simp only; omega, ob_nil k3⟩) F (all, sent ++ new, (sent.length : Int)) ⟨by simp, by simp only [List.length_append]; omega, by
        have : ((sent ++ new).drop (sent.length : Int).toNat) = new := by simp
        simp only [this]; omega, by
        have : ((sent ++ new).drop (sent.length : Int).toNat) = new := by simp
        simp only [this]; exact hO, h, Y⟩ (by simp only; omega)
  exact ⟨all', sent', h', e, hY, hl, hq⟩
end Go.Proofs.Ytipepglcceogiaa
