/- the plain law -/
import Derived.Test.YtipepglcceogiaaP2
namespace Go.Proofs.Ytipepglcceogiaa
open Go.Sk
open Go
set_option linter.unusedSimpArgs false
set_option linter.unusedVariables false
/-! ## the steps keep the list right -/
theorem begin_valid {l : List Holding} (hv : validB 0 l = true) (c : Int) (d : Str) : validB 0 (beginK l c d).L = true := by
  unfold beginK
  split
  · split
    · rfl
    · rename_i h1 h2
      exact putB_valid hv (rightB_mk h1 (by omega) (.inr (.inl ⟨rfl, rfl⟩))) (show (0 : Int) < c by omega)
  · rfl
theorem put_valid {l : List Holding} (hv : validB 0 l = true) (c : Int) (d : Str) : validB 0 (putK l c d).L = true := by
  unfold putK
  split
  · rename_i hp
    have hr := rightB_iff.1 (getB_phase hv (t := c) (by omega))
    refine putB_valid hv (rightB_mk hr.1 hr.2.1 (.inr (.inl ⟨hp, ?_⟩))) (show (0 : Int) < (getB c l).Body by omega)
    rcases hr.2.2 with h | h | h
    · omega
    · exact h.2
    · omega
  · rfl
theorem offer_valid {l : List Holding} (hv : validB 0 l = true) (f c t : Int) : validB 0 (offerK l f c t).L = true := by
  unfold offerK
  split
  · rename_i h0
    split
    · rename_i hp
      split
      · rfl
      · rename_i he
        have hr := rightB_iff.1 (getB_phase hv (t := c) (by omega))
        rw [getB_body] at hr
        exact putB_valid hv (rightB_mk hr.1 (by omega) (.inr (.inr ⟨.inl rfl, h0.2.1.1, h0.2.1.2, by omega⟩))) (show (0 : Int) < c by omega)
    · rfl
  · rfl
theorem cancel_valid {l : List Holding} (hv : validB 0 l = true) (c : Int) : validB 0 (cancelK l c).L = true := by
  unfold cancelK
  split
  · rename_i hp
    have hr := rightB_iff.1 (getB_phase hv (t := c) (by omega))
    rw [getB_body] at hr
    exact putB_valid hv (rightB_mk hr.1 hr.2.1 (.inr (.inl ⟨rfl, rfl⟩))) (show (0 : Int) < c by omega)
  · rfl
theorem good_of {a : Int} {x : Parcel} (h : ¬ badP a x) : x.To = a ∧ (0 ≤ x.From ∧ x.From < 16) ∧ x.From ≠ a ∧ (1 ≤ x.Body ∧ x.Body ≤ 400) ∧ 1 ≤ x.Epoch ∧ x.Epoch ≤ 1099511627776 := by
  unfold badP at h
  omega
theorem recv_valid {l : List Holding} (hv : validB 0 l = true) (a : Int) (x : Parcel) : validB 0 (recvK l a x).L = true := by
  unfold recvK
  split
  · exact hv
  · rename_i hb
    obtain ⟨h1, h2, h3, h4, h5, h6⟩ := good_of hb
    split
    · split
      · exact putB_valid hv (rightB_mk h4 (by omega) (.inr (.inr ⟨.inr (.inr rfl), h2.1, h2.2, h5⟩))) (show (0 : Int) < x.Body by omega)
      · split <;> exact hv
    · split
      · split
        · exact putB_valid hv (rightB_mk h4 (by omega) (.inr (.inr ⟨.inr (.inl rfl), h2.1, h2.2, h5⟩))) (show (0 : Int) < x.Body by omega)
        · exact hv
      · split
        · split
          · exact putB_valid hv (rightB_mk h4 (by omega) (.inr (.inl ⟨rfl, rfl⟩))) (show (0 : Int) < x.Body by omega)
          · split <;> exact hv
        · split
          · split
            · exact putB_valid hv (rightB_mk h4 (by omega) (.inl ⟨rfl, rfl, rfl⟩)) (show (0 : Int) < x.Body by omega)
            · exact hv
          · exact hv
theorem recv_len (l : List Holding) (a : Int) (x : Parcel) : (recvK l a x).L.length ≤ l.length + 1 := by
  unfold recvK
  repeat' split
  all_goals first | exact putB_len _ l | exact Nat.le_succ _
theorem getB_put' {l : List Holding} (hv : validB 0 l = true) {b e p q : Int} {d : Str} : getB b (putB ⟨b, e, p, q, d⟩ l) = ⟨b, e, p, q, d⟩ := getB_put l 0 ⟨b, e, p, q, d⟩ hv
theorem recv_again {l : List Holding} (hv : validB 0 l = true) (a : Int) (x : Parcel) : (recvK (recvK l a x).L a x).L = (recvK l a x).L ∧ (x.Kind = 3 → (recvK (recvK l a x).L a x).Sent = (recvK l a x).Sent) := by
  by_cases hL : (recvK l a x).L = l
  · rw [hL]; exact ⟨hL, fun _ => rfl⟩
  by_cases hb : badP a x
  · exact absurd (by unfold recvK; rw [if_pos hb]) hL
  have unf : ∀ l, recvK l a x = if x.Kind = 1 then
    (if (getB x.Body l).Epoch < x.Epoch ∧ ((getB x.Body l).Phase = 0 ∨ (getB x.Body l).Phase = 4 ∨ (getB x.Body l).Phase = 3) then ⟨putB ⟨x.Body, x.Epoch, 4, x.From, x.Data⟩ l, ansK a x 2, 0⟩
     else if (getB x.Body l).Phase = 4 ∧ matK l x then ⟨l, ansK a x 2, 0⟩ else ⟨l, [], 0⟩)
  else if x.Kind = 2 then
    (if (getB x.Body l).Phase = 2 ∧ matK l x then ⟨putB ⟨x.Body, x.Epoch, 3, x.From, (getB x.Body l).Data⟩ l, ansK a x 3, 0⟩ else ⟨l, [], 0⟩)
  else if x.Kind = 3 then
    (if (getB x.Body l).Phase = 4 ∧ matK l x then ⟨putB ⟨x.Body, x.Epoch, 1, 0, (getB x.Body l).Data⟩ l, ansK a x 4, 0⟩
     else if x.Epoch < (getB x.Body l).Epoch ∨ ((getB x.Body l).Epoch = x.Epoch ∧ (getB x.Body l).Phase ≠ 4) then ⟨l, ansK a x 4, 0⟩ else ⟨l, [], 0⟩)
  else if x.Kind = 4 then
    (if (getB x.Body l).Phase = 3 ∧ matK l x then ⟨putB ⟨x.Body, x.Epoch, 0, 0, []⟩ l, [], 0⟩ else ⟨l, [], 0⟩)
  else ⟨l, [], 0⟩ := fun l => by
    show (if badP a x then _ else _) = _
    rw [if_neg hb]
  by_cases k1 : x.Kind = 1
  · have u : ∀ l, recvK l a x = _ := fun l => (unf l).trans (if_pos k1)
    by_cases c : (getB x.Body l).Epoch < x.Epoch ∧ ((getB x.Body l).Phase = 0 ∨ (getB x.Body l).Phase = 4 ∨ (getB x.Body l).Phase = 3)
    · rw [u l, if_pos c, u]
      simp [getB_put' hv, matK, k1]
    · rw [u l, if_neg c] at hL
      exact absurd (by split <;> rfl) hL
  by_cases k2 : x.Kind = 2
  · have u : ∀ l, recvK l a x = _ := fun l => ((unf l).trans (if_neg k1)).trans (if_pos k2)
    by_cases c : (getB x.Body l).Phase = 2 ∧ matK l x
    · rw [u l, if_pos c, u]
      simp [getB_put' hv, matK, k2]
    · rw [u l, if_neg c] at hL
      exact absurd rfl hL
  by_cases k3 : x.Kind = 3
  · have u : ∀ l, recvK l a x = _ := fun l => (((unf l).trans (if_neg k1)).trans (if_neg k2)).trans (if_pos k3)
    by_cases c : (getB x.Body l).Phase = 4 ∧ matK l x
    · rw [u l, if_pos c, u]
      simp [getB_put' hv, matK, k3]
    · rw [u l, if_neg c] at hL
      exact absurd (by split <;> rfl) hL
  by_cases k4 : x.Kind = 4
  · have u : ∀ l, recvK l a x = _ := fun l => ((((unf l).trans (if_neg k1)).trans (if_neg k2)).trans (if_neg k3)).trans (if_pos k4)
    by_cases c : (getB x.Body l).Phase = 3 ∧ matK l x
    · rw [u l, if_pos c, u]
      simp [getB_put' hv, matK, k4]
    · rw [u l, if_neg c] at hL
      exact absurd rfl hL
  · rw [unf, if_neg k1, if_neg k2, if_neg k3, if_neg k4] at hL
    exact absurd rfl hL
theorem begin_len (l : List Holding) (c : Int) (d : Str) : (beginK l c d).L.length ≤ l.length + 1 := by
  unfold beginK
  repeat' split
  all_goals first | exact putB_len _ l | simp
theorem put_len (l : List Holding) (c : Int) (d : Str) : (putK l c d).L.length ≤ l.length + 1 := by
  unfold putK
  repeat' split
  all_goals first | exact putB_len _ l | simp
theorem offer_len (l : List Holding) (f c t : Int) : (offerK l f c t).L.length ≤ l.length + 1 := by
  unfold offerK
  repeat' split
  all_goals first | exact putB_len _ l | simp
theorem cancel_len (l : List Holding) (c : Int) : (cancelK l c).L.length ≤ l.length + 1 := by
  unfold cancelK
  repeat' split
  all_goals first | exact putB_len _ l | simp
theorem sane_val (n : Nat) : skewbacklaw41_sanity_S (n + 1000000) = some true := by kernel_rfl
theorem same_val {F : Nat} {k : Known} (hF : k.L.length < F) (hl : k.L.length ≤ 1000000) : skewbacklaw41_same_S F k.L k.E k = some true := by
  unfold skewbacklaw41_same_S
  rw [Same_val hF hl, gcall_some]
  simp
theorem all_loop {α : Type} [Inhabited α] (P : α → Prop) (ls : List α) (hP : ∀ a ∈ ls, P a) {body : Int → Option (Int ⊕ (Unit ⊕ Bool))}
    (hb : ∀ i : Int, 0 ≤ i → i < ls.length → P (idx ls i) → body i = some (.inl (i + 1))) (he : body ls.length = some (.inr (.inl ()))) :
    ∀ (F : Nat) (k : Int), 0 ≤ k → k ≤ ls.length → (ls.length : Int) - k < F → iter F body k = some (.inl ()) := by
  intro F
  induction F with
  | zero => intro k h0 h1 h; omega
  | succ F ih =>
    intro k h0 h1 hF
    rw [iter_succ]
    by_cases hk : k < ls.length
    · rw [hb k h0 hk (hP _ (idx_mem h0 hk))]
      simp only [Option.bind_some, alt2]
      exact ih (k + 1) (by omega) (by omega) (by omega)
    · have : k = ls.length := by omega
      subst this
      rw [he]; rfl
theorem bs {α β : Type} {x : Option α} {a : α} {f : α → Option β} {r : Option β} (h : x = some a) (k : f a = r) : Option.bind x f = r := by subst h; exact k
theorem bs2 {α α' β : Type} {x : Option (α × α')} {a : α} {b : α'} {f : α → α' → Option β} {r : Option β} (h : x = some (a, b)) (k : f a b = r) : Option.bind x (un2 f) = r := by subst h; exact k
theorem bg {α β : Type} [Inhabited α] {g : Bool} {x : Option α} {a : α} {f : α → Option β} {r : Option β} (hg : g = true) (h : x = some a) (k : f a = r) : Option.bind (gcall g x) f = r := by subst hg h; exact k
theorem ln {α β : Type} {v : α} {f : α → Option β} {r : Option β} (k : f v = r) : letN v f = r := k
theorem ifn {β : Type} {c : Bool} {A B r : Option β} (hc : c = false) (k : B = r) : (if c = true then A else B) = r := by subst hc; exact k
theorem steps_in {F : Nat} {l : List Holding} {node body to : Int} {data : Str} {x : Parcel} (hbody : inR .i64 body) (hl : l.length ≤ 20) (hF : 1000000 ≤ F) (hs : skewbacklaw41_sanity_S F = some true) (hlong : (decide (100 < (data.length : Int))) = false) (hlong2 : (decide (100 < (x.Data.length : Int))) = false) (hsh : skewbacklaw41_short_S F l = some true) :
    skewbacklaw41_RegionStepsAsSpecified_S F l node body to data x = some true := by
  unfold skewbacklaw41_RegionStepsAsSpecified_S
  refine bs hsh (ln ?_)
  refine ifn (by rw [hlong, hlong2]; rfl) ?_
  have hF0 : l.length < F := by omega
  have hl' : l.length ≤ 1000000 := by omega
  refine bs (region_Valid_val hF0 hl') (bs (ref_Valid_val hF0 hl') (ifn (by simp) (bs (ref_Valid_val hF0 hl') ?_)))
  by_cases hv : ¬ validB 0 l = true
  · rw [if_pos (by simpa using hv), hs]; rfl
  have hv := Classical.not_not.1 hv
  refine ifn (by rw [hv]; rfl) ?_
  have s1 := same_val (F := F) (k := beginK l body data) (by have := begin_len l body data; omega) (by have := begin_len l body data; omega)
  have s2 := same_val (F := F) (k := putK l body data) (by have := put_len l body data; omega) (by have := put_len l body data; omega)
  have s3 := same_val (F := F) (k := offerK l node body to) (by have := offer_len l node body to; omega) (by have := offer_len l node body to; omega)
  have s4 := same_val (F := F) (k := cancelK l body) (by have := cancel_len l body; omega) (by have := cancel_len l body; omega)
  have rl := recv_len l node x
  have rs : (recvK l node x).Sent.length ≤ 1 := by
    unfold recvK ansK
    repeat' split
    all_goals simp
  have fl := flatMap_len (letterOf node) (letterOf_len node) l
  have al := flatMap_len activeOf activeOf_len l
  have hv' := recv_valid hv node x
  refine bs2 (region_Begin_val hF0 hl' hv hbody) (bs2 (region_Put_val hF0 hl' hv hbody) (bs2 (region_Offer_val hF0 hl' hv hbody) (bs2 (region_Cancel_val hF0 hl' hv hbody) ?_)))
  refine bs (ref_Begin_val hF0 hl' hv) (bs s1 (bg rfl (ref_Put_val hF0 hl' hv) (bg rfl s2 (bg rfl (ref_Offer_val hF0 hl' hv) (bg rfl s3 (bg rfl (ref_Cancel_val hF0 hl' hv) (bg rfl s4 ?_)))))))
  refine bg rfl (region_Get_val hF0 hl' hv hbody) (bg rfl (ref_Get_val hF0 hl') (ln (ifn (by simp) ?_)))
  refine bs2 (region_Receive_val hF0 hl' hv (by omega)) (bs (ref_Receive_val hF0 hl' hv) ?_)
  refine bs (Same_val (by omega) (by omega)) (bg (by simp) (SameLetters_val (by omega) (by omega)) ?_)
  refine bg (by simp) (region_Letters_val hF0 hl') (bg (by simp) (ref_Letters_val hF0 hl') (bg (by simp) (SameLetters_val (by omega) (by omega)) (ifn (by simp) ?_)))
  refine bs (a := .inl ()) (ln ?_) ?_
  · refine all_loop (fun m => validB 0 m = true ∧ m.length ≤ 21) [(beginK l body data).L, (putK l body data).L, (offerK l node body to).L, (cancelK l body).L, (recvK l node x).L] ?_ ?_ ?_ F 0 (by omega) (by simp) (by simp; omega)
    · intro m hm
      simp only [List.mem_cons, List.not_mem_nil, or_false] at hm
      rcases hm with h | h | h | h | h <;> subst h
      · exact ⟨begin_valid hv _ _, by have := begin_len l body data; omega⟩
      · exact ⟨put_valid hv _ _, by have := put_len l body data; omega⟩
      · exact ⟨offer_valid hv _ _ _, by have := offer_len l node body to; omega⟩
      · exact ⟨cancel_valid hv _, by have := cancel_len l body; omega⟩
      · exact ⟨hv', by omega⟩
    · intro i h0 h1 hP
      have h5 : i < 5 := h1
      rw [if_pos (by simpa using h1)]
      refine bs (idx?_eq h0 h1) (bs (region_Valid_val (by omega) (by omega)) (ifn (by rw [hP.1]; rfl) ?_))
      rw [wrap64 (by omega) (by omega)]
    · rfl
  refine bs (region_Active_val hF0 hl') (bs (ref_Active_val hF0 hl') (ifn (by simp) ?_))
  refine bs (a := .inl ()) ?_ ?_
  · rw [eq_loop (a := l.flatMap activeOf) (b := l.flatMap activeOf) rfl (fun i h0 h1 => by
      rw [if_pos (by simpa using h1)]
      refine bs (idx?_eq h0 h1) (bs (idx?_eq h0 h1) ?_)
      rw [wrap64 (by omega) (by omega)]
      simp) (by simp) F 0 (by omega) (by omega) (fun j hj hj' => by omega) (by omega), if_pos rfl]
  refine bs2 (region_Receive_val (by omega) (by omega) hv' (by omega)) (bs hs ?_)
  obtain ⟨a1, a2⟩ := recv_again hv node x
  refine bg rfl (Same_val (by rw [a1]; omega) (by rw [a1]; omega)) ?_
  rw [a1]
  have hd : decide ((recvK l node x).L = (recvK l node x).L) = true := by simp
  rw [hd, SameLetters_val (by omega) (by omega), gcall_some]
  by_cases k3 : x.Kind = 3
  · rw [a2 k3]
    simp [k3]
  · simp [k3]
theorem steps_val {l : List Holding} {node body to : Int} {data : Str} {x : Parcel} (hbig : l.length ≤ 9223372036854775807) (hbody : inR .i64 body) :
    skewbacklaw41_RegionStepsAsSpecified_S (l.length + 1000000) l node body to data x = some true := by
  obtain ⟨b, hb, hlen⟩ := short_val (F := l.length + 1000000) (l := l) (by omega) hbig
  by_cases hc : ((!b || decide (100 < (data.length : Int))) || decide (100 < (x.Data.length : Int))) = true
  · unfold skewbacklaw41_RegionStepsAsSpecified_S
    refine bs hb (ln ?_)
    rw [if_pos hc, sane_val]; rfl
  · have h1 : b = true := by cases b <;> simp_all
    subst h1
    simp only [Bool.not_true, Bool.false_or, Bool.or_eq_true, not_or, Bool.not_eq_true] at hc
    exact steps_in hbody (hlen rfl) (by omega) (sane_val _) hc.1 hc.2 hb
end Go.Proofs.Ytipepglcceogiaa
