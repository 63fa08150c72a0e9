/- the plain law -/
import Derived.Test.YtipepglcceogiaaP6
namespace Go.Proofs.Ytipepglcceogiaa
open Go.Sk
open Go
set_option linter.unusedSimpArgs false
set_option linter.unusedVariables false
theorem get_val {n : Int} {all : List (List Holding)} (C : Conn n all) {F : Nat} (hF : 10 ≤ F) {i : Int} (h0 : 0 ≤ i) (h1 : i < all.length) : region_Get_S F (idx all i) 1 = some (G all i) := by
  have ho := C.at ⟨h0, h1⟩
  have hl := one_len ho
  rw [region_Get_val (by omega) (by omega) ho.1 (inR_i64 (by omega) (by omega)), G_in ⟨h0, h1⟩]
theorem refget_val {n : Int} {all : List (List Holding)} (C : Conn n all) {F : Nat} (hF : 10 ≤ F) {i : Int} (h0 : 0 ≤ i) (h1 : i < all.length) : skewbackref41_Get_S F (idx all i) 1 = some (G all i) := by
  have ho := C.at ⟨h0, h1⟩
  have hl := one_len ho
  rw [ref_Get_val (by omega) (by omega), G_in ⟨h0, h1⟩]
theorem holder_val {n : Int} {all : List (List Holding)} {last : Str} {h : Int} (C : Conn n all) (I : Inv n (G all) last h) {F : Nat} (hF : 10 ≤ F) : region_Holder_S F all 1 = some h := by
  unfold region_Holder_S
  have hn := C.len
  have n4 := C.n4
  refine bs (holder_iter I (by omega) (fun c v i i0 i1 => ?_) (fun c v => ?_) (by omega)) rfl
  · dsimp only [un2, un3]
    rw [if_pos (by simp; omega)]
    simp only [idx?_eq i0 (show i < (all.length : Int) by omega), Option.bind_some, get_val C hF i0 (show i < (all.length : Int) by omega), letN]
    rw [wrap64 (by omega) (by omega)]
    have hph := G_phase C i
    by_cases hp : (G all i).Phase = 1 ∨ (G all i).Phase = 2 ∨ (G all i).Phase = 3
    · rw [if_pos hp, if_neg (by simp; omega)]
      show Option.bind (if better c v (G all i) = true then _ else _) _ = _
      split <;> rfl
    · rw [if_neg hp, if_pos (by simp; omega)]
      rfl
  · dsimp only [un2, un3]
    rw [if_neg (by simp; omega)]
theorem refholder_val {n : Int} {all : List (List Holding)} {last : Str} {h : Int} (C : Conn n all) (I : Inv n (G all) last h) {F : Nat} (hF : 10 ≤ F) : skewbackref41_Holder_S F all 1 = some h := by
  unfold skewbackref41_Holder_S
  have hn := C.len
  have n4 := C.n4
  refine bs (holder_iter I (by omega) (fun c v i i0 i1 => ?_) (fun c v => ?_) (by omega)) rfl
  · dsimp only [un2, un3]
    rw [if_pos (by simp; omega)]
    simp only [idx?_eq i0 (show i < (all.length : Int) by omega), Option.bind_some, refget_val C hF i0 (show i < (all.length : Int) by omega), letN]
    rw [wrap64 (by omega) (by omega)]
    by_cases hp : (G all i).Phase = 1 ∨ (G all i).Phase = 2 ∨ (G all i).Phase = 3
    · rw [if_pos hp, if_neg (by simp; omega)]
      show Option.bind (if better c v (G all i) = true then _ else _) _ = _
      split <;> rfl
    · rw [if_neg hp, if_pos (by simp; omega)]
      rfl
  · dsimp only [un2, un3]
    rw [if_neg (by simp; omega)]
theorem safe_val {n : Int} {all : List (List Holding)} {last : Str} {sent : List Parcel} {h : Int} (C : Conn n all) (I : Inv n (G all) last h) {F : Nat} (hF : 10 ≤ F) : skewbacklaw41_yard_safe_S F last all sent = some true := by
  unfold skewbacklaw41_yard_safe_S
  have hn := C.len
  have n4 := C.n4
  have hr := I.hr
  have hp := I.p
  have hd := I.d
  refine bs (count_iter (g := G all) (n := n) (h := h) (last := last) (P := fun i => (G all i).Phase = 1 ∨ (G all i).Phase = 2) (by omega) hr (fun i i0 i1 ih => ?_) (fun c i c0 c1 i0 i1 => ?_) (fun c => ?_) (by omega)) ?_
  · have := I.o i ih; omega
  · dsimp only [un2, un3]
    rw [if_pos (by simp; omega)]
    simp only [idx?_eq i0 (show i < (all.length : Int) by omega), Option.bind_some, get_val C hF i0 (show i < (all.length : Int) by omega), letN]
    rw [wrap64 (by omega) (by omega)]
    by_cases hq : (G all i).Phase = 1 ∨ (G all i).Phase = 2
    · have ih : i = h := Classical.byContradiction fun ih => by have := I.o i ih; omega
      subst ih
      rw [if_pos hq, if_pos (by simp; omega), if_neg (by simp [hd])]
      simp only [Option.bind_some, alt2]
      rw [wrap64 (by omega) (by omega)]
    · rw [if_neg hq, if_neg (by simp; omega)]
      simp only [Option.bind_some, alt2]
      rw [wrap64 (by omega) (by omega)]
  · dsimp only [un2, un3]
    rw [if_neg (by simp; omega)]
  refine bs (holder_val C I hF) (ifn ?_ (bs (idx?_eq hr.1 (by omega)) (bs (get_val C hF hr.1 (by omega)) ?_)))
  · split <;> simp <;> omega
  by_cases h3 : (G all h).Phase = 3
  · rw [if_neg (by simpa using h3)]
    obtain ⟨o1, o2, o3, o4, o5⟩ := I.o3 h3
    have hq := I.out (G all h).Peer (by omega)
    refine bs (idx?_eq hq.1 (by omega)) (bs (get_val C hF hq.1 (by omega)) ?_)
    rw [if_neg (by omega)]
    simp [hd, o3, o2, o5]
  · rw [if_pos (by simpa using h3), refholder_val C I hF, gcall_some]
    simp [hd]
/-- how it begins -/
theorem began_ok {n : Int} (hn : 2 ≤ n ∧ n ≤ 4) {F : Nat} (hF : 10 ≤ F) : ∃ all, skewbacklaw41_began_S F n = some (true, [48], all, []) ∧ Yard n all [48] [] 0 := by
  unfold skewbacklaw41_began_S
  have hlen : (List.replicate n.toNat ([] : List Holding)).length = n.toNat := List.length_replicate
  have hC : Conn n (List.replicate n.toNat ([] : List Holding)) := ⟨by rw [hlen]; omega, hn, fun l hl => by rw [List.eq_of_mem_replicate hl]; exact ⟨rfl, by simp⟩⟩
  have h0 : (0 : Int) ≤ 0 ∧ (0 : Int) < (List.replicate n.toNat ([] : List Holding)).length := by rw [hlen]; omega
  have hi : ∀ i : Int, 0 ≤ i → i < n → idx (List.replicate n.toNat ([] : List Holding)) i = [] := fun i i0 i1 => List.eq_of_mem_replicate (idx_mem i0 (by rw [hlen]; omega))
  have ho : one (putB ⟨1, 0, 1, 0, [48]⟩ []) := (one_put (l := []) ⟨rfl, by simp⟩ (rightB_mk (by omega) (by omega) (.inr (.inl ⟨rfl, rfl⟩))) rfl).1
  refine ⟨(List.replicate n.toNat ([] : List Holding)).set (0 : Int).toNat (putB ⟨1, 0, 1, 0, [48]⟩ []), ?_, ?_⟩
  · refine bs (a := List.replicate n.toNat []) (by unfold mk?; rw [if_pos (by omega)]) (bs2 (region_Begin_val (by simp; omega) (by simp) rfl (inR_i64 (by omega) (by omega))) (bs (idx?_eq h0.1 h0.2) ?_))
    rfl
  · have g := G_set (m := putB ⟨1, 0, 1, 0, [48]⟩ []) h0
    have g0 : ∀ i, G (List.replicate n.toNat ([] : List Holding)) i = ⟨1, 0, 0, 0, []⟩ := fun i => by
      unfold G
      split
      · rw [hi i (by omega) (by rw [hlen] at *; omega)]; rfl
      · rfl
    have g1 : getB 1 (putB ⟨1, 0, 1, 0, [48]⟩ []) = ⟨1, 0, 1, 0, [48]⟩ := rfl
    rw [g1] at g
    refine ⟨hC.set ho _, ?_, by simp⟩
    rw [g, show G (List.replicate n.toNat ([] : List Holding)) = fun _ => ⟨1, 0, 0, 0, []⟩ from funext g0]
    refine ⟨by omega, ?_, ?_, ?_, ?_, ?_, ?_, ?_, ?_, ?_⟩
    all_goals grind [upd]
theorem n_val {n0 : Int} (h : 0 ≤ n0 ∧ n0 ≤ 255) : 2 ≤ IntKind.i64.wrap (2 + Int.tmod (IntKind.i64.wrap n0) 3) ∧ IntKind.i64.wrap (2 + Int.tmod (IntKind.i64.wrap n0) 3) ≤ 4 := by
  rw [wrap64 (z := n0) (by omega) (by omega)]
  have h1 := Int.tmod_nonneg 3 h.1
  have h2 := Int.tmod_lt_of_pos n0 (show (0 : Int) < 3 by omega)
  rw [wrap64 (by omega) (by omega)]
  omega
/-- THE LAW OF SAFETY -/
theorem safe_law_val {n0 : Int} {l : List ROp} (hn : 0 ≤ n0 ∧ n0 ≤ 255) (hbig : l.length ≤ maxLen) : skewbacklaw41_RegionIsSafe_S 1000000 n0 l = some true := by
  unfold skewbacklaw41_RegionIsSafe_S
  by_cases h80 : decide (80 < (l.length : Int)) = true
  · rw [if_pos h80, show skewbacklaw41_sanity_S 1000000 = some true from sane_val 0]; rfl
  refine (if_neg h80).trans (ln ?_)
  simp only [decide_eq_true_eq] at h80
  have hN := n_val hn
  generalize IntKind.i64.wrap (2 + Int.tmod (IntKind.i64.wrap n0) 3) = n at hN
  obtain ⟨all, e, Y⟩ := began_ok hN (show 10 ≤ 1000000 by omega)
  refine bs e ?_
  dsimp only [un4]
  refine ifn rfl ?_
  refine bs (a := .inl ()) ?_ ?_
  rotate_left
  · exact bs (show skewbacklaw41_sanity_S 1000000 = some true from sane_val 0) rfl
  obtain ⟨t, e, ht⟩ := iter_spec (body := un4 fun all_7 sent_8 last_9 x_10 => if (decide (x_10 < (l.length : Int))) = true then (Option.bind (idx? l x_10) (fun x_11 => Option.bind (skewbacklaw41_yard_do_S 1000000 x_11 last_9 all_7 sent_8) (un3 fun x_12 x_13 x_14 => Option.bind (skewbacklaw41_yard_safe_S 1000000 x_12 x_13 x_14) (fun x_15 => if (!x_15) = true then (some (.inr (.inr false))) else (some (.inl (x_13, x_14, x_12, IntKind.i64.wrap (x_10 + 1)))))))) else (some (.inr (.inl ()))))
    (fun s => 0 ≤ s.2.2.2 ∧ s.2.2.2 ≤ l.length ∧ (s.2.1.length : Int) ≤ s.2.2.2 ∧ ∃ h, Yard n s.1 s.2.2.1 s.2.1 h) (fun s => (l.length - s.2.2.2).toNat) (fun t => t = (Sum.inl () : Unit ⊕ Bool)) (by
    rintro ⟨all, sent, last, k⟩ ⟨k0, k1, k2, h, Y⟩
    dsimp only [un4] at k0 k1 k2 Y ⊢
    by_cases hk : k < l.length
    · obtain ⟨last', all', sent', h', q1, q2, q3⟩ := do_ok Y (x := idx l k) (by omega) (show 10 ≤ 1000000 by omega)
      refine ⟨.inl (all', sent', last', k + 1), ?_, fun s' es => ?_, fun t et => by simp at et⟩
      · rw [if_pos (by simpa using hk)]
        refine bs (idx?_eq k0 hk) (bs q1 ?_)
        dsimp only [un3]
        refine bs (safe_val q2.C q2.I (by omega)) (ifn rfl ?_)
        rw [wrap64 (by omega) (by omega)]
      · simp only [Sum.inl.injEq] at es
        subst es
        dsimp only
        exact ⟨⟨by omega, by omega, by omega, h', q2⟩, by omega⟩
    · exact ⟨.inr (.inl ()), by rw [if_neg (by simpa using hk)], fun s' es => by simp at es, fun t et => by simpa using et.symm⟩) 1000000 (all, [], [48], 0) ⟨by simp, by simp, by simp, 0, Y⟩ (by simp only; omega)
  rw [ht] at e
  exact e
end Go.Proofs.Ytipepglcceogiaa
