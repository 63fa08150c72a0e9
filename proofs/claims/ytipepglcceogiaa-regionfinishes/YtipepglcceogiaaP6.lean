/- the plain law -/
import Derived.Test.YtipepglcceogiaaP5
namespace Go.Proofs.Ytipepglcceogiaa
open Go.Sk
open Go
set_option linter.unusedSimpArgs false
set_option linter.unusedVariables false
/-! ## what a computer does -/
theorem rem_in {a n : Int} (hn : 0 < n) (h4 : n ≤ 1000000) : ∃ r, rem? a n = some r ∧ -n < r ∧ r < n := by
  refine ⟨a.tmod n, ?_, ?_, ?_⟩
  · unfold rem?; rw [if_neg (by omega)]
  · have h1 := Int.tmod_lt_of_pos (-a) hn
    rw [Int.neg_tmod] at h1
    omega
  · exact Int.tmod_lt_of_pos a hn
theorem node_in {a n : Int} (hn : 0 < n) (h4 : n ≤ 1000000) : ∃ r m, rem? a n = some r ∧ IntKind.i64.wrap (r + n) = r + n ∧ rem? (r + n) n = some m ∧ 0 ≤ m ∧ m < n := by
  obtain ⟨r, e, h1, h2⟩ := rem_in (a := a) hn h4
  refine ⟨r, (r + n).tmod n, e, wrap64 (by omega) (by omega), ?_, ?_, Int.tmod_lt_of_pos _ hn⟩
  · unfold rem?; rw [if_neg (by omega)]
  · exact Int.tmod_nonneg n (by omega)
theorem Yard.node {n : Int} {all : List (List Holding)} {last last' : Str} {sent : List Parcel} {h h' : Int} (Y : Yard n all last sent h) {a : Int} (ha : 0 ≤ a ∧ a < all.length) {v : Holding} (hv : rightB v = true) (hb : v.Body = 1)
    (K : Keeps n (G all) (upd (G all) a v) last last' h h') : Yard n (all.set a.toNat (putB v (idx all a))) last' sent h' := by
  obtain ⟨p1, p2⟩ := one_put (Y.C.at ha) hv hb
  have g := G_set (m := putB v (idx all a)) ha
  rw [p2] at g
  exact ⟨Y.C.set p1 _, by rw [g]; exact K.inv, fun y hy => by rw [g]; exact K.let_ y (Y.K y hy)⟩
theorem do_ok {n : Int} {all : List (List Holding)} {last : Str} {sent : List Parcel} {h : Int} (Y : Yard n all last sent h) {x : ROp} (hs : sent.length ≤ 1000) {F : Nat} (hF : 10 ≤ F) :
    ∃ last' all' sent' h', skewbacklaw41_yard_do_S F x last all sent = some (last', all', sent') ∧ Yard n all' last' sent' h' ∧ sent'.length ≤ sent.length + 1 := by
  unfold skewbacklaw41_yard_do_S
  have hn := Y.C.len
  have n4 := Y.C.n4
  obtain ⟨r, a, e1, e2, e3, a0, a1⟩ := node_in (a := x.Node) (n := (all.length : Int)) (by omega) (by omega)
  have ho := Y.C.at ⟨a0, a1⟩
  have hl := one_len ho
  have hg := G_in ⟨a0, a1⟩
  have hb := getB_body 1 (idx all a)
  have same : ∃ last' all' sent' h', some (last, all, sent) = some (last', all', sent') ∧ Yard n all' last' sent' h' ∧ sent'.length ≤ sent.length + 1 := ⟨last, all, sent, h, rfl, Y, by omega⟩
  have st : ∀ {A : Option (Str × List (List Holding) × List Parcel)} {B}, A = B → (∃ last' all' sent' h', B = some (last', all', sent') ∧ Yard n all' last' sent' h' ∧ sent'.length ≤ sent.length + 1) → ∃ last' all' sent' h', A = some (last', all', sent') ∧ Yard n all' last' sent' h' ∧ sent'.length ≤ sent.length + 1 := fun e h => e ▸ h
  refine st (bs e1 (ln (bs (by rw [e2]; exact e3) rfl))) ?_
  by_cases c0 : decide (x.Kind = 0) = true
  · rw [if_pos c0]
    obtain ⟨r', t, f1, f2, f3, t0, t1⟩ := node_in (a := x.To) (n := (all.length : Int)) (by omega) (by omega)
    refine st (bs (idx?_eq a0 a1) (bs f1 (bs (by rw [f2]; exact f3) (bs2 (region_Offer_val (by omega) (by omega) ho.1 (inR_i64 (by omega) (by omega))) rfl)))) ?_
    unfold offerK
    split
    · rename_i hft
      split
      · rename_i hp
        split
        · exact same
        · rename_i he
          have hr := rightB_iff.1 ((one_phase ho).resolve_left (by omega))
          refine st (bs (idx?_eq a0 a1) rfl) ⟨_, _, _, h, rfl, Y.node ⟨a0, a1⟩ (rightB_mk (by omega) (by omega) (.inr (.inr ⟨.inl rfl, hft.2.1.1, hft.2.1.2, by omega⟩))) rfl ?_, by omega⟩
          rw [← hg] at hp he hr ⊢
          exact inv_offer Y.I hp hft.2.2 (by omega) (by omega)
      · exact same
    · exact same
  rw [if_neg c0]
  by_cases c1 : decide (x.Kind = 1) = true
  · rw [if_pos c1]
    refine st (bs (idx?_eq a0 a1) (bs2 (region_Cancel_val (by omega) (by omega) ho.1 (inR_i64 (by omega) (by omega))) rfl)) ?_
    unfold cancelK
    split
    · rename_i hp
      have hr := rightB_iff.1 ((one_phase ho).resolve_left (by omega))
      refine st (bs (idx?_eq a0 a1) rfl) ⟨_, _, _, h, rfl, Y.node ⟨a0, a1⟩ (rightB_mk (by omega) (by omega) (.inr (.inl ⟨rfl, rfl⟩))) rfl ?_, by omega⟩
      rw [← hg] at hp ⊢
      exact inv_cancel Y.I hp
    · exact same
  rw [if_neg c1]
  by_cases c2 : decide (x.Kind = 2) = true
  · rw [if_pos c2]
    refine st (ln (bs (idx?_eq a0 a1) (bs2 (region_Put_val (by omega) (by omega) ho.1 (inR_i64 (by omega) (by omega))) rfl))) ?_
    unfold putK
    split
    · rename_i hp
      have hr := rightB_iff.1 ((one_phase ho).resolve_left (by omega))
      refine st (bs (idx?_eq a0 a1) rfl) ⟨_, _, _, h, rfl, Y.node ⟨a0, a1⟩ (rightB_mk (by omega) (by omega) (.inr (.inl ⟨hp, by omega⟩))) hb ?_, by omega⟩
      rw [← hg] at hp ⊢
      exact inv_put Y.I hp
    · exact same
  rw [if_neg c2]
  by_cases c3 : decide (x.Kind = 3) = true
  · rw [if_pos c3]
    have hlen : ((idx all a).flatMap (letterOf a)).length ≤ 1 := by rw [one_letters ho]; exact letterOf_len _ _
    refine st (bs (idx?_eq a0 a1) (bs (region_Letters_val (by omega) (by omega)) (bs (app?_eq (by omega)) rfl))) ⟨_, _, _, h, rfl, ⟨Y.C, Y.I, fun y hy => ?_⟩, by simp only [List.length_append]; omega⟩
    rcases List.mem_append.1 hy with hy | hy
    · exact Y.K y hy
    · rw [one_letters ho, ← hg] at hy
      exact inv_letter Y.I (G_body all a) hy
  rw [if_neg c3]
  by_cases c4 : decide (0 < (sent.length : Int)) = true
  · rw [if_pos c4]
    simp only [decide_eq_true_eq] at c4
    obtain ⟨r', t, f1, f2, f3, t0, t1⟩ := node_in (a := x.N) (n := (sent.length : Int)) (by omega) (by omega)
    obtain ⟨all', h', q1, q2, q3⟩ := arrive_ok Y (idx_mem t0 t1) (by omega) hF
    refine st (bs f1 (bs (by rw [f2]; exact f3) (bs (idx?_eq t0 t1) (bs2 q1 rfl)))) ⟨_, _, _, h', rfl, q2, ?_⟩
    have := stepG_len n (G all) (idx sent t)
    simp only [List.length_append]; omega
  · rw [if_neg c4]; exact same
/-! ## safe -/
theorem count_iter {g : Int → Holding} {n h : Int} {last : Str} (hn : 0 ≤ n ∧ n ≤ 1000000) (hh : 0 ≤ h ∧ h < n) {body : Int × Int → Option ((Int × Int) ⊕ (Int ⊕ Bool))} {P : Int → Prop} [DecidablePred P] (hP : ∀ i, 0 ≤ i → i < n → i ≠ h → ¬ P i)
    (hb : ∀ c i : Int, 0 ≤ c → c ≤ i → 0 ≤ i → i < n → body (c, i) = some (.inl (if P i then c + 1 else c, i + 1))) (he : ∀ c, body (c, n) = some (.inr (.inl c))) {F : Nat} (hF : n < F) : iter F body (0, 0) = some (.inl (if P h then 1 else 0)) := by
  obtain ⟨t, e, ht⟩ := iter_spec (body := body) (fun s => 0 ≤ s.2 ∧ s.2 ≤ n ∧ s.1 = if h < s.2 ∧ P h then 1 else 0) (fun s => (n - s.2).toNat) (fun t => t = .inl (if P h then 1 else 0)) (by
    rintro ⟨c, i⟩ ⟨i0, i1, hc⟩
    dsimp only at i0 i1 hc
    by_cases hi : i < n
    · refine ⟨_, hb c i (by split at hc <;> omega) (by split at hc <;> omega) i0 hi, fun s' es => ?_, fun t et => by simp at et⟩
      simp only [Sum.inl.injEq] at es
      subst es
      refine ⟨⟨by simp only; omega, by simp only; omega, ?_⟩, by simp only; omega⟩
      dsimp only
      by_cases ih : i = h
      · subst ih
        rw [if_neg (by omega)] at hc
        subst hc
        by_cases p : P i
        · rw [if_pos p, if_pos ⟨by omega, p⟩]; rfl
        · rw [if_neg p, if_neg (fun q => p q.2)]
      · rw [if_neg (hP i i0 hi ih), hc]
        by_cases p : h < i ∧ P h
        · rw [if_pos p, if_pos ⟨by omega, p.2⟩]
        · rw [if_neg p, if_neg (fun q => p ⟨by omega, q.2⟩)]
    · have : i = n := by omega
      subst this
      refine ⟨_, he c, fun s' es => by simp at es, fun t et => ?_⟩
      simp only [Sum.inr.injEq] at et
      rw [← et, hc]
      by_cases p : P h
      · rw [if_pos p, if_pos ⟨hh.2, p⟩]
      · rw [if_neg p, if_neg (fun q => p q.2)]) F (0, 0) ⟨by simp, by simp; omega, by rw [if_neg]; simp; omega⟩ (by simp only; omega)
  rw [e, ht]
def better (best : Int) (at_ v : Holding) : Bool := ((decide (best < 0)) || (decide (at_.Epoch < v.Epoch))) || (((decide (v.Epoch = at_.Epoch)) && (decide (v.Phase = 1))) && (decide (at_.Phase ≠ 1)))
theorem holder_iter {g : Int → Holding} {n h : Int} {last : Str} (I : Inv n g last h) (hn : 0 ≤ n ∧ n ≤ 1000000) {body : Int × Holding × Int → Option ((Int × Holding × Int) ⊕ Int)}
    (hb : ∀ (c : Int) (v : Holding) (i : Int), 0 ≤ i → i < n → body (c, v, i) = some (.inl (if (g i).Phase = 1 ∨ (g i).Phase = 2 ∨ (g i).Phase = 3 then (if better c v (g i) = true then (i, g i, i + 1) else (c, v, i + 1)) else (c, v, i + 1)))) (he : ∀ c v, body (c, v, n) = some (.inr c)) {F : Nat} (hF : n < F) :
    iter F body (-1, ⟨0, 0, 0, 0, []⟩, 0) = some h := by
  obtain ⟨t, e, ht⟩ := iter_spec (body := body) (fun s => 0 ≤ s.2.2 ∧ s.2.2 ≤ n ∧ (s.2.2 ≤ h → s.1 = -1 ∨ (0 ≤ s.1 ∧ s.1 ≠ h ∧ s.2.1 = g s.1 ∧ (g s.1).Phase = 3)) ∧ (h < s.2.2 → s.1 = h ∧ s.2.1 = g h)) (fun s => (n - s.2.2).toNat) (fun t => t = h) (by
    rintro ⟨c, v, i⟩ ⟨i0, i1, h1, h2⟩
    dsimp only at i0 i1 h1 h2
    by_cases hi : i < n
    · refine ⟨_, hb c v i i0 hi, fun s' es => ?_, fun t et => by simp at et⟩
      simp only [Sum.inl.injEq] at es
      subst es
      have m : ∀ s : Int × Holding × Int, s.2.2 = i + 1 → (0 ≤ s.2.2 ∧ s.2.2 ≤ n) ∧ (n - s.2.2).toNat < (n - i).toNat := fun s hs => by rw [hs]; omega
      by_cases ih : i = h
      · subst ih
        have hp := I.p
        have hbt : better c v (g i) = true := by
          unfold better
          rcases h1 (by omega) with e | ⟨e0, e1, e2, e3⟩
          · subst e; simp
          · subst e2
            have o := I.o c e1
            rcases Int.lt_or_eq_of_le o.2.2 with q | q
            · simp [q]
            · rcases hp with hp | hp | hp
              · simp [q, hp, e3]
              · have := (I.o2 hp c e1 q).1; omega
              · have := I.o4 hp c e1 e3; omega
        rw [if_pos hp, if_pos hbt]
        exact ⟨⟨(m _ rfl).1.1, (m _ rfl).1.2, fun q => absurd q (by simp only; omega), fun _ => ⟨rfl, rfl⟩⟩, (m _ rfl).2⟩
      · have o := I.o i ih
        by_cases hp : (g i).Phase = 1 ∨ (g i).Phase = 2 ∨ (g i).Phase = 3
        · have hp3 : (g i).Phase = 3 := by omega
          rw [if_pos hp]
          by_cases hih : i < h
          · split
            · exact ⟨⟨(m _ rfl).1.1, (m _ rfl).1.2, fun _ => .inr ⟨i0, ih, rfl, hp3⟩, fun q => absurd q (by simp only; omega)⟩, (m _ rfl).2⟩
            · exact ⟨⟨(m _ rfl).1.1, (m _ rfl).1.2, fun _ => h1 (by omega), fun q => absurd q (by simp only; omega)⟩, (m _ rfl).2⟩
          · obtain ⟨rfl, rfl⟩ := h2 (by omega)
            have : better c (g c) (g i) = false := by
              unfold better
              have := I.hr
              simp [hp3]
              omega
            rw [if_neg (by rw [this]; simp)]
            exact ⟨⟨(m _ rfl).1.1, (m _ rfl).1.2, fun q => absurd q (by simp only; omega), fun _ => ⟨rfl, rfl⟩⟩, (m _ rfl).2⟩
        · rw [if_neg hp]
          exact ⟨⟨(m _ rfl).1.1, (m _ rfl).1.2, fun q => h1 (by dsimp only at q; omega), fun q => h2 (by dsimp only at q; omega)⟩, (m _ rfl).2⟩
    · have : i = n := by omega
      subst this
      refine ⟨_, he c v, fun s' es => by simp at es, fun t et => ?_⟩
      simp only [Sum.inr.injEq] at et
      rw [← et]
      exact (h2 I.hr.2).1) F (-1, ⟨0, 0, 0, 0, []⟩, 0) ⟨by simp, by simp; omega, fun _ => .inl rfl, fun q => absurd q (by have := I.hr; simp only; omega)⟩ (by simp only; omega)
  rw [e, ht]
end Go.Proofs.Ytipepglcceogiaa
