/- the plain law -/
import Derived.Test.YtipepglcceogiaaP9
namespace Go.Proofs.Ytipepglcceogiaa
open Go.Sk
open Go
set_option linter.unusedSimpArgs false
set_option linter.unusedVariables false

theorem done_val {n : Int} {all : List (List Holding)} {last : Str} {sent : List Parcel} {h : Int} (C : Conn n all) (I : Inv n (G all) last h) (q : ∀ i, (G all i).Phase ≠ 2 ∧ (G all i).Phase ≠ 3) {F : Nat} (hF : 10 ≤ F) : skewbacklaw41_yard_done_S F last all sent = some true := by
  unfold skewbacklaw41_yard_done_S
  have hn := C.len
  have n4 := C.n4
  have hr := I.hr
  have hp := I.p
  have hd := I.d
  have qh := q h
  refine bs (count_iter (g := G all) (n := n) (h := h) (last := last) (P := fun i => (G all i).Phase = 1) (by omega) hr (fun i i0 i1 ih => ?_) (fun c i c0 c1 i0 i1 => ?_) (fun c => ?_) (by omega)) ?_
  · have := I.o i ih; omega
  · have qi := q i
    dsimp only [un2, un3]
    rw [if_pos (by simp; omega)]
    simp only [idx?_eq i0 (show i < (all.length : Int) by omega), Option.bind_some, get_val C hF i0 (show i < (all.length : Int) by omega), letN]
    rw [wrap64 (by omega) (by omega), if_neg (by simp; omega)]
    simp only [Option.bind_some]
    rw [if_neg (by simp; omega)]
    by_cases hq : (G all i).Phase = 1
    · have ih : i = h := Classical.byContradiction fun ih => by have := I.o i ih; omega
      subst ih
      rw [if_pos hq, if_pos (by simp; omega), if_neg (by simp [hd])]
      simp only [Option.bind_some, alt2]
      rw [wrap64 (by omega) (by omega)]
    · rw [if_neg hq, if_neg (by simp; omega)]
      simp only [Option.bind_some, alt2]
      rw [wrap64 (by omega) (by omega)]
  · dsimp only [un2, un3]
    rw [if_neg (by simp; omega)]
  · rw [if_pos (show (G all h).Phase = 1 by omega)]
    rfl
theorem u8_in' {n : Int} (h : inR .u8 n) : 0 ≤ n ∧ n ≤ 255 := h
theorem rounds_loop {n : Int} {all : List (List Holding)} {last : Str} {sent : List Parcel} {h : Int} (Y : Yard n all last sent h) (hs : sent.length ≤ 100) {F : Nat} (hF : 1000 ≤ F) :
    ∃ all' sent' h', iter F (un3 fun all_24 sent_25 x_26 => if (decide (x_26 < 3)) = true then (Option.bind (Option.bind (iter F (un2 fun sent_32 x_33 => if (decide (x_33 < (all_24.length : Int))) = true then (Option.bind (idx? all_24 x_33) (fun x_35 => Option.bind (region_Letters_S F x_35 x_33) (fun x_36 => Option.bind (app? sent_32 x_36) (fun x_37 => some (.inl (x_37, IntKind.i64.wrap (x_33 + 1))))))) else (some (.inr sent_32))) (sent_25, 0)) (fun sent_31 => Option.bind (iter F (un3 fun all_38 sent_39 i_40 => letN ((decide (i_40 < (sent_39.length : Int))) && (decide (i_40 < 10000))) fun x_43 => if x_43 = true then (Option.bind (idx? sent_39 i_40) (fun x_44 => Option.bind (skewbacklaw41_yard_arrive_S F x_44 last all_38 sent_39) (un2 fun x_45 x_46 => some (.inl (x_45, x_46, IntKind.i64.wrap (i_40 + 1)))))) else (some (.inr (all_38, sent_39)))) (all_24, sent_31, (sent_25.length : Int))) (un2 fun all_41 sent_42 => some (all_41, sent_42)))) (un2 fun all_29 sent_30 => some (.inl (all_29, sent_30, IntKind.i64.wrap (x_26 + 1))))) else (some (.inr (all_24, sent_25)))) (all, sent, 0) = some (all', sent') ∧ Yard n all' last sent' h' ∧ sent'.length ≤ sent.length + 48 ∧ ∀ i, (G all' i).Phase ≠ 2 ∧ (G all' i).Phase ≠ 3 := by
  obtain ⟨⟨all', sent'⟩, e, h', hY, hl, hq⟩ := iter_spec (body := un3 fun all_24 sent_25 x_26 => if (decide (x_26 < 3)) = true then (Option.bind (Option.bind (iter F (un2 fun sent_32 x_33 => if (decide (x_33 < (all_24.length : Int))) = true then (Option.bind (idx? all_24 x_33) (fun x_35 => Option.bind (region_Letters_S F x_35 x_33) (fun x_36 => Option.bind (app? sent_32 x_36) (fun x_37 => some (.inl (x_37, IntKind.i64.wrap (x_33 + 1))))))) else (some (.inr sent_32))) (sent_25, 0)) (fun sent_31 => Option.bind (iter F (un3 fun all_38 sent_39 i_40 => letN ((decide (i_40 < (sent_39.length : Int))) && (decide (i_40 < 10000))) fun x_43 => if x_43 = true then (Option.bind (idx? sent_39 i_40) (fun x_44 => Option.bind (skewbacklaw41_yard_arrive_S F x_44 last all_38 sent_39) (un2 fun x_45 x_46 => some (.inl (x_45, x_46, IntKind.i64.wrap (i_40 + 1)))))) else (some (.inr (all_38, sent_39)))) (all_24, sent_31, (sent_25.length : Int))) (un2 fun all_41 sent_42 => some (all_41, sent_42)))) (un2 fun all_29 sent_30 => some (.inl (all_29, sent_30, IntKind.i64.wrap (x_26 + 1))))) else (some (.inr (all_24, sent_25))))
    (fun s => 0 ≤ s.2.2 ∧ s.2.2 ≤ 3 ∧ (s.2.1.length : Int) ≤ sent.length + 16 * s.2.2 ∧ (0 < s.2.2 → ∀ i, (G s.1 i).Phase ≠ 2 ∧ (G s.1 i).Phase ≠ 3) ∧ ∃ h, Yard n s.1 last s.2.1 h) (fun s => (3 - s.2.2).toNat)
    (fun t => ∃ h', Yard n t.1 last t.2 h' ∧ t.2.length ≤ sent.length + 48 ∧ ∀ i, (G t.1 i).Phase ≠ 2 ∧ (G t.1 i).Phase ≠ 3) (by
    rintro ⟨a, s, k⟩ ⟨k0, k1, k2, k3, h, Y⟩
    dsimp only [un3] at k0 k1 k2 k3 Y ⊢
    by_cases hk : k < 3
    · obtain ⟨new, q1, q2, q3, q4⟩ := letters_loop Y (by omega) hF
      obtain ⟨a', s', h', p1, p2, p3, p4⟩ := queue_loop q2 (by omega) q3 q4 hF
      refine ⟨.inl (a', s', k + 1), ?_, fun s'' es => ?_, fun t et => by simp at et⟩
      · rw [if_pos (by simpa using hk)]
        refine bs2 (bs q1 (bs2 p1 rfl)) ?_
        rw [wrap64 (by omega) (by omega)]
      · simp only [Sum.inl.injEq] at es
        subst es
        dsimp only
        exact ⟨⟨by omega, by omega, by omega, fun _ => p4, h', p2⟩, by omega⟩
    · refine ⟨.inr (a, s), by rw [if_neg (by simpa using hk)], fun s' es => by simp at es, fun t et => ?_⟩
      simp only [Sum.inr.injEq] at et
      subst et
      exact ⟨h, Y, by simp only; omega, k3 (by omega)⟩) F (all, sent, 0) ⟨by simp, by simp, by simp, fun q => absurd q (by simp), h, Y⟩ (by simp only; omega)
  exact ⟨all', sent', h', e, hY, hl, hq⟩
/-- letters that come late -/
theorem late_loop {n : Int} {all : List (List Holding)} {last : Str} {sent : List Parcel} {h : Int} (Y : Yard n all last sent h) (hq : ∀ i, (G all i).Phase ≠ 2 ∧ (G all i).Phase ≠ 3) {late : List Int} (hlate : ∀ k ∈ late, inR .u8 k) (hl : late.length ≤ 60) (hs : sent.length ≤ 500) {F : Nat} (hF : 1000 ≤ F) :
    ∃ all' sent' h', iter F (un3 fun all_50 sent_51 x_52 => if (decide (x_52 < (late.length : Int))) = true then (Option.bind (Option.bind (idx? late x_52) (fun x_57 => if (decide (0 < (sent_51.length : Int))) = true then (Option.bind (rem? (IntKind.i64.wrap x_57) (sent_51.length : Int)) (fun x_58 => Option.bind (idx? sent_51 x_58) (fun x_59 => Option.bind (skewbacklaw41_yard_arrive_S F x_59 last all_50 sent_51) (un2 fun x_60 x_61 => some (x_60, x_61))))) else (some (all_50, sent_51)))) (un2 fun all_55 sent_56 => some (.inl (all_55, sent_56, IntKind.i64.wrap (x_52 + 1))))) else (some (.inr (all_50, sent_51)))) (all, sent, 0) = some (all', sent') ∧ Yard n all' last sent' h' ∧ ∀ i, (G all' i).Phase ≠ 2 ∧ (G all' i).Phase ≠ 3 := by
  obtain ⟨⟨all', sent'⟩, e, h', hY, hq⟩ := iter_spec (body := un3 fun all_50 sent_51 x_52 => if (decide (x_52 < (late.length : Int))) = true then (Option.bind (Option.bind (idx? late x_52) (fun x_57 => if (decide (0 < (sent_51.length : Int))) = true then (Option.bind (rem? (IntKind.i64.wrap x_57) (sent_51.length : Int)) (fun x_58 => Option.bind (idx? sent_51 x_58) (fun x_59 => Option.bind (skewbacklaw41_yard_arrive_S F x_59 last all_50 sent_51) (un2 fun x_60 x_61 => some (x_60, x_61))))) else (some (all_50, sent_51)))) (un2 fun all_55 sent_56 => some (.inl (all_55, sent_56, IntKind.i64.wrap (x_52 + 1))))) else (some (.inr (all_50, sent_51))))
    (fun s => 0 ≤ s.2.2 ∧ s.2.2 ≤ late.length ∧ (s.2.1.length : Int) ≤ sent.length + s.2.2 ∧ (∀ i, (G s.1 i).Phase ≠ 2 ∧ (G s.1 i).Phase ≠ 3) ∧ ∃ h, Yard n s.1 last s.2.1 h) (fun s => (late.length - s.2.2).toNat)
    (fun t => ∃ h', Yard n t.1 last t.2 h' ∧ ∀ i, (G t.1 i).Phase ≠ 2 ∧ (G t.1 i).Phase ≠ 3) (by
    rintro ⟨a, s, k⟩ ⟨k0, k1, k2, k3, h, Y⟩
    dsimp only [un3] at k0 k1 k2 k3 Y ⊢
    by_cases hk : k < late.length
    · by_cases hs0 : 0 < (s.length : Int)
      · have hin := u8_in' (hlate _ (idx_mem k0 hk))
        have t0 := Int.tmod_nonneg (s.length : Int) hin.1
        have t1 := Int.tmod_lt_of_pos (idx late k) hs0
        obtain ⟨a', h', q1, q2, q3⟩ := arrive_ok Y (idx_mem t0 t1) (by omega) (show 10 ≤ F by omega)
        have hsl := stepG_len n (G a) (idx s ((idx late k).tmod s.length))
        refine ⟨.inl (a', s ++ (stepG n (G a) (idx s ((idx late k).tmod s.length))).2, k + 1), ?_, fun s'' es => ?_, fun t et => by simp at et⟩
        · rw [if_pos (by simpa using hk)]
          refine bs2 (bs (idx?_eq k0 hk) ((if_pos (by simpa using hs0)).trans (bs (a := (idx late k).tmod s.length) ?_ (bs (idx?_eq t0 t1) (bs2 q1 rfl))))) ?_
          · rw [wrap64 (by omega) (by omega)]
            unfold rem?
            rw [if_neg (by omega)]
          · rw [wrap64 (by omega) (by omega)]
        · simp only [Sum.inl.injEq] at es
          subst es
          dsimp only
          refine ⟨⟨by omega, by omega, by simp only [List.length_append]; omega, ?_, h', q2⟩, by omega⟩
          rw [q3]
          exact still_step k3
      · refine ⟨.inl (a, s, k + 1), ?_, fun s'' es => ?_, fun t et => by simp at et⟩
        · rw [if_pos (by simpa using hk)]
          refine bs2 (bs (idx?_eq k0 hk) (if_neg (by simpa using hs0))) ?_
          rw [wrap64 (by omega) (by omega)]
        · simp only [Sum.inl.injEq] at es
          subst es
          exact ⟨⟨by simp only; omega, by simp only; omega, by simp only; omega, k3, h, Y⟩, by simp only; omega⟩
    · refine ⟨.inr (a, s), by rw [if_neg (by simpa using hk)], fun s' es => by simp at es, fun t et => ?_⟩
      simp only [Sum.inr.injEq] at et
      subst et
      exact ⟨h, Y, k3⟩) F (all, sent, 0) ⟨by simp, by simp, by simp, hq, h, Y⟩ (by simp only; omega)
  exact ⟨all', sent', h', e, hY, hq⟩
theorem ops_loop {n : Int} {all : List (List Holding)} {last : Str} {h : Int} (Y : Yard n all last [] h) {l : List ROp} (hl : l.length ≤ 80) {F : Nat} (hF : 1000 ≤ F) :
    ∃ all' sent' last' h', iter F (un4 fun all_11 sent_12 last_13 x_14 => if (decide (x_14 < (l.length : Int))) = true then (Option.bind (idx? l x_14) (fun x_18 => Option.bind (skewbacklaw41_yard_do_S F x_18 last_13 all_11 sent_12) (un3 fun x_19 x_20 x_21 => some (.inl (x_20, x_21, x_19, IntKind.i64.wrap (x_14 + 1)))))) else (some (.inr (all_11, sent_12, last_13)))) (all, [], last, 0) = some (all', sent', last') ∧ Yard n all' last' sent' h' ∧ sent'.length ≤ 80 := by
  obtain ⟨⟨all', sent', last'⟩, e, h', hY, hs⟩ := iter_spec (body := un4 fun all_11 sent_12 last_13 x_14 => if (decide (x_14 < (l.length : Int))) = true then (Option.bind (idx? l x_14) (fun x_18 => Option.bind (skewbacklaw41_yard_do_S F x_18 last_13 all_11 sent_12) (un3 fun x_19 x_20 x_21 => some (.inl (x_20, x_21, x_19, IntKind.i64.wrap (x_14 + 1)))))) else (some (.inr (all_11, sent_12, last_13))))
    (fun s => 0 ≤ s.2.2.2 ∧ s.2.2.2 ≤ l.length ∧ (s.2.1.length : Int) ≤ s.2.2.2 ∧ ∃ h, Yard n s.1 s.2.2.1 s.2.1 h) (fun s => (l.length - s.2.2.2).toNat)
    (fun t => ∃ h', Yard n t.1 t.2.2 t.2.1 h' ∧ t.2.1.length ≤ 80) (by
    rintro ⟨all, sent, last, k⟩ ⟨k0, k1, k2, h, Y⟩
    dsimp only [un4] at k0 k1 k2 Y ⊢
    by_cases hk : k < l.length
    · obtain ⟨last', all', sent', h', q1, q2, q3⟩ := do_ok Y (x := idx l k) (by omega) (show 10 ≤ F by omega)
      refine ⟨.inl (all', sent', last', k + 1), ?_, fun s' es => ?_, fun t et => by simp at et⟩
      · rw [if_pos (by simpa using hk)]
        refine bs (idx?_eq k0 hk) (bs q1 ?_)
        dsimp only [un3]
        rw [wrap64 (by omega) (by omega)]
      · simp only [Sum.inl.injEq] at es
        subst es
        dsimp only
        exact ⟨⟨by omega, by omega, by omega, h', q2⟩, by omega⟩
    · refine ⟨.inr (all, sent, last), by rw [if_neg (by simpa using hk)], fun s' es => by simp at es, fun t et => ?_⟩
      simp only [Sum.inr.injEq] at et
      subst et
      exact ⟨h, Y, by simp only; omega⟩) F (all, [], last, 0) ⟨by simp, by simp, by simp, h, Y⟩ (by simp only; omega)
  exact ⟨all', sent', last', h', e, hY, hs⟩
/-- THE LAW OF THE END -/
theorem finishes_val {n0 : Int} {l : List ROp} {late : List Int} (hn : 0 ≤ n0 ∧ n0 ≤ 255) (hbig : l.length ≤ maxLen) (hlate : ∀ k ∈ late, inR .u8 k) : skewbacklaw41_RegionFinishes_S 1000000 n0 l late = some true := by
  unfold skewbacklaw41_RegionFinishes_S
  have sane : skewbacklaw41_sanity_S 1000000 = some true := sane_val 0
  refine ln ?_
  by_cases hc : ((decide (80 < (l.length : Int))) || (decide (60 < (late.length : Int)))) = true
  · rw [if_pos hc, sane]; rfl
  refine (if_neg hc).trans (ln ?_)
  simp only [Bool.or_eq_true, decide_eq_true_eq, not_or] at hc
  have hN := n_val hn
  generalize IntKind.i64.wrap (2 + Int.tmod (IntKind.i64.wrap n0) 3) = n at hN
  have hF : 1000 ≤ 1000000 := by omega
  obtain ⟨all, e, Y⟩ := began_ok hN (show 10 ≤ 1000000 by omega)
  refine bs e ?_
  dsimp only [un4]
  refine ifn rfl ?_
  obtain ⟨a1, s1, l1, h1, e1, Y1, m1⟩ := ops_loop Y (l := l) (by omega) hF
  refine bs e1 ?_
  obtain ⟨a2, s2, h2, e2, Y2, m2, q2⟩ := rounds_loop Y1 (by omega) hF
  refine bs e2 (bs (done_val Y2.C Y2.I q2 (by omega)) (ifn rfl ?_))
  obtain ⟨a3, s3, h3, e3, Y3, q3⟩ := late_loop Y2 q2 hlate (by omega) (by omega) hF
  refine bs e3 (bs sane ?_)
  rw [done_val Y3.C Y3.I q3 (by omega), gcall_some]
  rfl
end Go.Proofs.Ytipepglcceogiaa
