/- the plain law -/
import Derived.Test.YtdjnlmmhbeeihaaGreatDoorP1
namespace Go.Sk
open Go
theorem wrap48 {n : Nat} (h : 48 ≤ n ∧ n ≤ 57) : IntKind.i64.wrap (IntKind.i64.wrap (n : Int) - 48) = ((n - 48 : Nat) : Int) := by
 rw [wi64' (z := (n : Int)) (by omega) (by omega), wi64' (by omega) (by omega)]; omega
theorem small48 {n : Nat} (h : 48 ≤ n ∧ n ≤ 57) : (0 : Int) ≤ ((n - 48 : Nat) : Int) ∧ ((n - 48 : Nat) : Int) < 65536 := by omega
theorem long_of {n : Nat} {v w : Nat} {x : Int} (h3 : (65536 : Int) ^ (n - 1) ≤ x) (h4 : (65536 : Int) ^ 32 ≤ 65536 ^ (n - 1)) (hx : x = (v : Int)) (h5 : v ≤ w) : MM ≤ (w : Int) := by
 have e := MM65
 generalize (65536 : Int) ^ (n - 1) = p at *
 generalize (65536 : Int) ^ 32 = q at *
 omega
theorem num_lt {n : Nat} {x : Int} {v : Nat} (h1 : x < (65536 : Int) ^ n) (h2 : (65536 : Int) ^ n ≤ 65536 ^ 32) (hv : x = (v : Int)) : (v : Int) < MM := by
 have e := MM65
 generalize (65536 : Int) ^ n = p at *
 generalize (65536 : Int) ^ 32 = q at *
 omega
end Go.Sk
namespace Go.Proofs.YtdjnlmmhbeeihaaGreatDoor
open Go Go.Sk
set_option linter.unusedSimpArgs false
set_option linter.unusedVariables false
theorem rParse_y {F : Nat} (hF : 100000 < F) {s : Str} (hl : s.length ≤ 500) : Yld (r3_Parse_S F s) (RdS s) := by
 unfold r3_Parse_S
 refine sgn_first F s fun c0 hc0 => Yld.lnE _ hc0 ?_
 obtain ⟨f, hf⟩ : ∃ f : Nat, f = if sgnS s = true then 1 else 0 := ⟨_, rfl⟩
 have hD : digS s = s.drop f := by
  unfold digS; rw [hf]; split
  ·rfl
  ·rw [List.drop_zero]
 have hfl : f ≤ s.length := by
  rw [hf]; split
  ·next h =>
   unfold sgnS at h
   cases s with
   | nil => simp at h
   | cons c r => simp
  ·omega
 have hDl : (digS s).length = s.length - f := by rw [hD, List.length_drop]
 refine Yld.bind (P := (· = (f : Int))) ?_ ?_
 ·rw [hf]
  refine Yld.ite (fun h => ?_) (fun h => ?_)
  ·rw [if_pos h]; exact Yld.some rfl
  ·rw [h]; exact Yld.some rfl
 ·rintro _ rfl
  have hget : ∀ {k : Nat} (hk : k < (digS s).length), idx s ((f : Int) + (k : Int)) = (digS s)[k] := fun {k} hk => by
   have e : (f : Int) + (k : Int) = ((f + k : Nat) : Int) := by omega
   rw [e, str_idx (show f + k < s.length by omega)]
   simp only [hD, List.getElem_drop]
  have hill : ∀ {β : Type} {k : UInt8 → Option β} {Q : β → Prop}, (∀ c : UInt8, (((decide ((s.length : Int) = (f : Int))) || ((decide ((c.toNat : Int) = 48)) && (sgnS s || (decide (1 < (s.length : Int)))))) = true ↔ illS s) → Yld (k c) Q) → Yld ((gcall (!(decide ((s.length : Int) = (f : Int)))) (idx? s (f : Int))).bind k) Q := by
   intro β k Q h
   by_cases hd : digS s = []
   ·have h0 : (digS s).length = 0 := by rw [hd]; rfl
    have e : decide ((s.length : Int) = (f : Int)) = true := decide_eq_true (by omega)
    refine Yld.g0 (by rw [e]; rfl) (h _ ?_)
    rw [e]
    exact ⟨fun _ => .inl hd, fun _ => rfl⟩
   ·have hpos : 0 < (digS s).length := List.length_pos_iff.2 hd
    have e : decide ((s.length : Int) = (f : Int)) = false := decide_eq_false (by omega)
    refine Yld.g1 (by rw [e]; rfl) (Yld.idx (by omega) (by omega) (h _ ?_))
    have hg := hget (k := 0) hpos
    have ez : (f : Int) + ((0 : Nat) : Int) = (f : Int) := by omega
    rw [ez] at hg
    have hh : (digS s).head? = some (idx s (f : Int)) := by rw [hg, List.head?_eq_getElem?, List.getElem?_eq_getElem hpos]
    rw [e, Bool.false_or, Bool.and_eq_true, decide_eq_true_eq, u8_48]
    unfold illS
    rw [hh, Option.some.injEq]
    have key : idx s (f : Int) = 48 → ((sgnS s || decide (1 < (s.length : Int))) = true ↔ s ≠ [48]) := fun g => by
     cases hs : sgnS s with
     | true =>
      rw [Bool.true_or]
      refine ⟨fun _ e2 => ?_, fun _ => rfl⟩
      rw [e2] at hs
      exact absurd hs (by decide)
     | false =>
      rw [Bool.false_or, decide_eq_true_eq]
      rw [hs] at hf
      have hf0 : f = 0 := by rw [hf]; rfl
      subst hf0
      constructor
      ·intro h1 e2
       rw [e2] at h1
       exact absurd h1 (by decide)
      ·intro h1
       rcases (by omega : 1 < (s.length : Int) ∨ s.length = 1) with h2 | h2
       ·exact h2
       ·exfalso
        obtain ⟨c, rfl⟩ := List.length_eq_one_iff.1 h2
        exact h1 (by rw [show c = 48 from g])
    constructor
    ·rintro ⟨g1, g2⟩; exact .inr ⟨g1, (key g1).1 g2⟩
    ·intro g
     obtain ⟨g1, g2⟩ := g.resolve_left hd
     exact ⟨g1, (key g1).2 g2⟩
  refine hill fun c hc => Yld.ln ?_
  refine Yld.ite (fun h => ?_) (fun h => ?_)
  ·exact Yld.bindE (rBad_y F) (Yld.some (.ill (hc.1 h)))
  ·have hni : ¬ illS s := fun g => by rw [hc.2 g] at h; exact absurd h (by simp)
   refine Yld.bind (P := fun r => match r with | .inl _ => ∀ c ∈ digS s, isDig c | .inr z => RdS s z) (Yld.rounds (digS s).length (fun (k : Nat) (i : Int) => i = (f : Int) + (k : Int) ∧ ∀ m (hm : m < (digS s).length), m < k → isDig (digS s)[m]) (by omega) ⟨by omega, fun m _ h => absurd h (Nat.not_lt_zero m)⟩ ?_) ?_
   ·rintro k i hk ⟨rfl, hd⟩
    refine Yld.ite (fun h => ?_) (fun h => ?_)
    ·have hk' : k < (digS s).length := by have := of_decide_eq_true h; omega
     refine Yld.idx (by omega) (by omega) ?_
     rw [hget hk']
     refine Yld.bind (P := fun z => (decide (((digS s)[k].toNat : Int) < 48) || decide (57 < (z.toNat : Int))) = true ↔ ¬ isDig (digS s)[k]) ?_ ?_
     ·by_cases g : ((digS s)[k].toNat : Int) < 48
      ·rw [decide_eq_true g]
       refine ⟨default, rfl, ?_⟩
       dsimp only
       rw [Bool.true_or]
       exact ⟨fun _ h2 => by unfold isDig at h2; omega, fun _ => rfl⟩
      ·rw [decide_eq_false g]
       refine ⟨(digS s)[k], ?_, ?_⟩
       ·show idx? s _ = _
        unfold idx?
        rw [if_pos ⟨by omega, by omega⟩]
        exact congrArg some (hget hk')
       ·dsimp only
        rw [Bool.false_or, decide_eq_true_eq]
        unfold isDig
        constructor
        ·intro h1 h2; omega
        ·intro h1
         rcases (by omega : 57 < ((digS s)[k].toNat : Int) ∨ (digS s)[k].toNat ≤ 57) with h3 | h3
         ·exact h3
         ·exact absurd ⟨by omega, h3⟩ h1
     ·intro z hz
      refine Yld.ln (Yld.ite (fun h => ?_) (fun h => ?_))
      ·exact Yld.bindE (rBad_y F) (Yld.some (.inr ⟨_, rfl, .char hni _ (List.getElem_mem hk') (hz.1 h)⟩))
      ·have hdk : isDig (digS s)[k] := by
        rcases Decidable.em (48 ≤ (digS s)[k].toNat ∧ (digS s)[k].toNat ≤ 57) with g | g
        ·exact g
        ·rw [hz.2 g] at h; exact absurd h (by simp)
       refine Yld.some (.inl ⟨_, rfl, ⟨by rw [wi64]; omega, fun m hm h2 => ?_⟩, hk'⟩)
       by_cases e : m = k
       ·subst e; exact hdk
       ·exact hd m hm (by omega)
    ·have hk' : k = (digS s).length := by have := of_decide_eq_false h; omega
     subst hk'
     refine Yld.some (.inr ⟨_, rfl, fun c hc2 => ?_⟩)
     obtain ⟨m, hm, rfl⟩ := List.getElem_of_mem hc2
     exact hd m hm hm
   ·rintro (u | z) hr
    ·have hd : ∀ c ∈ digS s, isDig c := hr
     clear hr
     refine Yld.bind (P := fun r => match r with | .inl d => inD 65536 d ∧ d.length ≤ 32 ∧ lv d = (dv (digS s) : Int) | .inr z => RdS s z) (Yld.rounds (digS s).length (fun (k : Nat) (st : List Int × Int) => st.2 = (f : Int) + (k : Int) ∧ inD 65536 st.1 ∧ Tight st.1 ∧ st.1.length ≤ 32 ∧ lv st.1 = (dv ((digS s).take k) : Int)) (by omega) ⟨by dsimp only; omega, nil_in, fun h => absurd h (Nat.lt_irrefl 0), by simp, by rw [List.take_zero]; rfl⟩ ?_) ?_
     ·rintro k ⟨d, kx⟩ hk ⟨rfl, din, dt, dl, hv⟩
      dsimp only at din dt dl hv
      dsimp only [un2]
      refine Yld.ite (fun h => ?_) (fun h => ?_)
      ·have hk' : k < (digS s).length := by have := of_decide_eq_true h; omega
       have hcd := hd _ (List.getElem_mem hk')
       unfold isDig at hcd
       refine Yld.bind (times_y hF din (one_inD (by decide) (x := 10) (by decide)) (by omega) (by simp)) ?_
       rintro e ⟨e1, _, e2, e3⟩
       rw [lv_one] at e2
       refine Yld.idx (by omega) (by omega) ?_
       rw [hget hk']
       have hw : IntKind.i64.wrap ((IntKind.i64.wrap ((digS s)[k].toNat : Int)) - 48) = (((digS s)[k].toNat - 48 : Nat) : Int) := wrap48 hcd
       rw [hw]
       have hx : (0 : Int) ≤ (((digS s)[k].toNat - 48 : Nat) : Int) ∧ (((digS s)[k].toNat - 48 : Nat) : Int) < 65536 := small48 hcd
       refine Yld.bind (trim_y (by simp; omega) (by simp) (one_inD (by decide) hx)) ?_
       rintro g ⟨g1, _, g2, g3⟩
       rw [lv_one] at g2
       simp at e3 g3
       refine Yld.bind (rplus_y hF e1 g1 (by omega) (by omega)) ?_
       rintro r ⟨r1, r2, r3, r4⟩
       have hval : lv r = (dv ((digS s).take (k + 1)) : Int) := by rw [r3, e2, g2, hv, dv_take _ hk']; omega
       refine Yld.ite (fun h => ?_) (fun h => ?_)
       ·have h' : 32 < r.length := by have := of_decide_eq_true h; omega
        have h3 := lv_ge r1 r2 (by omega)
        have h4 := pow_le65 (show 32 ≤ r.length - 1 by omega)
        have h5 := dv_mono (digS s) (show k + 1 ≤ (digS s).length by omega) (Nat.le_refl _)
        rw [List.take_length] at h5
        exact Yld.bindE (rBad_y F) (Yld.some (.inr ⟨_, rfl, .long hni hd (long_of h3 h4 hval h5)⟩))
       ·have h' : r.length ≤ 32 := by have := of_decide_eq_false h; omega
        exact Yld.some (.inl ⟨_, rfl, ⟨by dsimp only; rw [wi64]; omega, r1, r2, h', hval⟩, hk'⟩)
      ·have hk' : k = (digS s).length := by have := of_decide_eq_false h; omega
       subst hk'
       rw [List.take_length] at hv
       exact Yld.some (.inr ⟨_, rfl, din, dl, hv⟩)
     ·rintro (d | z) hr
      ·obtain ⟨din, dl, hv⟩ : inD 65536 d ∧ d.length ≤ 32 ∧ lv d = (dv (digS s) : Int) := hr
       have h1 := lv_lt din
       have h2 := pow_le65 dl
       refine Yld.bindE (num_y hF _ (by omega) din) (Yld.some ?_)
       rw [hv]
       exact .num hni hd (num_lt h1 h2 hv)
      ·exact Yld.some hr
    ·exact Yld.some hr
end Go.Proofs.YtdjnlmmhbeeihaaGreatDoor

namespace Go.Sk
set_option linter.unusedSimpArgs false
set_option linter.unusedVariables false
open Go
theorem head_dig (u : Nat) : (Lib.decDigits u).head? ≠ some 45 := fun h => by
 have hne := (dd_head u).1
 have hm : (45 : UInt8) ∈ Lib.decDigits u := List.mem_of_head? h
 have := dd_dig u _ hm
 unfold isDig at this
 exact absurd this.1 (by decide)
theorem rds_itoa {a : Int} (ra : -MM < a ∧ a < MM) : RdS (Lib.itoa a) (big a, 0) := by
 by_cases h : a < 0
 ·have e : Lib.itoa a = 45 :: Lib.decDigits a.natAbs := by unfold Lib.itoa; rw [if_pos h]
  have hs : sgnS (Lib.itoa a) = true := by rw [e]; rfl
  have hd : digS (Lib.itoa a) = Lib.decDigits a.natAbs := by unfold digS; rw [hs, e]; rfl
  have hv : dv (digS (Lib.itoa a)) = a.natAbs := by rw [hd, dv_dd]
  have hn : ¬ illS (Lib.itoa a) := fun hh => by
   unfold illS at hh
   rw [hd] at hh
   rcases hh with g | ⟨g, _⟩
   ·exact (dd_head a.natAbs).1 g
   ·have h1 := (dd_head a.natAbs).2 g
    have h2 := dv_dd a.natAbs
    rw [h1] at h2
    have h3 : dv [48] = 0 := rfl
    omega
  have := RdS.num hn (by rw [hd]; exact dd_dig _) (by rw [hv]; omega)
  rw [hs, hv, if_pos rfl] at this
  have e2 : -(a.natAbs : Int) = a := by omega
  rw [e2] at this
  exact this
 ·have e : Lib.itoa a = Lib.decDigits a.toNat := itoa_nn (by omega)
  have hs : sgnS (Lib.itoa a) = false := by rw [e]; unfold sgnS; exact decide_eq_false (head_dig _)
  have hd : digS (Lib.itoa a) = Lib.decDigits a.toNat := by unfold digS; rw [hs, e]; rfl
  have hv : dv (digS (Lib.itoa a)) = a.toNat := by rw [hd, dv_dd]
  have hn : ¬ illS (Lib.itoa a) := fun hh => by
   unfold illS at hh
   rw [hd] at hh
   rcases hh with g | ⟨g, g2⟩
   ·exact (dd_head a.toNat).1 g
   ·exact g2 (by rw [e]; exact (dd_head a.toNat).2 g)
  have := RdS.num hn (by rw [hd]; exact dd_dig _) (by rw [hv]; omega)
  rw [hs, hv, if_neg (by decide)] at this
  have e2 : (a.toNat : Int) = a := by omega
  rw [e2] at this
  exact this
theorem itoa_rds {s : Str} {p : Big} (h : RdS s (p, 0)) : ∃ a, p = big a ∧ (-MM < a ∧ a < MM) ∧ Lib.itoa a = s := by
 cases h with
 | num hn hd hv =>
  have hnl : NoLead (digS s) := by
   refine ⟨fun e => hn (.inl e), fun e => ?_⟩
   have h1 : s = [48] := by
    rcases Decidable.em (s = [48]) with g | g
    ·exact g
    ·exact absurd (.inr ⟨e, g⟩) hn
   rw [h1]; rfl
  have hdd := dd_dv _ hd hnl
  cases hs : sgnS s with
  | true =>
   have hp : 0 < dv (digS s) := by
    rcases (by omega : 0 < dv (digS s) ∨ dv (digS s) = 0) with g | g
    ·exact g
    ·exfalso
     rw [g] at hdd
     have h0 : Lib.decDigits 0 = [48] := dd_small (by decide)
     refine hn (.inr ⟨by rw [← hdd, h0]; rfl, fun e => ?_⟩)
     rw [e] at hs
     exact absurd hs (by decide)
   refine ⟨-(dv (digS s) : Int), by rw [if_pos rfl], by omega, ?_⟩
   unfold Lib.itoa
   have e2 : (-(dv (digS s) : Int)).natAbs = dv (digS s) := by omega
   rw [if_pos (by omega), e2, hdd]
   unfold digS
   rw [hs, if_pos rfl]
   unfold sgnS at hs
   cases s with
   | nil => simp at hs
   | cons c r =>
    have h3 := of_decide_eq_true hs
    have h4 : c = 45 := Option.some.inj h3
    rw [h4]; rfl
  | false =>
   refine ⟨(dv (digS s) : Int), by rw [if_neg (by decide)], by omega, ?_⟩
   rw [itoa_nn (by omega), Int.toNat_natCast, hdd]
   unfold digS
   rw [hs]; rfl
theorem itoa_len {a : Int} (ra : -MM < a ∧ a < MM) : (Lib.itoa a).length ≤ 500 := by
 by_cases h : a < 0
 ·have h1 := dd_MM (a := -a) (by omega)
  have e : (-a).toNat = a.natAbs := by omega
  rw [e] at h1
  unfold Lib.itoa; rw [if_pos h, List.length_cons]; omega
 ·have h1 := dd_MM (a := a) ra.2
  rw [itoa_nn (by omega)]; omega
end Go.Sk

namespace Go.Sk
open Go
set_option linter.unusedSimpArgs false
set_option linter.unusedVariables false
def sl : Str → Nat
 | [] => 0
 | c :: r => if c = 47 then 0 else sl r + 1
theorem sl_le : ∀ s : Str, sl s ≤ s.length
 | [] => Nat.le_refl _
 | c :: r => by
  unfold sl
  split
  ·omega
  ·have := sl_le r
   rw [List.length_cons]; omega
theorem sl_at : ∀ {s : Str} (h : sl s < s.length), s[sl s] = 47
 | [], h => absurd h (Nat.not_lt_zero _)
 | c :: r, h => by
  unfold sl at h ⊢
  by_cases e : c = 47
  ·simp only [e, if_true] at h ⊢
   rfl
  ·simp only [e, if_false] at h ⊢
   exact sl_at (s := r) (by simpa using h)
theorem sl_before : ∀ {s : Str} {i : Nat} (h : i < sl s) (h2 : i < s.length), s[i] ≠ 47
 | [], i, _, h2 => absurd h2 (Nat.not_lt_zero _)
 | c :: r, i, h, h2 => by
  unfold sl at h
  by_cases e : c = 47
  ·rw [if_pos e] at h; omega
  ·rw [if_neg e] at h
   cases i with
   | zero => exact e
   | succ i => exact sl_before (s := r) (by omega) (by simpa using h2)
theorem sl_none : ∀ {s : Str}, (∀ c ∈ s, c ≠ 47) → sl s = s.length
 | [], _ => rfl
 | c :: r, h => by
  unfold sl
  rw [if_neg (h c (List.mem_cons_self)), sl_none fun x hx => h x (List.mem_cons_of_mem _ hx)]
  rfl
theorem sl_app : ∀ {a b : Str}, (∀ c ∈ a, c ≠ 47) → sl (a ++ 47 :: b) = a.length
 | [], b, _ => by simp [sl]
 | c :: r, b, h => by
  rw [List.cons_append]
  unfold sl
  rw [if_neg (h c (List.mem_cons_self)), sl_app fun x hx => h x (List.mem_cons_of_mem _ hx)]
  rfl
theorem index_sl : ∀ s : Str, Lib.index s [47] = if sl s < s.length then (sl s : Int) else -1
 | [] => rfl
 | c :: r => by
  unfold Lib.index sl
  have ih := index_sl r
  have hp : List.isPrefixOf [47] (c :: r) = decide (c = 47) := by
   by_cases e : c = 47
   ·subst e; rfl
   ·simp [List.isPrefixOf, e, Ne.symm e]
  rw [hp]
  by_cases e : c = 47
  ·simp [e]
  ·rw [decide_eq_false e, if_neg (by simp), if_neg e, ih]
   by_cases h : sl r < r.length
   ·have h2 : sl r + 1 < (c :: r).length := by rw [List.length_cons]; omega
    have h3 : (((sl r : Int)) == -1) = false := by rw [beq_eq_false_iff_ne]; omega
    rw [if_pos h, if_pos h2, h3, if_neg (by simp)]
    omega
   ·have h2 : ¬ sl r + 1 < (c :: r).length := by rw [List.length_cons]; omega
    rw [if_neg h, if_neg h2]
    rfl
theorem cut_sl (s : Str) : Lib.cut s [47] = (s.take (sl s), s.drop (sl s + 1), decide (sl s < s.length)) := by
 unfold Lib.cut
 rw [index_sl]
 by_cases h : sl s < s.length
 ·rw [if_pos h, if_pos (by omega), decide_eq_true h, Int.toNat_natCast]; rfl
 ·have h2 := sl_le s
  have e : sl s = s.length := by omega
  rw [if_neg h, if_neg (by omega), decide_eq_false h, e, List.take_length, List.drop_eq_nil_of_le (by omega)]
theorem parts_sl {s : Str} (h : sl s < s.length) : s.take (sl s) ++ 47 :: s.drop (sl s + 1) = s := by
 have e := List.drop_eq_getElem_cons h
 rw [sl_at h] at e
 rw [← e, List.take_append_drop]
theorem dig_no47 {c : UInt8} (h : isDig c) : c ≠ 47 := fun e => by
 subst e
 unfold isDig at h
 exact absurd h.1 (by decide)
theorem itoa_no47 (a : Int) : ∀ c ∈ Lib.itoa a, c ≠ 47 := fun c hc => by
 unfold Lib.itoa at hc
 split at hc
 ·rcases List.mem_cons.1 hc with e | h
  ·subst e; decide
  ·exact dig_no47 (dd_dig _ _ h)
 ·exact dig_no47 (dd_dig _ _ hc)
theorem RdS_in {s : Str} {p : Big × Int} (h : RdS s p) : inB p.1 := by
 cases h with
 | ill _ => exact bad_in
 | char _ _ _ _ => exact bad_in
 | long _ _ _ => exact bad_in
 | num _ _ _ => exact big_in _
theorem RdS_nil {p : Big × Int} (h : RdS [] p) : p.2 = 281 := by rw [RdS.one h (RdS.ill (.inl rfl))]
end Go.Sk
namespace Go.Proofs.YtdjnlmmhbeeihaaGreatDoor
open Go Go.Sk
set_option linter.unusedSimpArgs false
set_option linter.unusedVariables false
def txB (x : Big) : Str := match iv x with
 | some a => Lib.itoa a
 | none => []
theorem wText {x : Big} (hx : inB x) : w_Text_S FF x = some (txB x) := by
 rw [Text_y FF2 hx]; unfold txB; try (cases iv x <;> rfl)
theorem rText {x : Big} (hx : inB x) : r3_Text_S FF x = some (txB x) := by
 rw [rText_y FF2 hx]; unfold txB; try (cases iv x <;> rfl)
theorem txB_len {x : Big} (hx : inB x) : (txB x).length ≤ 500 := by
 unfold txB
 cases h : iv x with
 | none => simp
 | some a => exact itoa_len (iv_some hx h).2.2
def txF (x : Frc) : Str := if (qF x).isSome = true then (if x.D = big 1 then txB x.N else txB x.N ++ 47 :: txB x.D) else []
theorem Text_f {x : Frc} (hx : inF x) : q_Text_S FF x = some (txF x) := by
 refine Yld.eq ?_
 unfold q_Text_S txF
 refine Yld.bindE (Good_f hx) ?_
 cases h : (qF x).isSome with
 | false => exact Yld.ift rfl (Yld.some rfl)
 | true =>
  refine Yld.iff rfl (Yld.bindE one_y ?_)
  rw [if_pos rfl]
  refine Yld.ite (fun h1 => ?_) (fun h1 => ?_)
  ·rw [if_pos (of_decide_eq_true h1)]
   exact Yld.bindE (wText hx.1) (Yld.some rfl)
  ·have l1 := txB_len hx.1
   have l2 := txB_len hx.2
   rw [if_neg (of_decide_eq_false h1)]
   refine Yld.bindE (wText hx.1) (Yld.app (by simp; omega) (Yld.bindE (wText hx.2) (Yld.app (by simp; omega) (Yld.some (by simp)))))
theorem rText_f {x : Frc} (hx : inF x) : r4_Text_S FF x = some (txF x) := by
 refine Yld.eq ?_
 unfold r4_Text_S txF
 refine Yld.bindE (rGood_f hx) ?_
 cases h : (qF x).isSome with
 | false => exact Yld.ift rfl (Yld.some rfl)
 | true =>
  refine Yld.iff rfl (Yld.bindE rone_y ?_)
  rw [if_pos rfl]
  refine Yld.ite (fun h1 => ?_) (fun h1 => ?_)
  ·rw [if_pos (of_decide_eq_true h1)]
   exact Yld.bindE (rText hx.1) (Yld.some rfl)
  ·have l1 := txB_len hx.1
   have l2 := txB_len hx.2
   rw [if_neg (of_decide_eq_false h1)]
   refine Yld.bindE (rText hx.1) (Yld.app (by simp; omega) (Yld.bindE (rText hx.2) (Yld.app (by simp; omega) (Yld.some (by simp)))))
def rdF (p : Big) (e : Int) (q : Big) (f : Int) (two : Bool) (b : Str) : Frc × Int :=
 if e = 281 ∨ f = 281 ∨ two = true ∧ (b = [48] ∨ b = [49] ∨ b.head? = some 45) then (bf, 281)
 else if e ≠ 0 ∨ f ≠ 0 then (bf, 30)
 else if (qF ⟨p, q⟩).isSome = true then (⟨p, q⟩, 0) else (bf, 281)
def RdF (s : Str) (r : Frc × Int) : Prop := ∃ p e q f, RdS (s.take (sl s)) (p, e) ∧ (if sl s < s.length then RdS (s.drop (sl s + 1)) (q, f) else q = big 1 ∧ f = 0) ∧ r = rdF p e q f (decide (sl s < s.length)) (s.drop (sl s + 1))
theorem RdF.one {s : Str} {r t : Frc × Int} (h1 : RdF s r) (h2 : RdF s t) : r = t := by
 obtain ⟨p, e, q, f, a1, a2, rfl⟩ := h1
 obtain ⟨p', e', q', f', b1, b2, rfl⟩ := h2
 have c1 := RdS.one a1 b1
 cases c1
 by_cases h : sl s < s.length
 ·rw [if_pos h] at a2 b2
  have c2 := RdS.one a2 b2
  cases c2
  rfl
 ·rw [if_neg h] at a2 b2
  rw [a2.1, a2.2, b2.1, b2.2]
theorem hasPrefix_45 (b : Str) : Lib.hasPrefix b [45] = decide (b.head? = some 45) := by
 unfold Lib.hasPrefix
 cases b with
 | nil => rfl
 | cons c r =>
  by_cases e : c = 45
  ·subst e; rfl
  ·simp [List.isPrefixOf, e, Ne.symm e]
theorem Parse_f {s : Str} (hl : s.length ≤ 450) : Yld (q_Parse_S FF s) (RdF s) := by
 unfold q_Parse_S
 have hc : strings_Cut_S FF s [47] = some (s.take (sl s), s.drop (sl s + 1), decide (sl s < s.length)) := by
  unfold strings_Cut_S cut?
  rw [if_pos (by omega), cut_sl]
 refine Yld.bindE hc ?_
 dsimp only [un3]
 refine Yld.bindE one_y (Yld.ln ?_)
 refine Yld.bind (Parse_y FF2 (s := s.take (sl s)) (by rw [List.length_take]; omega)) ?_
 rintro ⟨p, e⟩ hp
 dsimp only [un2]
 refine Yld.bind (P := fun t : Frc × Int => ∃ q f, t = ((⟨p, q⟩ : Frc), f) ∧ inB q ∧ (if sl s < s.length then RdS (s.drop (sl s + 1)) (q, f) else q = big 1 ∧ f = 0)) ?_ ?_
 ·by_cases h : sl s < s.length
  ·rw [decide_eq_true h]
   refine Yld.ift rfl (Yld.bind (Parse_y FF2 (s := s.drop (sl s + 1)) (by rw [List.length_drop]; omega)) ?_)
   rintro ⟨q, f⟩ hq
   exact Yld.some ⟨q, f, rfl, RdS_in hq, by rw [if_pos h]; exact hq⟩
  ·rw [decide_eq_false h]
   exact Yld.iff rfl (Yld.some ⟨big 1, 0, rfl, big_in 1, by rw [if_neg h]; exact ⟨rfl, rfl⟩⟩)
 ·rintro t ⟨q, f, rfl, qi, hq⟩
  have hin : inF ⟨p, q⟩ := in_mk (RdS_in hp) qi
  have fin : ∀ r, r = rdF p e q f (decide (sl s < s.length)) (s.drop (sl s + 1)) → RdF s r := fun r h => ⟨p, e, q, f, hp, hq, h⟩
  generalize s.drop (sl s + 1) = b at *
  generalize decide (sl s < s.length) = two at *
  refine Yld.bind (P := fun g : Bool => ((decide (e = 281) || decide (f = 281)) || (two && ((decide (b = [48]) || decide (b = [49])) || g))) = decide (e = 281 ∨ f = 281 ∨ two = true ∧ (b = [48] ∨ b = [49] ∨ b.head? = some 45))) ?_ ?_
  ·unfold gcall
   split
   ·refine ⟨_, rfl, ?_⟩
    dsimp only
    rw [hasPrefix_45, Bool.eq_iff_iff]
    simp only [Bool.or_eq_true, Bool.and_eq_true, decide_eq_true_eq, or_assoc]
   ·next h =>
    refine ⟨default, rfl, ?_⟩
    dsimp only
    rw [Bool.eq_iff_iff]
    have hd : (default : Bool) = false := rfl
    rw [hd]
    simp only [Bool.or_eq_true, Bool.and_eq_true, decide_eq_true_eq, or_assoc, Bool.false_eq_true, or_false]
    constructor
    ·rintro (g | g | ⟨g1, g | g⟩)
     ·exact .inl g
     ·exact .inr (.inl g)
     ·exact .inr (.inr ⟨g1, .inl g⟩)
     ·exact .inr (.inr ⟨g1, .inr (.inl g)⟩)
    ·rintro (g | g | ⟨g1, g | g | g⟩)
     ·exact .inl g
     ·exact .inr (.inl g)
     ·exact .inr (.inr ⟨g1, .inl g⟩)
     ·exact .inr (.inr ⟨g1, .inr g⟩)
     ·by_cases e1 : e = 281
      ·exact .inl e1
      ·by_cases f1 : f = 281
       ·exact .inr (.inl f1)
       ·by_cases b1 : b = [48]
        ·exact .inr (.inr ⟨g1, .inl b1⟩)
        ·by_cases b2 : b = [49]
         ·exact .inr (.inr ⟨g1, .inr b2⟩)
         ·exact absurd (by simp [e1, f1, g1, b1, b2]) h
  ·intro g hg
   rw [hg]
   refine Yld.ln ?_
   unfold rdF at fin
   by_cases h1 : e = 281 ∨ f = 281 ∨ two = true ∧ (b = [48] ∨ b = [49] ∨ b.head? = some 45)
   ·exact Yld.ift (decide_eq_true h1) (Yld.bindE Bad_f (Yld.some (fin _ (by rw [if_pos h1]))))
   ·refine Yld.iff (decide_eq_false h1) ?_
    simp only [if_neg h1] at fin
    by_cases h2 : e ≠ 0 ∨ f ≠ 0
    ·exact Yld.ift (by rcases h2 with h | h <;> simp [h]) (Yld.bindE Bad_f (Yld.some (fin _ (by rw [if_pos h2]))))
    ·have e0 : e = 0 := by omega
     have f0 : f = 0 := by omega
     simp only [if_neg h2] at fin
     refine Yld.iff (by simp [e0, f0]) (Yld.bindE (Good_f hin) ?_)
     cases h3 : (qF ⟨p, q⟩).isSome with
     | true => exact Yld.iff rfl (Yld.some (fin _ (by rw [h3, if_pos rfl])))
     | false => exact Yld.ift rfl (Yld.bindE Bad_f (Yld.some (fin _ (by rw [h3, if_neg (by simp)]))))
theorem rParse_f {s : Str} (hl : s.length ≤ 450) : Yld (r4_Parse_S FF s) fun r => RdF s (r.X, r.E) := by
 unfold r4_Parse_S
 have hF := FF2
 have sle := sl_le s
 refine Yld.bind (P := fun k : Int => k = (sl s : Int)) (Yld.rounds (sl s) (fun (k : Nat) (i : Int) => i = (k : Int)) (by omega) rfl ?_) ?_
 ·rintro k i hk rfl
  by_cases h : k < s.length
  ·rw [decide_eq_true (show (k : Int) < (s.length : Int) by omega)]
   refine Yld.g1 rfl (Yld.idx (by omega) (by omega) (Yld.ln ?_))
   have hi : idx s (k : Int) = s[k] := by
    unfold idx
    simp [List.getD, h]
   rw [hi]
   by_cases h2 : k < sl s
   ·have h3 := sl_before h2 h
    refine Yld.ift ?_ (Yld.some (.inl ⟨_, rfl, by rw [wi64' (by omega) (by omega)]; omega, h2⟩))
    have h5 : (47 : UInt8).toNat = 47 := rfl
    have h4 : (s[k].toNat : Int) ≠ 47 := fun g => h3 (UInt8.toNat_inj.1 (by omega))
    simp [h4]
   ·have h3 : k = sl s := by omega
    subst h3
    refine Yld.iff ?_ (Yld.some (.inr ⟨_, rfl, rfl⟩))
    rw [sl_at h]; rfl
  ·rw [decide_eq_false (show ¬ (k : Int) < (s.length : Int) by omega)]
   refine Yld.g0 rfl (Yld.ln (Yld.iff rfl (Yld.some (.inr ⟨_, rfl, ?_⟩))))
   omega
 ·rintro k rfl
  refine Yld.take (by omega) (by omega) ?_
  rw [Int.toNat_natCast]
  refine Yld.bind (rParse_y FF2 (s := s.take (sl s)) (by rw [List.length_take]; omega)) ?_
  rintro ⟨p, e⟩ hp
  dsimp only [un2]
  refine Yld.bindE rone_y ?_
  have hw : IntKind.i64.wrap ((sl s : Int) + 1) = ((sl s + 1 : Nat) : Int) := by rw [wi64' (by omega) (by omega)]; omega
  have hdec : decide ((sl s : Int) < (s.length : Int)) = decide (sl s < s.length) := by rw [decide_eq_decide]; omega
  rw [hdec]
  refine Yld.bind (P := fun t : Big × Int => inB t.1 ∧ (if sl s < s.length then RdS (s.drop (sl s + 1)) t else t.1 = big 1 ∧ t.2 = 0)) ?_ ?_
  ·by_cases h : sl s < s.length
   ·rw [decide_eq_true h]
    refine Yld.ift rfl ?_
    rw [hw]
    refine Yld.drop (by omega) (by omega) ?_
    rw [Int.toNat_natCast]
    refine Yld.bind (rParse_y FF2 (s := s.drop (sl s + 1)) (by rw [List.length_drop]; omega)) ?_
    rintro ⟨q, f⟩ hq
    exact Yld.some ⟨RdS_in hq, by rw [if_pos h]; exact hq⟩
   ·rw [decide_eq_false h]
    exact Yld.iff rfl (Yld.some ⟨big_in 1, by rw [if_neg h]; exact ⟨rfl, rfl⟩⟩)
  ·rintro ⟨q, f⟩ ⟨qi, hq⟩
   dsimp only at qi hq
   dsimp only [un2]
   have hin : inF ⟨p, q⟩ := in_mk (RdS_in hp) qi
   have fin : ∀ r, r = rdF p e q f (decide (sl s < s.length)) (s.drop (sl s + 1)) → RdF s r := fun r h => ⟨p, e, q, f, hp, hq, h⟩
   have tail : ∀ {c : Bool}, c = decide (e = 281 ∨ f = 281 ∨ decide (sl s < s.length) = true ∧ (s.drop (sl s + 1) = [48] ∨ s.drop (sl s + 1) = [49] ∨ (s.drop (sl s + 1)).head? = some 45)) →
     Yld (letN c fun x_18 => if x_18 = true then (Option.bind (r4_Bad_S FF) (fun x_19 => some (⟨x_19, 281⟩ : RRes))) else (if ((decide (e ≠ 0)) || (decide (f ≠ 0))) = true then (Option.bind (r4_Bad_S FF) (fun x_20 => some (⟨x_20, 30⟩ : RRes))) else (Option.bind (r4_Good_S FF (⟨p, q⟩ : Frc)) (fun x_21 => if (!x_21) = true then (Option.bind (r4_Bad_S FF) (fun x_22 => some (⟨x_22, 281⟩ : RRes))) else (some (⟨(⟨p, q⟩ : Frc), 0⟩ : RRes)))))) fun r => RdF s (r.X, r.E) := fun {c} hc => by
    subst hc
    refine Yld.ln ?_
    unfold rdF at fin
    by_cases h1 : e = 281 ∨ f = 281 ∨ decide (sl s < s.length) = true ∧ (s.drop (sl s + 1) = [48] ∨ s.drop (sl s + 1) = [49] ∨ (s.drop (sl s + 1)).head? = some 45)
    ·exact Yld.ift (decide_eq_true h1) (Yld.bindE rBad_f (Yld.some (fin _ (by rw [if_pos h1]))))
    ·refine Yld.iff (decide_eq_false h1) ?_
     simp only [if_neg h1] at fin
     by_cases h2 : e ≠ 0 ∨ f ≠ 0
     ·exact Yld.ift (by rcases h2 with h | h <;> simp [h]) (Yld.bindE rBad_f (Yld.some (fin _ (by rw [if_pos h2]))))
     ·have e0 : e = 0 := by omega
      have f0 : f = 0 := by omega
      simp only [if_neg h2] at fin
      refine Yld.iff (by simp [e0, f0]) (Yld.bindE (rGood_f hin) ?_)
      cases h3 : (qF ⟨p, q⟩).isSome with
      | true => exact Yld.iff rfl (Yld.some (fin _ (by rw [h3, if_pos rfl])))
      | false => exact Yld.ift rfl (Yld.bindE rBad_f (Yld.some (fin _ (by rw [h3, if_neg (by simp)]))))
   by_cases c1 : e = 281 ∨ f = 281
   ·have c2 : (decide (e = 281) || decide (f = 281)) = true := by rcases c1 with h | h <;> simp [h]
    rw [c2]
    exact Yld.g0 rfl (Yld.g0 rfl (Yld.g0 rfl (tail (decide_eq_true (or_assoc.1 (.inl c1))).symm)))
   ·have c2 : (decide (e = 281) || decide (f = 281)) = false := by simp; omega
    rw [c2]
    by_cases h : sl s < s.length
    ·rw [decide_eq_true h] at tail ⊢
     rw [if_pos h] at hq
     refine Yld.g1 rfl ?_
     rw [hw]
     refine Yld.drop (by omega) (by omega) ?_
     rw [Int.toNat_natCast]
     have hne : s.drop (sl s + 1) ≠ [] := fun g => by
      rw [g] at hq
      have := RdS_nil hq
      exact c1 (.inr this)
     have hl1 : sl s + 1 < s.length := by
      have : (s.drop (sl s + 1)).length ≠ 0 := fun g => hne (List.eq_nil_of_length_eq_zero g)
      rw [List.length_drop] at this
      omega
     have hhd : (s.drop (sl s + 1)).head? = some (idx s ((sl s + 1 : Nat) : Int)) := by
      rw [List.drop_eq_getElem_cons hl1]
      unfold idx
      simp [List.getD, hl1]
     obtain ⟨b, hb⟩ : ∃ b, b = s.drop (sl s + 1) := ⟨_, rfl⟩
     rw [← hb] at hhd tail ⊢
     by_cases b1 : b = [48]
     ·rw [decide_eq_true b1]
      exact Yld.g0 rfl (Yld.g0 rfl (tail (decide_eq_true (.inr (.inr ⟨rfl, .inl b1⟩))).symm))
     ·rw [decide_eq_false b1]
      refine Yld.g1 rfl (Yld.drop (by omega) (by omega) ?_)
      rw [Int.toNat_natCast, ← hb]
      by_cases b2 : b = [49]
      ·rw [decide_eq_true b2]
       exact Yld.g0 rfl (tail (decide_eq_true (.inr (.inr ⟨rfl, .inr (.inl b2)⟩))).symm)
      ·rw [decide_eq_false b2]
       refine Yld.g1 rfl (Yld.idx (by omega) (by omega) (tail ?_))
       have h5 : (45 : UInt8).toNat = 45 := rfl
       have h6 : (((idx s ((sl s + 1 : Nat) : Int)).toNat : Int) = 45) ↔ b.head? = some 45 := by
        rw [hhd]
        constructor
        ·intro g
         rw [UInt8.toNat_inj.1 (show (idx s ((sl s + 1 : Nat) : Int)).toNat = (45 : UInt8).toNat by omega)]
        ·intro g
         rw [Option.some.inj g]; rfl
       have n1 : ¬ e = 281 := fun g => c1 (.inl g)
       have n2 : ¬ f = 281 := fun g => c1 (.inr g)
       generalize idx s ((sl s + 1 : Nat) : Int) = ch at *
       rw [Bool.eq_iff_iff]
       simp [h6, n1, n2, b1, b2]
    ·rw [decide_eq_false h] at tail ⊢
     refine Yld.g0 rfl (Yld.g0 rfl (Yld.g0 rfl (tail (decide_eq_false ?_).symm)))
     rintro (g | g | ⟨g, _⟩)
     ·exact c1 (.inl g)
     ·exact c1 (.inr g)
     ·cases g
end Go.Proofs.YtdjnlmmhbeeihaaGreatDoor

namespace Go.Proofs.YtdjnlmmhbeeihaaGreatDoor
open Go Go.Sk
set_option maxRecDepth 100000
theorem sanity_y : l4_sanity_S FF = some true := by
 unfold l4_sanity_S l4_text_S q_Text_S w_Text_S
 simp only [itoa_S_K]
 decide +kernel
end Go.Proofs.YtdjnlmmhbeeihaaGreatDoor

namespace Go.Proofs.YtdjnlmmhbeeihaaGreatDoor
open Go Go.Sk
set_option linter.unusedSimpArgs false
set_option linter.unusedVariables false
theorem mk_eq' (r : Rat) : mk r = ⟨big r.num, big r.den⟩ := by simp only [mk]
theorem rdF_ok {p q : Big} {e f : Int} {two : Bool} {b : Str} {y : Frc} (h : rdF p e q f two b = (y, 0)) : e = 0 ∧ f = 0 ∧ (two = true → b ≠ [49]) ∧ (qF ⟨p, q⟩).isSome = true ∧ y = ⟨p, q⟩ := by
 unfold rdF at h
 split at h
 ·cases h
 ·next h1 =>
  split at h
  ·cases h
  ·next h2 =>
   split at h
   ·next h3 =>
    cases h
    refine ⟨by omega, by omega, fun ht hb => h1 (.inr (.inr ⟨ht, .inr (.inl hb)⟩)), h3, rfl⟩
   ·cases h
theorem itoa_one : Lib.itoa 1 = [49] := by
 unfold Lib.itoa
 rw [if_neg (by decide)]
 exact dd_small (by decide)
theorem itoa_zero : Lib.itoa 0 = [48] := by
 unfold Lib.itoa
 rw [if_neg (by decide)]
 exact dd_small (by decide)
theorem itoa_inj {a b : Int} (ra : InM a) (rb : InM b) (h : Lib.itoa a = Lib.itoa b) : a = b := by
 have h1 := rds_itoa ra
 rw [h] at h1
 have := RdS.one h1 (rds_itoa rb)
 exact (big_inj ra rb).1 (Prod.mk.inj this).1
theorem text_back {s : Str} {y : Frc} (h : RdF s (y, 0)) : txF y = s := by
 obtain ⟨p, e, q, f, a1, a2, h3⟩ := h
 obtain ⟨rfl, rfl, h4, h5, rfl⟩ := rdF_ok h3.symm
 obtain ⟨m, rfl, rm, em⟩ := itoa_rds a1
 unfold txF
 rw [if_pos h5]
 dsimp only
 have tm : txB (big m) = s.take (sl s) := by unfold txB; rw [iv_big rm]; exact em
 by_cases h : sl s < s.length
 ·rw [if_pos h] at a2
  obtain ⟨d, rfl, rd, ed⟩ := itoa_rds a2
  have hd : big d ≠ big 1 := fun g => by
   have := (big_inj rd one_InM).1 g
   rw [this, itoa_one] at ed
   exact h4 (decide_eq_true h) ed.symm
  rw [if_neg hd, tm]
  have td : txB (big d) = s.drop (sl s + 1) := by unfold txB; rw [iv_big rd]; exact ed
  rw [td]
  exact parts_sl h
 ·rw [if_neg h] at a2
  rw [if_pos a2.1, tm]
  have := sl_le s
  rw [show sl s = s.length by omega, List.take_length]
theorem txB_big {a : Int} (h : InM a) : txB (big a) = Lib.itoa a := by unfold txB; rw [iv_big h]
theorem txF_one {r : Rat} (hf : fits r) (h1 : (r.den : Int) = 1) : txF (mk r) = Lib.itoa r.num := by
 have t1 : txB (big r.num) = Lib.itoa r.num := txB_big hf.1
 unfold txF
 rw [qF_mk hf, if_pos (show (some r).isSome = true from rfl), mk_N, mk_D, if_pos (congrArg big h1), t1]
theorem txF_two {r : Rat} (hf : fits r) (h1 : (r.den : Int) ≠ 1) : txF (mk r) = Lib.itoa r.num ++ 47 :: Lib.itoa r.den := by
 have t1 : txB (big r.num) = Lib.itoa r.num := txB_big hf.1
 have t2 : txB (big r.den) = Lib.itoa r.den := txB_big hf.2
 have hd : big (r.den : Int) ≠ big 1 := fun g => h1 ((big_inj hf.2 one_InM).1 g)
 unfold txF
 rw [qF_mk hf, if_pos (show (some r).isSome = true from rfl), mk_N, mk_D, if_neg hd, t1, t2]
theorem rdF_good {p q : Big} {r : Rat} {b : Str} {two : Bool} (hq : qF ⟨p, q⟩ = some r) (hb : two = true → b ≠ [48] ∧ b ≠ [49] ∧ b.head? ≠ some 45) : rdF p 0 q 0 two b = (⟨p, q⟩, 0) := by
 unfold rdF
 rw [hq, if_neg, if_neg (by simp), if_pos (show (some r).isSome = true from rfl)]
 rintro (h | h | ⟨h, h2⟩)
 ·exact absurd h (by decide)
 ·exact absurd h (by decide)
 ·obtain ⟨n1, n2, n3⟩ := hb h
  rcases h2 with g | g | g
  ·exact n1 g
  ·exact n2 g
  ·exact n3 g
theorem back_one {r : Rat} (hf : fits r) (h1 : (r.den : Int) = 1) : RdF (Lib.itoa r.num) (mk r, 0) := by
 have e := sl_none (itoa_no47 r.num)
 have hq : mk r = ⟨big r.num, big 1⟩ := by rw [mk_eq', h1]
 have hs := qF_mk hf
 rw [hq] at hs
 have hlt : ¬ sl (Lib.itoa r.num) < (Lib.itoa r.num).length := by omega
 refine ⟨big r.num, 0, big 1, 0, ?_, ?_, ?_⟩
 ·rw [e, List.take_length]; exact rds_itoa hf.1
 ·rw [if_neg hlt]; exact ⟨rfl, rfl⟩
 ·rw [decide_eq_false hlt, rdF_good hs (fun h => by cases h), hq]
theorem back_two {r : Rat} (hf : fits r) (h1 : (r.den : Int) ≠ 1) : RdF (Lib.itoa r.num ++ 47 :: Lib.itoa r.den) (mk r, 0) := by
 have h0 := den_pos r
 have e := sl_app (b := Lib.itoa r.den) (itoa_no47 r.num)
 have hlt : sl (Lib.itoa r.num ++ 47 :: Lib.itoa r.den) < (Lib.itoa r.num ++ 47 :: Lib.itoa r.den).length := by rw [e]; simp
 have ht : (Lib.itoa r.num ++ 47 :: Lib.itoa r.den).take (Lib.itoa r.num).length = Lib.itoa r.num := by simp
 have hdr : (Lib.itoa r.num ++ 47 :: Lib.itoa r.den).drop ((Lib.itoa r.num).length + 1) = Lib.itoa r.den := by simp
 have n1 : Lib.itoa r.den ≠ [49] := fun g => h1 (itoa_inj hf.2 one_InM (by rw [g, itoa_one]))
 have n2 : Lib.itoa r.den ≠ [48] := fun g => by have := itoa_inj hf.2 zero_InM (by rw [g, itoa_zero]); omega
 have n3 : (Lib.itoa r.den).head? ≠ some 45 := by
  rw [itoa_nn (by omega)]; exact head_dig _
 have hs := qF_mk hf
 rw [mk_eq'] at hs
 refine ⟨big r.num, 0, big r.den, 0, ?_, ?_, ?_⟩
 ·rw [e, ht]; exact rds_itoa hf.1
 ·rw [if_pos hlt, e, hdr]; exact rds_itoa hf.2
 ·rw [decide_eq_true hlt, e, hdr, rdF_good hs (fun _ => ⟨n2, n1, n3⟩), mk_eq']
theorem read_back {x : Frc} {r : Rat} (hx : inF x) (h : qF x = some r) {z : Frc × Int} (hz : RdF (txF x) z) : z = (x, 0) := by
 obtain ⟨hf, e⟩ := qF_some hx h
 rw [e] at hz ⊢
 by_cases h1 : (r.den : Int) = 1
 ·rw [txF_one hf h1] at hz
  exact RdF.one hz (back_one hf h1)
 ·rw [txF_two hf h1] at hz
  exact RdF.one hz (back_two hf h1)
theorem txF_len {x : Frc} (hx : inF x) : (txF x).length ≤ 450 := by
 have key : ∀ {b : Big}, inB b → (txB b).length ≤ 160 := fun {b} hb => by
  unfold txB
  cases h : iv b with
  | none => simp
  | some a =>
   have ra := (iv_some hb h).2.2
   dsimp only
   unfold Lib.itoa
   split
   ·have h1 := dd_MM (a := -a) (by omega)
    have e : (-a).toNat = a.natAbs := by omega
    rw [e] at h1
    rw [List.length_cons]; omega
   ·have h1 := dd_MM (a := a) ra.2
    omega
 have l1 := key hx.1
 have l2 := key hx.2
 unfold txF
 split
 ·split
  ·omega
  ·rw [List.length_append, List.length_cons]; omega
 ·simp
theorem texts_y {x : Frc} {s : Str} (hx : inF x) : l4_RatioTexts_S FF x s = some true := by
 refine Yld.eq ?_
 unfold l4_RatioTexts_S
 refine Yld.ite (fun h => Yld.bindE sanity_y (Yld.some rfl)) (fun h => ?_)
 have hl : s.length ≤ 450 := by have := of_decide_eq_false h; omega
 refine Yld.bind (Parse_f hl) ?_
 rintro ⟨y, e⟩ hy
 dsimp only [un2]
 refine Yld.bind (rParse_f hl) ?_
 rintro ⟨X, E⟩ hX
 dsimp only at hX ⊢
 have := RdF.one hX hy
 cases this
 refine Yld.bindE (Text_f hx) (Yld.g1 (by simp) (Yld.bindE (rText_f hx) (Yld.lnE false (by simp) ?_)))
 refine Yld.bind (P := fun t : Str => (decide (e = 0) && decide (t ≠ s)) = false) ?_ ?_
 ·by_cases he : e = 0
  ·subst he
   have hin : inF y := by
    obtain ⟨p, e, q, f, a1, a2, h3⟩ := hy
    obtain ⟨_, _, _, h5, rfl⟩ := rdF_ok h3.symm
    refine in_mk (RdS_in a1) ?_
    split at a2
    ·exact RdS_in a2
    ·rw [a2.1]; exact big_in 1
   unfold gcall
   rw [if_pos (by rfl), Text_f hin]
   exact Yld.some (by rw [text_back hy]; simp)
  ·unfold gcall
   rw [if_neg (by simp [he])]
   exact Yld.some (by simp [he])
 ·intro t ht
  refine Yld.iff (by rw [ht]; rfl) ?_
  refine Yld.bind (Parse_f (txF_len hx)) ?_
  rintro ⟨z, f⟩ hz
  dsimp only [un2]
  refine Yld.bindE sanity_y (Yld.g1 rfl (Yld.bindE (rGood_f hx) (Yld.ln (Yld.some ?_))))
  cases hq : qF x with
  | none => rfl
  | some r =>
   have := read_back hx hq hz
   cases this
   simp
end Go.Proofs.YtdjnlmmhbeeihaaGreatDoor

namespace Go.Proofs.YtdjnlmmhbeeihaaGreatDoor
open Go Go.Sk
end Go.Proofs.YtdjnlmmhbeeihaaGreatDoor

namespace Go.Sk
open Go
theorem int_mem_rel {h : PH} {cs : List CP} {L : List Value} {k : IntKind} {z : Int} (hr : cellsRel h cs L) (hm : CP.int k z ∈ cs) : inR k z := by
 obtain ⟨i, hi, he⟩ := List.getElem_of_mem hm
 obtain ⟨u, _, hu⟩ := All2.get hr i (.int k z) (by rw [List.getElem?_eq_getElem hi, he])
 exact hu.2
end Go.Sk
namespace Go.Proofs.YtdjnlmmhbeeihaaGreatDoor
open Go Go.Sk
theorem inD_of {w : A16} (H : ∀ z ∈ w.l, inR .u32 z) : inD 4294967296 w.l := fun i => by
 by_cases hi : i < w.l.length
 ·have h1 := H w.l[i] (List.getElem_mem hi)
  have e : dg w.l i = w.l[i] := by simp [dg, List.getD, List.getElem?_eq_getElem hi]
  rw [e]
  have h2 : 0 ≤ w.l[i] ∧ w.l[i] ≤ 4294967295 := by simpa [inR, IntKind.min, IntKind.max, IntKind.signed, IntKind.bits] using h1
  omega
 ·rw [dg_ge (by omega)]; decide
theorem inF_ints {x : Frc} (H : ∀ z, CP.int .u32 z ∈ eFrc x → inR .u32 z) : inF x := by
 refine ⟨inD_of fun z hz => H z ?_, inD_of fun z hz => H z ?_⟩
 ·unfold eFrc eBig
  exact List.mem_append_left _ (List.mem_cons_of_mem _ (List.mem_cons_of_mem _ (List.mem_map_of_mem hz)))
 ·unfold eFrc eBig
  exact List.mem_append_right _ (List.mem_cons_of_mem _ (List.mem_cons_of_mem _ (List.mem_map_of_mem hz)))
theorem inF_of {x : Frc} {h : PH} {v : Value} (hx : (BV.agg (eFrc x)).rel h (fun _ => .bool false) v) : inF x := by
 obtain ⟨cs, _, hr⟩ := hx
 exact inF_ints fun z hz => int_mem_rel hr hz
end Go.Proofs.YtdjnlmmhbeeihaaGreatDoor

namespace Go.Proofs.YtdjnlmmhbeeihaaGreatDoor
open Go Go.Sk
theorem texts_law {mx : Int} (x : Frc) (s : Str) (hx : inF x) : Meets Tryz.prog (tabs mx) 9 [] [.agg (eFrc x), .one (.str s)] (Is [] (.b (.one (.bool true)))) :=
 l4_RatioTexts_spec (texts_y hx)
end Go.Proofs.YtdjnlmmhbeeihaaGreatDoor

