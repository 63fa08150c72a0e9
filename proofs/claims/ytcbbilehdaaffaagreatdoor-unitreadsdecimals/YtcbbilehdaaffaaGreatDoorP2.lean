/- the plain law -/
import Derived.Test.YtcbbilehdaaffaaGreatDoorP1
namespace Go.Proofs.YtcbbilehdaaffaaGreatDoor
open Go Go.Sk
set_option linter.unusedSimpArgs false
set_option linter.unusedVariables false
inductive PR : Str → Quantity → Int → Quantity × Int → Prop
 | err {s : Str} {q : Quantity} {sg : Int} (h : (facT s q sg).2.1 ≠ 0) : PR s q sg (zQ, (facT s q sg).2.1)
 | fin {s : Str} {q : Quantity} {sg : Int} (h : (facT s q sg).2.1 = 0) (h2 : (facT s q sg).2.2 = []) : PR s q sg ((facT s q sg).1, 0)
 | mul {s t : Str} {q : Quantity} {sg : Int} {r : Quantity × Int} (h : (facT s q sg).2.1 = 0) (h2 : (facT s q sg).2.2 = 42 :: t) (h3 : PR t (facT s q sg).1 1 r) : PR s q sg r
 | div {s t : Str} {q : Quantity} {sg : Int} {r : Quantity × Int} (h : (facT s q sg).2.1 = 0) (h2 : (facT s q sg).2.2 = 47 :: t) (h3 : PR t (facT s q sg).1 (-1) r) : PR s q sg r
 | bad {s t : Str} {q : Quantity} {sg : Int} {c : UInt8} (h : (facT s q sg).2.1 = 0) (h2 : (facT s q sg).2.2 = c :: t) (h3 : c ≠ 42) (h4 : c ≠ 47) : PR s q sg (zQ, 280)
theorem PR.one {s : Str} {q : Quantity} {sg : Int} {r r' : Quantity × Int} (h : PR s q sg r) (h' : PR s q sg r') : r = r' := by
 induction h with
 | err h => cases h' with
  | err _ => rfl
  | fin h1 => exact absurd h1 h
  | mul h1 => exact absurd h1 h
  | div h1 => exact absurd h1 h
  | bad h1 => exact absurd h1 h
 | fin h h2 => cases h' with
  | err h1 => exact absurd h h1
  | fin _ _ => rfl
  | mul _ h1 => rw [h2] at h1; cases h1
  | div _ h1 => rw [h2] at h1; cases h1
  | bad _ h1 => rw [h2] at h1; cases h1
 | mul h h2 h3 ih => cases h' with
  | err h1 => exact absurd h h1
  | fin _ h1 => rw [h2] at h1; cases h1
  | mul _ h1 h4 => rw [h2] at h1; cases h1; exact ih h4
  | div _ h1 => rw [h2] at h1; cases h1
  | bad _ h1 h4 => rw [h2] at h1; cases h1; exact absurd rfl h4
 | div h h2 h3 ih => cases h' with
  | err h1 => exact absurd h h1
  | fin _ h1 => rw [h2] at h1; cases h1
  | mul _ h1 => rw [h2] at h1; cases h1
  | div _ h1 h4 => rw [h2] at h1; cases h1; exact ih h4
  | bad _ h1 h4 h5 => rw [h2] at h1; cases h1; exact absurd rfl h5
 | bad h h2 h3 h4 => cases h' with
  | err h1 => exact absurd h h1
  | fin _ h1 => rw [h2] at h1; cases h1
  | mul _ h1 => rw [h2] at h1; cases h1; exact absurd rfl h3
  | div _ h1 => rw [h2] at h1; cases h1; exact absurd rfl h4
  | bad _ _ => rfl
theorem facT_no {s : Str} {q : Quantity} {sg : Int} (h : s.take (nmL s) = []) : facT s q sg = (zQ, 280, []) := if_pos h
theorem facT_un {s : Str} {q : Quantity} {sg : Int} (h : s.take (nmL s) ≠ []) (h1 : nameOf (s.take (nmL s)) = none) : facT s q sg = (zQ, 5, []) := by unfold facT; rw [if_neg h, h1]
theorem facT_ex {s : Str} {q : Quantity} {sg : Int} {x : Named} (h : s.take (nmL s) ≠ []) (h1 : nameOf (s.take (nmL s)) = some x) (h2 : (exS (s.drop (nmL s))).2.1 ≠ 0) : facT s q sg = (zQ, 280, []) := by unfold facT; rw [if_neg h, h1]; exact if_pos h2
theorem facT_er {s : Str} {q : Quantity} {sg : Int} {x : Named} (h : s.take (nmL s) ≠ []) (h1 : nameOf (s.take (nmL s)) = some x) (h2 : (exS (s.drop (nmL s))).2.1 = 0) (h3 : (facS q x (sg * (exS (s.drop (nmL s))).1)).2 ≠ 0) : facT s q sg = (zQ, (facS q x (sg * (exS (s.drop (nmL s))).1)).2, []) := by
 unfold facT; rw [if_neg h, h1]; dsimp only; rw [if_neg (fun e => e h2), if_pos h3]
theorem facT_ok {s : Str} {q : Quantity} {sg : Int} {x : Named} (h : s.take (nmL s) ≠ []) (h1 : nameOf (s.take (nmL s)) = some x) (h2 : (exS (s.drop (nmL s))).2.1 = 0) (h3 : (facS q x (sg * (exS (s.drop (nmL s))).1)).2 = 0) : facT s q sg = ((facS q x (sg * (exS (s.drop (nmL s))).1)).1, 0, (exS (s.drop (nmL s))).2.2) := by
 unfold facT; rw [if_neg h, h1]; dsimp only; rw [if_neg (fun e => e h2), if_neg (fun e => e h3)]
theorem facS_in {q : Quantity} {x : Named} {n : Int} (hx : nmOk x = true) (hq : inF q.V) (h : (facS q x n).2 = 0) : inF (facS q x n).1.V ∧ vU (facS q x n).1.U = true := by
 by_cases hc : (cmb q.U x.unit n).2 = 0
 ·rw [facS_ok hc] at h ⊢
  unfold quF at h ⊢
  split at h
  ·next h1 =>
   rw [if_pos h1]
   refine ⟨itF_in hq _, ?_⟩
   show vU (cmb q.U x.unit n).1 = true
   cases a1 : vU q.U
   ·rw [cmb_bad1 a1] at hc; simp at hc
   cases a2 : sm n
   ·rw [cmb_bad3 a2] at hc; simp at hc
   have hc2 := cmb_ok a1 (nmOk_iff hx).2.1 a2
   cases a3 : vU (cmU q.U x.unit n)
   ·rw [a3, if_neg (by decide)] at hc2; rw [hc2] at hc; simp at hc
   ·rw [a3, if_pos rfl] at hc2; rw [hc2]; exact a3
  ·simp at h
 ·rw [facS_err hc] at h; exact absurd h hc
theorem facT_in {s : Str} {q : Quantity} {sg : Int} (hq : inF q.V) (h : (facT s q sg).2.1 = 0) : inF (facT s q sg).1.V ∧ vU (facT s q sg).1.U = true ∧ (facT s q sg).2.2.length < s.length := by
 by_cases h0 : s.take (nmL s) = []
 ·rw [facT_no h0] at h; simp at h
 cases h1 : nameOf (s.take (nmL s)) with
 | none => rw [facT_un h0 h1] at h; simp at h
 | some x =>
  by_cases h2 : (exS (s.drop (nmL s))).2.1 = 0
  ·by_cases h3 : (facS q x (sg * (exS (s.drop (nmL s))).1)).2 = 0
   ·rw [facT_ok h0 h1 h2 h3]
    have a := facS_in (names_ok _ (nameOf_mem h1)) hq h3
    refine ⟨a.1, a.2, ?_⟩
    have b := exS_len (s.drop (nmL s))
    have c : 1 ≤ nmL s := by
     by_cases e : nmL s = 0
     ·rw [e] at h0; exact absurd rfl h0
     ·omega
    have d := nmL_le s
    rw [List.length_drop] at b
    show (exS (s.drop (nmL s))).2.2.length < s.length
    omega
   ·rw [facT_er h0 h1 h2 h3] at h; exact absurd h h3
  ·rw [facT_ex h0 h1 h2] at h; simp at h
theorem exS_er {s : Str} (h : (exS s).2.1 ≠ 0) : (exS s).2.1 = 280 := by
 unfold exS at h ⊢
 split at h
 ·next h0 =>
  rw [if_pos h0]
  split at h
  ·next h1 => rw [if_pos h1]
  ·simp at h
 ·simp at h
theorem factor_f {s : Str} {q : Quantity} {sg : Int} (hs : s.length ≤ 10000) (hq : inF q.V) (hsg : sg = 1 ∨ sg = -1) :
  Yld (unit_reader_factor_S FF s q sg) fun o => o.1 = (facT s q sg).2.1 ∧ ((facT s q sg).2.1 = 0 → o = (0, (facT s q sg).2.2, (facT s q sg).1, sg)) := by
 unfold unit_reader_factor_S
 refine Yld.bindE (name_f hs) ?_
 by_cases h0 : s.take (nmL s) = []
 ·rw [facT_no h0]
  exact Yld.ift (decide_eq_true h0) (Yld.some ⟨rfl, fun e => by simp at e⟩)
 refine Yld.iff (decide_eq_false h0) ?_
 have hlen : (s.drop (nmL s)).length ≤ 10000 := by rw [List.length_drop]; omega
 refine Yld.bind (P := fun o => match nameOf (s.take (nmL s)) with
  | none => o = .inl ()
  | some x => ∃ p : Int × Str × Quantity × Int, o = .inr p ∧ p.1 = (facT s q sg).2.1 ∧ ((facT s q sg).2.1 = 0 → p = (0, (facT s q sg).2.2, (facT s q sg).1, sg))) ?_ ?_
 ·refine Yld.rounds 23 (fun k (i : Int) => i = (k : Int) ∧ (unitNames.drop k).find? (fun x => decide (x.name = s.take (nmL s))) = nameOf (s.take (nmL s))) (by have := FF1; omega) ⟨rfl, rfl⟩ ?_
  rintro k _ hk ⟨rfl, hf⟩
  by_cases h : k < 23
  ·have hl : k < unitNames.length := h
   rw [List.drop_eq_getElem_cons hl, List.find?_cons] at hf
   have hi : idx? unitNames (k : Int) = some unitNames[k] := by
    rw [idx?_eq (by omega) (by omega)]
    simp [idx, List.getD, hl]
   have hm : unitNames[k] ∈ unitNames := List.getElem_mem hl
   generalize unitNames[k] = x at hf hi hm
   refine Yld.ift (decide_eq_true (by omega)) ?_
   have hx := names_ok x hm
   by_cases e : x.name = s.take (nmL s)
   ·rw [decide_eq_true e] at hf
    have h1 : nameOf (s.take (nmL s)) = some x := hf.symm
    rw [h1]
    refine Yld.bind (P := fun o => ∃ p : Int × Str × Quantity × Int, o = .inr p ∧ p.1 = (facT s q sg).2.1 ∧ ((facT s q sg).2.1 = 0 → p = (0, (facT s q sg).2.2, (facT s q sg).1, sg))) ?_ ?_
    ·refine Yld.bindE hi (Yld.iff (decide_eq_false fun y => y e) (Yld.bindE (exponent_f hlen) ?_))
     by_cases h2 : (exS (s.drop (nmL s))).2.1 = 0
     ·have hr := exS_rng _ h2
      have hn : -16 ≤ sg * (exS (s.drop (nmL s))).1 ∧ sg * (exS (s.drop (nmL s))).1 ≤ 16 := by rcases hsg with rfl | rfl <;> omega
      have hab : (sg * (exS (s.drop (nmL s))).1).natAbs = ((exS (s.drop (nmL s))).1).natAbs := by rcases hsg with rfl | rfl <;> omega
      refine Yld.iff (decide_eq_false fun y => y h2) ?_
      rw [wi64' (z := sg * (exS (s.drop (nmL s))).1) (by omega) (by omega)]
      refine Yld.bindE (combine_u _ _ _) ?_
      by_cases h3 : (cmb q.U x.unit (sg * (exS (s.drop (nmL s))).1)).2 = 0
      ·refine Yld.iff (decide_eq_false fun y => y h3) ?_
       refine Yld.bind (P := fun c => c = if decide (sg * (exS (s.drop (nmL s))).1 < 0) = true then 21 else 25) (Yld.ite (fun y => Yld.some (by rw [if_pos y])) (fun y => Yld.some (by rw [if_neg (by rw [y]; decide)]))) ?_
       intro c hc
       refine Yld.bindE (pow_loop hx hq hr hc) (Yld.bindE (Good_f (itF_in hq _)) ?_)
       have hfs := facS_ok h3
       rw [hab] at hfs
       unfold quF at hfs
       cases h4 : (qF (itF (frN x) (decide (sg * (exS (s.drop (nmL s))).1 < 0)) q.V ((exS (s.drop (nmL s))).1).natAbs)).isSome
       ·rw [h4, if_neg (by decide)] at hfs
        refine Yld.ift rfl (Yld.some ⟨_, rfl, ?_⟩)
        rw [facT_er h0 h1 h2 (by rw [hfs]; decide), hfs]
        exact ⟨rfl, fun y => by simp at y⟩
       ·rw [h4, if_pos rfl] at hfs
        refine Yld.iff rfl (Yld.some ⟨_, rfl, ?_⟩)
        rw [facT_ok h0 h1 h2 (by rw [hfs]), hfs]
        exact ⟨rfl, fun _ => rfl⟩
      ·refine Yld.ift (decide_eq_true h3) (Yld.some ⟨_, rfl, ?_⟩)
       have hfs := facS_err h3
       rw [facT_er h0 h1 h2 (by rw [hfs]; exact h3), hfs]
       exact ⟨rfl, fun y => absurd y h3⟩
     ·refine Yld.ift (decide_eq_true h2) (Yld.some ⟨_, rfl, ?_⟩)
      rw [facT_ex h0 h1 h2]
      exact ⟨exS_er h2, fun y => by simp at y⟩
    ·rintro _ ⟨p, rfl, hp⟩
     exact Yld.some (.inr ⟨_, rfl, p, rfl, hp⟩)
   ·rw [decide_eq_false e] at hf
    refine Yld.bindE (Yld.eq (Yld.bindE hi (Yld.ift (decide_eq_true e) (Yld.some rfl)))) (Yld.some (.inl ⟨_, rfl, ⟨?_, hf⟩, h⟩))
    rw [wi64' (by omega) (by omega)]; rfl
  ·obtain rfl : k = 23 := by omega
   have e : nameOf (s.take (nmL s)) = none := hf.symm
   rw [e]
   exact Yld.iff (decide_eq_false (by omega)) (Yld.some (.inr ⟨_, rfl, rfl⟩))
 ·intro o ho
  cases h1 : nameOf (s.take (nmL s)) with
  | none =>
   rw [h1] at ho
   subst ho
   rw [facT_un h0 h1]
   exact Yld.some ⟨rfl, fun y => by simp at y⟩
  | some x =>
   rw [h1] at ho
   obtain ⟨p, rfl, hp⟩ := ho
   exact Yld.some hp
noncomputable def q1 : Quantity := ⟨mk ((1 : Int) : Rat), zU⟩
theorem Parse_p {s : Str} : Yld (unit_Parse_S FF s) fun r => if 100 < s.length then r = (zQ, 2) else PR s q1 1 r := by
 unfold unit_Parse_S
 by_cases h : 100 < s.length
 ·exact Yld.mono (P := fun r => r = (zQ, 2)) (Yld.ift (decide_eq_true (by omega)) (Yld.ln (Yld.some rfl))) fun r hr => by rw [if_pos h]; exact hr
 refine Yld.mono (P := fun r => PR s q1 1 r) ?_ fun r hr => by rw [if_neg h]; exact hr
 refine Yld.iff (decide_eq_false (by omega)) (Yld.bindE Of_1 (Yld.ln (Yld.bind (P := fun r => PR s q1 1 r) ?_ (fun o ho => Yld.some ho))))
 refine Yld.loop (fun st : Reader => st.s.length ≤ 100 ∧ inF st.q.V ∧ (st.sign = 1 ∨ st.sign = -1) ∧ ∀ r, PR st.s st.q st.sign r → PR s q1 1 r) (fun st => st.s.length) ⟨by dsimp only; omega, mk_in _, .inl rfl, fun r hr => hr⟩ (by have := FF2; dsimp only; omega) ?_
 rintro ⟨t, q, sg⟩ ⟨hl, hq, hsg, hpr⟩
 dsimp only at hl hq hsg hpr ⊢
 refine Yld.bind (factor_f (by omega) hq hsg) ?_
 rintro ⟨e, t', q', sg'⟩ ⟨he, ho⟩
 dsimp only at he
 subst he
 by_cases h1 : (facT t q sg).2.1 = 0
 ·obtain ⟨_, e1, e2, e3⟩ : _ ∧ _ ∧ _ ∧ _ := by simpa using ho h1
  obtain ⟨i1, i2, i3⟩ := facT_in hq h1
  subst e1; subst e2
  refine Yld.iff (decide_eq_false fun y => y h1) ?_
  cases h2 : (facT t q sg).2.2 with
  | nil => exact Yld.ift rfl (Yld.some (.inr ⟨_, rfl, hpr _ (.fin h1 h2)⟩))
  | cons c t2 =>
   rw [h2] at i3
   have hd : drop? (c :: t2) 1 = some t2 := by
    unfold drop?
    rw [if_pos ⟨by decide, by simp; omega⟩]; rfl
   have l2 : t2.length < t.length := by simp at i3; omega
   refine Yld.iff rfl (Yld.bindE (show idx? (c :: t2) 0 = some c from idx?_eq (by decide) (by simp)) ?_)
   by_cases h3 : c = 42
   ·refine Yld.ift (decide_eq_true (by rw [h3]; rfl)) (Yld.bindE rfl (Yld.bindE hd (Yld.some (.inl ⟨_, rfl, ⟨?_, i1, .inl rfl, fun r hr => hpr _ (.mul h1 (by rw [h2, h3]) hr)⟩, l2⟩))))
    dsimp only; omega
   ·refine Yld.iff (decide_eq_false (p := (c.toNat : Int) = 42) fun y => h3 ((u8eq (k := 42) (by decide)).1 y)) ?_
    by_cases h4 : c = 47
    ·refine Yld.ift (decide_eq_true (by rw [h4]; rfl)) (Yld.bindE rfl (Yld.bindE hd (Yld.some (.inl ⟨_, rfl, ⟨?_, i1, .inr rfl, fun r hr => hpr _ (.div h1 (by rw [h2, h4]) hr)⟩, l2⟩))))
     dsimp only; omega
    ·exact Yld.iff (decide_eq_false (p := (c.toNat : Int) = 47) fun y => h4 ((u8eq (k := 47) (by decide)).1 y)) (Yld.ln (Yld.some (.inr ⟨_, rfl, hpr _ (.bad h1 h2 h3 h4)⟩)))
 ·exact Yld.ift (decide_eq_true h1) (Yld.ln (Yld.some (.inr ⟨_, rfl, hpr _ (.err h1)⟩)))
end Go.Proofs.YtcbbilehdaaffaaGreatDoor

namespace Go.Proofs.YtcbbilehdaaffaaGreatDoor
open Go Go.Sk
set_option linter.unusedSimpArgs false
set_option linter.unusedVariables false
theorem PR.unit {s : Str} {q : Quantity} {sg : Int} {r : Quantity × Int} (hq : inF q.V) (h : PR s q sg r) : r.2 = 0 → inF r.1.V ∧ vU r.1.U = true := by
 induction h with
 | err h => intro e; exact absurd e h
 | fin h h2 => intro _; exact ⟨(facT_in hq h).1, (facT_in hq h).2.1⟩
 | mul h h2 h3 ih => exact ih (facT_in hq h).1
 | div h h2 h3 ih => exact ih (facT_in hq h).1
 | bad h => intro e; simp at e
end Go.Proofs.YtcbbilehdaaffaaGreatDoor

namespace Go.Proofs.YtcbbilehdaaffaaGreatDoor
open Go Go.Sk
set_option linter.unusedSimpArgs false
set_option linter.unusedVariables false
theorem txB_big {a : Int} (h : InM a) : txB (big a) = Lib.itoa a := by unfold txB; rw [iv_big h]
theorem txF_one {r : Rat} (hf : fits r) (h1 : (r.den : Int) = 1) : txF (mk r) = Lib.itoa r.num := by
 have t1 : txB (big r.num) = Lib.itoa r.num := txB_big hf.1
 unfold txF
 rw [qF_mk hf, if_pos (show (some r).isSome = true from rfl), mk_N, mk_D, if_pos (congrArg big h1), t1]
theorem index_none {c : UInt8} : ∀ {a : Str}, (∀ x ∈ a, x ≠ c) → Lib.index a [c] = -1
 | [], _ => rfl
 | b :: a, h => by
  unfold Lib.index
  have hb : ([c] : Str).isPrefixOf (b :: a) = false := by
   have := h b (by simp)
   simp [List.isPrefixOf, Ne.symm this]
  rw [hb, index_none fun x hx => h x (by simp [hx])]; rfl
theorem index_at {c : UInt8} : ∀ {a b : Str}, (∀ x ∈ a, x ≠ c) → Lib.index (a ++ c :: b) [c] = a.length
 | [], b, _ => by
  show Lib.index (c :: b) [c] = 0
  unfold Lib.index
  rw [if_pos (by simp [List.isPrefixOf])]
 | d :: a, b, h => by
  show Lib.index (d :: (a ++ c :: b)) [c] = _
  unfold Lib.index
  have hb : ([c] : Str).isPrefixOf (d :: (a ++ c :: b)) = false := by
   have := h d (by simp)
   simp [List.isPrefixOf, Ne.symm this]
  have ih := index_at (a := a) (b := b) fun x hx => h x (by simp [hx])
  rw [hb, ih, if_neg (by simp), if_neg (by rw [beq_iff_eq]; omega)]
  rw [List.length_cons]; omega
theorem cut_none {c : UInt8} {a : Str} (h : ∀ x ∈ a, x ≠ c) (hl : a.length ≤ 100000) : strings_Cut_S FF a [c] = some (a, [], false) := by
 unfold strings_Cut_S cut? Lib.cut
 rw [if_pos (by omega), index_none h]; rfl
theorem cut_at {c : UInt8} {a b : Str} (h : ∀ x ∈ a, x ≠ c) (hl : a.length + b.length ≤ 100000) : strings_Cut_S FF (a ++ c :: b) [c] = some (a, b, true) := by
 unfold strings_Cut_S cut? Lib.cut
 rw [if_pos (by rw [List.length_append, List.length_cons]; omega), index_at h, if_pos (by omega), Int.toNat_natCast]
 have e1 : (a ++ c :: b).take a.length = a := by simp
 have e2 : (a ++ c :: b).drop (a.length + ([c] : Str).length) = b := by
  rw [← List.drop_drop, List.drop_left]; rfl
 rw [e1, e2]
def PX (s : Str) (r : Quantity × Int) : Prop := if 100 < s.length then r = (zQ, 2) else PR s q1 1 r
theorem PX.one {s : Str} {r r' : Quantity × Int} (h : PX s r) (h' : PX s r') : r = r' := by
 unfold PX at h h'
 split at h
 ·next h1 => rw [if_pos h1] at h'; rw [h, h']
 ·next h1 => rw [if_neg h1] at h'; exact PR.one h h'
theorem PX.unit {s : Str} {r : Quantity × Int} (h : PX s r) (e : r.2 = 0) : inF r.1.V ∧ vU r.1.U = true := by
 unfold PX at h
 split at h
 ·rw [h] at e; simp at e
 ·exact PR.unit (mk_in _) h e
noncomputable def rdQ (x : Frc) (r : Quantity × Int) : Quantity × Int := if r.2 ≠ 0 then (zQ, r.2) else doQ mulF mulU ⟨x, zU⟩ r.1
theorem rdQ_er {x : Frc} {r : Quantity × Int} (h : r.2 ≠ 0) : rdQ x r = (zQ, r.2) := if_pos h
theorem rdQ_ok {x : Frc} {r : Quantity × Int} (h : r.2 = 0) : rdQ x r = doQ mulF mulU ⟨x, zU⟩ r.1 := if_neg fun y => y h
theorem cmb_z {u : MUnit} (h : vU u = true) : cmb zU u 1 = (u, 0) := by
 have e : cmU zU u 1 = u := by simp [cmU, zU]
 rw [cmb_ok vU_z h (by decide), e, if_pos h]
theorem doQ_z {x y : Frc} {u : MUnit} (hx : (qF x).isSome = true) (hy : (qF y).isSome = true) (hu : vU u = true) : doQ mulF mulU ⟨x, zU⟩ ⟨y, u⟩ = quF (mulF x y) u := by
 have h1 : rt ⟨x, zU⟩ = true := by unfold rt; rw [hx, vU_z]; rfl
 have h2 : rt ⟨y, u⟩ = true := by unfold rt; rw [hy, hu]; rfl
 have e : mulU zU u = (u, 0) := cmb_z hu
 rw [doQ_ok (by rw [h1, h2]; rfl) (by rw [e]), e]
end Go.Proofs.YtcbbilehdaaffaaGreatDoor

namespace Go.Proofs.YtcbbilehdaaffaaGreatDoor
open Go Go.Sk
set_option linter.unusedSimpArgs false
set_option linter.unusedVariables false
def szK (r : Rat) (k : Nat) : Prop := r.num.natAbs < 2 ^ k ∧ r.den < 2 ^ k
theorem pow_up {k j : Nat} (h : k ≤ j) : (2 : Nat) ^ k ≤ 2 ^ j := Nat.pow_le_pow_right (by decide) h
theorem MM500 : ((2 ^ 500 : Nat) : Int) < MM := by rw [MM_eq]; decide +kernel
theorem pow_MM : ∀ k : Nat, k ≤ 500 → ((2 ^ k : Nat) : Int) < MM := fun k hk => Int.lt_of_le_of_lt (Int.ofNat_le.2 (pow_up hk)) MM500
theorem sz_fits {r : Rat} {k : Nat} (h : szK r k) (hk : k ≤ 500) : fits r := by
 have h1 := pow_MM k hk
 obtain ⟨a, b⟩ := h
 refine ⟨⟨?_, ?_⟩, ⟨?_, ?_⟩⟩ <;> omega
theorem divInt_sz {n d : Int} {k : Nat} (h : d ≠ 0) (hn : n.natAbs < 2 ^ k) (hd : d.natAbs < 2 ^ k) : szK (Rat.divInt n d) k := by
 obtain ⟨g0, g1, g2⟩ := red (n := n) h
 have e1 := congrArg Int.natAbs g1
 have e2 := congrArg Int.natAbs g2
 rw [Int.natAbs_mul] at e1 e2
 have gp : 1 ≤ (gcdS n d).natAbs := by omega
 have b1 : (Rat.divInt n d).num.natAbs ≤ n.natAbs := by rw [← e1]; exact Nat.le_mul_of_pos_right _ (by omega)
 have b2 : (Rat.divInt n d).den ≤ d.natAbs := by
  rw [← e2, Int.natAbs_natCast]; exact Nat.le_mul_of_pos_right _ (by omega)
 exact ⟨by omega, by omega⟩
theorem add_q (r s : Rat) : r + s = Rat.divInt (r.num * s.den + s.num * r.den) (r.den * s.den) := by
 rw [← Rat.num_divInt_den r, ← Rat.num_divInt_den s, Rat.divInt_add_divInt _ _ (by have := r.den_nz; omega) (by have := s.den_nz; omega), Rat.num_divInt_den, Rat.num_divInt_den]
theorem pow_mul_lt {a b i j : Nat} (h1 : a < 2 ^ i) (h2 : b < 2 ^ j) : a * b < 2 ^ (i + j) := by
 rw [Nat.pow_add]
 exact Nat.mul_lt_mul'' h1 h2
theorem sz_add {r s : Rat} {i j : Nat} (h1 : szK r i) (h2 : szK s j) : szK (r + s) (i + j + 1) := by
 rw [add_q]
 have a := pow_mul_lt h1.1 h2.2
 have b := pow_mul_lt h2.1 h1.2
 have c := pow_mul_lt h1.2 h2.2
 rw [Nat.add_comm j i] at b
 have p : 2 ^ (i + j + 1) = 2 ^ (i + j) * 2 := Nat.pow_succ ..
 refine divInt_sz ?_ ?_ ?_
 ·have := r.den_nz
  have := s.den_nz
  exact Int.mul_ne_zero (by omega) (by omega)
 ·have e1 : (r.num * (s.den : Int)).natAbs = r.num.natAbs * s.den := by rw [Int.natAbs_mul, Int.natAbs_natCast]
  have e2 : (s.num * (r.den : Int)).natAbs = s.num.natAbs * r.den := by rw [Int.natAbs_mul, Int.natAbs_natCast]
  have := Int.natAbs_add_le (r.num * (s.den : Int)) (s.num * (r.den : Int))
  omega
 ·rw [Int.natAbs_mul, Int.natAbs_natCast, Int.natAbs_natCast]; omega
theorem mul_q (r s : Rat) : r * s = Rat.divInt (r.num * s.num) (r.den * s.den) := by
 rw [← Rat.num_divInt_den r, ← Rat.num_divInt_den s, Rat.divInt_mul_divInt, Rat.num_divInt_den, Rat.num_divInt_den]
theorem sz_mul {r s : Rat} {i j : Nat} (h1 : szK r i) (h2 : szK s j) : szK (r * s) (i + j) := by
 rw [mul_q]
 refine divInt_sz ?_ ?_ ?_
 ·have := r.den_nz
  have := s.den_nz
  exact Int.mul_ne_zero (by omega) (by omega)
 ·rw [Int.natAbs_mul]; exact pow_mul_lt h1.1 h2.1
 ·rw [Int.natAbs_mul, Int.natAbs_natCast, Int.natAbs_natCast]; exact pow_mul_lt h1.2 h2.2
theorem sz_InM {z : Int} {k : Nat} (h : z.natAbs < 2 ^ k) (hk : k ≤ 500) : InM z := by
 have := pow_MM k hk
 constructor <;> omega
theorem addR_sz {r s : Rat} {i j : Nat} (h1 : szK r i) (h2 : szK s j) (hk : i + j + 1 ≤ 500) : addR r s = mk (r + s) := by
 have a1 := qd_pos r s
 have a2 := qd_le r s
 have b1 := qd_pos s r
 have b2 := qd_le s r
 have q1 : (qd r s).natAbs < 2 ^ i := by have := h1.2; omega
 have q2 : (qd s r).natAbs < 2 ^ j := by have := h2.2; omega
 have m1 : (r.num * qd s r).natAbs < 2 ^ (i + j) := by rw [Int.natAbs_mul]; exact pow_mul_lt h1.1 q2
 have m2 : (s.num * qd r s).natAbs < 2 ^ (i + j) := by rw [Int.natAbs_mul, Nat.add_comm]; exact pow_mul_lt h2.1 q1
 have m3 : (qd r s * s.den).natAbs < 2 ^ (i + j) := by rw [Int.natAbs_mul, Int.natAbs_natCast]; exact pow_mul_lt q1 h2.2
 have p : 2 ^ (i + j + 1) = 2 ^ (i + j) * 2 := Nat.pow_succ ..
 have m4 : (r.num * qd s r + s.num * qd r s).natAbs < 2 ^ (i + j + 1) := by
  have := Int.natAbs_add_le (r.num * qd s r) (s.num * qd r s)
  omega
 rw [addR_ok (sz_InM m1 (by omega)) (sz_InM m2 (by omega)) (sz_InM m4 hk) (sz_InM m3 (by omega)), ofR_fits (sz_fits (sz_add h1 h2) hk)]
theorem mulR_sz {r s : Rat} {i j : Nat} (h1 : szK r i) (h2 : szK s j) (hk : i + j ≤ 500) : mulR r s = mk (r * s) := by
 unfold mulR; rw [ofR_fits (sz_fits (sz_mul h1 h2) hk)]
end Go.Proofs.YtcbbilehdaaffaaGreatDoor

namespace Go.Proofs.YtcbbilehdaaffaaGreatDoor
open Go Go.Sk
set_option linter.unusedSimpArgs false
set_option linter.unusedVariables false
theorem sz_int {z : Int} {k : Nat} (h : z.natAbs < 2 ^ k) (hk : 1 ≤ k := by decide) : szK (z : Rat) k := ⟨h, by
 have := Nat.pow_le_pow_right (n := 2) (by decide) hk
 show (1 : Nat) < 2 ^ k
 omega⟩
theorem mulF_mk {r s : Rat} {i j : Nat} (h1 : szK r i) (h2 : szK s j) (hk : i + j ≤ 500) : mulF (mk r) (mk s) = mk (r * s) := by
 rw [show mulF (mk r) (mk s) = mulR r s from bi_some (qF_mk (sz_fits h1 (by omega))) (qF_mk (sz_fits h2 (by omega))), mulR_sz h1 h2 hk]
theorem addF_mk {r s : Rat} {i j : Nat} (h1 : szK r i) (h2 : szK s j) (hk : i + j + 1 ≤ 500) : addF (mk r) (mk s) = mk (r + s) := by
 rw [show addF (mk r) (mk s) = addR r s from bi_some (qF_mk (sz_fits h1 (by omega))) (qF_mk (sz_fits h2 (by omega))), addR_sz h1 h2 hk]
theorem divF_int {a b : Int} {k : Nat} (ha : a.natAbs < 2 ^ k) (hb : b.natAbs < 2 ^ k) (h0 : b ≠ 0) (hk : k ≤ 500) (h1 : 1 ≤ k := by decide) : divF (mk (a : Rat)) (mk (b : Rat)) = mk (Rat.divInt a b) ∧ szK (Rat.divInt a b) k := by
 have hs := divInt_sz h0 ha hb
 refine ⟨?_, hs⟩
 rw [show divF (mk (a : Rat)) (mk (b : Rat)) = divR (a : Rat) (b : Rat) from bi_some (qF_mk (sz_fits (sz_int ha h1) hk)) (qF_mk (sz_fits (sz_int hb h1) hk))]
 unfold divR
 rw [if_neg (show ((b : Rat)).num ≠ 0 from h0), ← Rat.divInt_eq_div, ofR_fits (sz_fits hs hk)]
def dN (a : Int) (l : Str) : Int := l.foldl (fun n c => n * 10 + dV c) a
theorem dN_nil (a : Int) : dN a [] = a := rfl
theorem dN_cons (a : Int) (c : UInt8) (l : Str) : dN a (c :: l) = dN (a * 10 + dV c) l := rfl
theorem dN_app (a : Int) (l m : Str) : dN a (l ++ m) = dN (dN a l) m := by simp [dN]
theorem dN_rng {l : Str} : ∀ {a : Int}, 0 ≤ a → (∀ c ∈ l, isD c = true) → 0 ≤ dN a l ∧ dN a l < (a + 1) * 10 ^ l.length := by
 induction l with
 | nil => intro a h _; simp [dN_nil]; omega
 | cons c l ih =>
  intro a h hd
  have hc := isD_rng (hd c (by simp))
  have := ih (a := a * 10 + dV c) (by omega) fun x hx => hd x (by simp [hx])
  rw [dN_cons]
  refine ⟨this.1, Int.lt_of_lt_of_le this.2 ?_⟩
  rw [List.length_cons, Int.pow_succ, show (a + 1) * (10 ^ l.length * 10) = ((a + 1) * 10) * (10 : Int) ^ l.length by rw [Int.mul_comm ((10 : Int) ^ l.length) 10, Int.mul_assoc]]
  exact Int.mul_le_mul_of_nonneg_right (by omega) (Int.le_of_lt (Int.pow_pos (by decide)))
theorem dN_dv {l : Str} : ∀ {a : Nat}, (∀ c ∈ l, isD c = true) → dN (a : Int) l = ((l.foldl (fun acc c => 10 * acc + (c.toNat - 48)) a : Nat) : Int) := by
 induction l with
 | nil => intro a _; rfl
 | cons c l ih =>
  intro a hd
  have hc := isD_rng (hd c (by simp))
  unfold dV at hc
  rw [dN_cons, List.foldl_cons, ← ih fun x hx => hd x (by simp [hx])]
  congr 1
  unfold dV; omega
theorem isD_dig {c : UInt8} (h : isDig c) : isD c = true := by unfold isDig at h; simp [isD, h.1, h.2]
theorem dd_isD (u : Nat) : ∀ c ∈ Lib.decDigits u, isD c = true := fun c hc => isD_dig (dd_dig u c hc)
theorem dN_dd (u : Nat) : dN 0 (Lib.decDigits u) = (u : Int) := by
 have := dN_dv (a := 0) (dd_isD u)
 rw [show ((0 : Nat) : Int) = 0 from rfl] at this
 rw [this]
 exact congrArg _ (dv_dd u)
theorem dN_zeros (a : Int) : ∀ k, dN a (List.replicate k 48) = a * 10 ^ k
 | 0 => by simp [dN_nil]
 | k + 1 => by
  rw [List.replicate_succ, dN_cons, show dV 48 = 0 by decide, dN_zeros _ k, Int.pow_succ]
  rw [Int.add_zero, Int.mul_assoc, Int.mul_comm 10]
theorem zeros_isD (k : Nat) : ∀ c ∈ List.replicate k (48 : UInt8), isD c = true := fun c hc => by rw [List.eq_of_mem_replicate hc]; decide
theorem ten_140 {k : Nat} (h : k ≤ 40) : (10 : Int) ^ k < 2 ^ 140 ∧ (0 : Int) < 10 ^ k := by
 have h1 : (10 : Nat) ^ k ≤ 10 ^ 40 := Nat.pow_le_pow_right (by decide) h
 have h2 : (10 : Nat) ^ 40 < 2 ^ 140 := by decide
 have h3 : 0 < (10 : Nat) ^ k := Nat.pow_pos (by decide)
 have e : ((10 : Nat) ^ k : Nat) = ((10 : Int) ^ k) := by simp
 have e2 : ((2 ^ 140 : Nat) : Int) = (2 : Int) ^ 140 := by decide
 omega
theorem int_140 {z : Int} (h : 0 ≤ z) (h2 : z < 2 ^ 140) : z.natAbs < 2 ^ 140 := by
 have e2 : ((2 ^ 140 : Nat) : Int) = (2 : Int) ^ 140 := by decide
 omega
def sgd (neg : Bool) (z : Int) : Int := if neg = true then -z else z
theorem decimal_f {fr be : Str} {neg : Bool} (hf : ∀ c ∈ fr, isD c = true) (hb : ∀ c ∈ be, isD c = true) (nf : fr ≠ []) (nb : be ≠ []) (hl : fr.length + be.length ≤ 40) :
  unit_decimal_S FF ((if neg = true then [45] else []) ++ fr) be = some (mk (Rat.divInt (sgd neg (dN 0 (fr ++ be))) (10 ^ be.length)), 0) := by
 have hT : ∀ c ∈ fr ++ be, isD c = true := fun c hc => (List.mem_append.1 hc).elim (hf c) (hb c)
 have hTl : (fr ++ be).length ≤ 40 := by rw [List.length_append]; omega
 refine Yld.eq ?_
 unfold unit_decimal_S
 refine Yld.bindE (x := (fr, neg)) ?_ ?_
 ·rw [cutPrefix_1]
  cases neg
  ·rw [if_neg]
   ·rfl
   ·cases fr with
    | nil => exact absurd rfl nf
    | cons c l =>
     intro h
     have hc := hf c (by simp)
     have : c = 45 := by simpa using h
     rw [this] at hc; exact absurd hc (by decide)
  ·rfl
 dsimp only [un2]
 refine Yld.g1 (by simp [nf, nb]) (Yld.app (by omega) (Yld.g1 (by simp [nf, nb]) (Yld.bindE (contains_f (by omega)) ?_)))
 have ep : pl isD (fr ++ be) = (fr ++ be).length := by
  have := pl_app (a := fr ++ be) (b := []) hT (fun c h => by cases h)
  rwa [List.append_nil] at this
 rw [ep, decide_eq_false (Nat.lt_irrefl _)]
 refine Yld.lnE false ?_ (Yld.iff rfl ?_)
 ·rw [wi64' (by omega) (by omega), decide_eq_false nf, decide_eq_false nb, decide_eq_false (show ¬ (40 : Int) < (fr.length : Int) + (be.length : Int) by omega)]; rfl
 refine Yld.bindE (Of_f (by decide)) (Yld.bindE (Of_f (by decide)) (Yld.bindE (Of_f (by decide)) ?_))
 refine Yld.bind (P := fun o => o = (mk ((dN 0 (fr ++ be) : Int) : Rat), mk (((10 : Int) ^ be.length : Int) : Rat))) ?_ ?_
 ·refine Yld.app (by omega) ?_
  refine Yld.rounds (fr ++ be).length (fun k (s : Frc × Frc × Nat) => s = (mk ((dN 0 ((fr ++ be).take k) : Int) : Rat), mk (((10 : Int) ^ (k - fr.length) : Int) : Rat), k)) (by have := FF2; omega) (by simp [dN_nil]) ?_
  rintro k ⟨x, sc, i⟩ hk hs
  obtain ⟨rfl, hs2⟩ := Prod.mk.inj hs
  obtain ⟨rfl, rfl⟩ := Prod.mk.inj hs2
  by_cases h : i < (fr ++ be).length
  ·have hc := hT (fr ++ be)[i] (List.getElem_mem h)
   have hd := isD_rng hc
   obtain ⟨e1, e2⟩ := rune_ascii h (isD_asc hc)
   have hn := dN_rng (a := 0) (by decide) (l := (fr ++ be).take i) fun c hc => hT c (List.mem_of_mem_take hc)
   have hlt : ((fr ++ be).take i).length ≤ 40 := by rw [List.length_take]; omega
   have b1 := (ten_140 hlt).1
   have s1 : szK ((dN 0 ((fr ++ be).take i) : Int) : Rat) 140 := sz_int (int_140 hn.1 (by omega))
   have s10 : szK ((10 : Int) : Rat) 4 := sz_int (by decide)
   have m1 : mulF (mk ((dN 0 ((fr ++ be).take i) : Int) : Rat)) (mk ((10 : Int) : Rat)) = mk ((dN 0 ((fr ++ be).take i) * 10 : Int) : Rat) := by
    rw [mulF_mk s1 s10 (by decide), Rat.intCast_mul]
   have s2 : szK ((dN 0 ((fr ++ be).take i) * 10 : Int) : Rat) 144 := by rw [Rat.intCast_mul]; exact sz_mul s1 s10
   have s3 : szK ((dV (fr ++ be)[i] : Int) : Rat) 4 := sz_int (by omega)
   refine Yld.ift (decide_eq_true h) (Yld.bindE (Mul_f (mk_in _) (mk_in _)) (Yld.lnE (dV (fr ++ be)[i]) ?_ ?_))
   ·rw [e1]
    unfold dV at hd ⊢
    exact wi32' (by omega) (by omega)
   rw [wi64' (z := dV (fr ++ be)[i]) (by omega) (by omega)]
   refine Yld.bindE (Of_f (by omega)) (Yld.bindE (Add_f (mulF_in _ _) (mk_in _)) ?_)
   have a1 : addF (mulF (mk ((dN 0 ((fr ++ be).take i) : Int) : Rat)) (mk ((10 : Int) : Rat))) (mk ((dV (fr ++ be)[i] : Int) : Rat)) = mk ((dN 0 ((fr ++ be).take (i + 1)) : Int) : Rat) := by
    rw [m1, addF_mk s2 s3 (by decide), List.take_succ_eq_append_getElem h, dN_app, ← Rat.intCast_add]; rfl
   dsimp only
   rw [show bi addR (bi mulR (mk ((dN 0 ((fr ++ be).take i) : Int) : Rat)) (mk ((10 : Int) : Rat))) (mk ((dV (fr ++ be)[i] : Int) : Rat)) = _ from a1, e2]
   by_cases hf2 : fr.length ≤ i
   ·have b2 := ten_140 (k := i - fr.length) (by omega)
    have s4 : szK ((((10 : Int) ^ (i - fr.length) : Int)) : Rat) 140 := sz_int (int_140 (Int.le_of_lt b2.2) b2.1)
    refine Yld.ift (decide_eq_true (by omega)) (Yld.bindE (Mul_f (mk_in _) (mk_in _)) (Yld.some (.inl ⟨_, rfl, ?_, h⟩)))
    rw [show bi mulR (mk (((10 : Int) ^ (i - fr.length) : Int) : Rat)) (mk ((10 : Int) : Rat)) = mk (((10 : Int) ^ (i + 1 - fr.length) : Int) : Rat) by
     rw [show bi mulR (mk (((10 : Int) ^ (i - fr.length) : Int) : Rat)) (mk ((10 : Int) : Rat)) = _ from mulF_mk s4 s10 (by decide), show i + 1 - fr.length = (i - fr.length) + 1 by omega, Int.pow_succ, Rat.intCast_mul]]
   ·refine Yld.iff (decide_eq_false (by omega)) (Yld.some (.inl ⟨_, rfl, ?_, h⟩))
    rw [show i - fr.length = 0 by omega, show i + 1 - fr.length = 0 by omega]
  ·obtain rfl : i = (fr ++ be).length := by omega
   refine Yld.iff (decide_eq_false h) (Yld.some (.inr ⟨_, rfl, ?_⟩))
   rw [List.take_length, List.length_append, show fr.length + be.length - fr.length = be.length by omega]
 ·rintro _ rfl
  have hn := dN_rng (a := 0) (by decide) hT
  have b1 := (ten_140 hTl).1
  have b2 := ten_140 (k := be.length) (by omega)
  have n1 := int_140 hn.1 (by omega)
  have n2 := int_140 (Int.le_of_lt b2.2) b2.1
  refine Yld.bind (P := fun o => o = mk ((sgd neg (dN 0 (fr ++ be)) : Int) : Rat)) ?_ ?_
  ·cases neg
   ·exact Yld.some rfl
   ·refine Yld.ift rfl (Yld.bindE (Neg_f (mk_in _)) (Yld.some ?_))
    have hf := sz_fits (sz_int n1) (by decide)
    rw [un_some (qF_mk hf), ofR_fits (neg_fits hf), ← Rat.intCast_neg]; rfl
  ·rintro _ rfl
   have hs : (sgd neg (dN 0 (fr ++ be))).natAbs < 2 ^ 140 := by unfold sgd; split <;> omega
   refine Yld.bindE (Div_f (mk_in _) (mk_in _)) (Yld.some ?_)
   rw [show bi divR (mk ((sgd neg (dN 0 (fr ++ be)) : Int) : Rat)) (mk (((10 : Int) ^ be.length : Int) : Rat)) = mk (Rat.divInt (sgd neg (dN 0 (fr ++ be))) (10 ^ be.length)) from (divF_int hs n2 (by omega) (by decide)).1]
end Go.Proofs.YtcbbilehdaaffaaGreatDoor

namespace Go.Proofs.YtcbbilehdaaffaaGreatDoor
open Go Go.Sk
set_option linter.unusedSimpArgs false
set_option linter.unusedVariables false
noncomputable abbrev oneF : Frc := mk ((1 : Int) : Rat)
theorem one_fits : fits ((1 : Int) : Rat) := int_fits (by decide)
theorem one_q : qF oneF = some ((1 : Int) : Rat) := qF_mk one_fits
theorem one_r : ((1 : Int) : Rat) = 1 := rfl
structure Nm (nm : Str) (x : Named) : Prop where
 name : nameOf nm = some x
 fr : x.n = 1 ∧ x.d = 1
 let' : nm.all isL = true
 ne : nm ≠ []
def Tl (t : Str) (U W : MUnit) : Prop := (t = [] ∧ U = W) ∨ (∃ s, t = 42 :: s ∧ PR s ⟨oneF, U⟩ 1 (⟨oneF, W⟩, 0)) ∨ (∃ s, t = 47 :: s ∧ PR s ⟨oneF, U⟩ (-1) (⟨oneF, W⟩, 0))
theorem step {s t : Str} {q : Quantity} {sg : Int} {U W : MUnit} (h : facT s q sg = (⟨oneF, U⟩, 0, t)) (hT : Tl t U W) : PR s q sg (⟨oneF, W⟩, 0) := by
 have h1 : (facT s q sg).2.1 = 0 := by rw [h]
 have h2 : (facT s q sg).2.2 = t := by rw [h]
 have h3 : (facT s q sg).1 = ⟨oneF, U⟩ := by rw [h]
 rcases hT with ⟨rfl, rfl⟩ | ⟨s, rfl, hp⟩ | ⟨s, rfl, hp⟩
 ·have := PR.fin h1 h2
  rwa [h3] at this
 ·rw [← h3] at hp; exact PR.mul h1 h2 hp
 ·rw [← h3] at hp; exact PR.div h1 h2 hp
def x0 : Named := ⟨nm0, 1, 1, ⟨1, 0, 0⟩⟩
def x1 : Named := ⟨nm1, 1, 1, ⟨0, 1, 0⟩⟩
def x2 : Named := ⟨nm2, 1, 1, ⟨0, 0, 1⟩⟩
theorem N1 : Nm nm1 x1 := ⟨by decide, ⟨rfl, rfl⟩, by decide, by decide⟩
theorem N2 : Nm nm2 x2 := ⟨by decide, ⟨rfl, rfl⟩, by decide, by decide⟩
end Go.Proofs.YtcbbilehdaaffaaGreatDoor

namespace Go.Proofs.YtcbbilehdaaffaaGreatDoor
open Go Go.Sk
set_option maxRecDepth 100000
theorem sanity_y : skewbacklaw11_sanity_S FF = some true := by
 unfold skewbacklaw11_sanity_S unit_Write_S q_Text_S w_Text_S unit_Print_S
 simp only [itoa_S_K]
 decide +kernel
end Go.Proofs.YtcbbilehdaaffaaGreatDoor

namespace Go.Proofs.YtcbbilehdaaffaaGreatDoor
open Go Go.Sk
set_option linter.unusedSimpArgs false
set_option linter.unusedVariables false
def dcT (neg : Bool) (fr be : Str) : Str := ((if neg = true then [45] else []) ++ fr) ++ 46 :: be
structure DcOk (fr be : Str) : Prop where
 f : ∀ c ∈ fr, isD c = true
 b : ∀ c ∈ be, isD c = true
 nf : fr ≠ []
 nb : be ≠ []
 l : fr.length + be.length ≤ 40
theorem dig_ne {c : UInt8} (h : isD c = true) : c ≠ 32 ∧ c ≠ 46 := by
 constructor <;> (rintro rfl; revert h; decide)
theorem sg_rng {neg : Bool} {fr : Str} (hf : ∀ c ∈ fr, isD c = true) : ∀ c ∈ (if neg = true then [45] else []) ++ fr, c ≠ 32 ∧ c ≠ 46 := fun c hc => by
 rcases List.mem_append.1 hc with h | h
 ·cases neg
  ·cases h
  ·obtain rfl : c = 45 := by simpa using h
   decide
 ·exact dig_ne (hf c h)
theorem dcT_rng {neg : Bool} {fr be : Str} (h : DcOk fr be) : ∀ c ∈ dcT neg fr be, c ≠ 32 := fun c hc => by
 unfold dcT at hc
 rcases List.mem_append.1 hc with h1 | h1
 ·exact (sg_rng h.f c h1).1
 ·rcases List.mem_cons.1 h1 with rfl | h1
  ·decide
  ·exact (dig_ne (h.b c h1)).1
theorem dcT_len {neg : Bool} {fr be : Str} (h : DcOk fr be) : (dcT neg fr be).length ≤ 50 := by
 have := h.l
 unfold dcT
 cases neg <;> simp <;> omega
noncomputable def dcV (neg : Bool) (fr be : Str) : Rat := Rat.divInt (sgd neg (dN 0 (fr ++ be))) (10 ^ be.length)
theorem Read_d1 {neg : Bool} {fr be : Str} (h : DcOk fr be) : unit_Read_S FF (dcT neg fr be) = some (⟨mk (dcV neg fr be), zU⟩, 0) := by
 have hl := h.l
 refine Yld.eq ?_
 unfold unit_Read_S
 refine Yld.bindE (cut_none (dcT_rng h) (by have := dcT_len (neg := neg) h; omega)) (Yld.ln (Yld.bindE (x := (mk (dcV neg fr be), 0)) (Yld.eq ?_) ?_))
 ·refine Yld.bindE (cut_at (fun c hc => (sg_rng h.f c hc).2) (by cases neg <;> simp <;> omega)) (Yld.ift rfl (Yld.bindE (decimal_f h.f h.b h.nf h.nb h.l) (Yld.some rfl)))
 ·exact Yld.iff rfl (Yld.ift rfl (Yld.some rfl))
theorem Read_d2 {neg : Bool} {fr be s : Str} (h : DcOk fr be) (hs : s.length ≤ 10000) : Yld (unit_Read_S FF (dcT neg fr be ++ 32 :: s)) fun o => ∃ r, PX s r ∧ o = rdQ (mk (dcV neg fr be)) r := by
 have hl := h.l
 unfold unit_Read_S
 refine Yld.bindE (cut_at (dcT_rng h) (by have := dcT_len (neg := neg) h; omega)) (Yld.ln (Yld.bindE (x := (mk (dcV neg fr be), 0)) (Yld.eq ?_) ?_))
 ·refine Yld.bindE (cut_at (fun c hc => (sg_rng h.f c hc).2) (by cases neg <;> simp <;> omega)) (Yld.ift rfl (Yld.bindE (decimal_f h.f h.b h.nf h.nb h.l) (Yld.some rfl)))
 ·refine Yld.iff rfl (Yld.iff rfl (Yld.bind (Parse_p (s := s)) ?_))
  intro q hq
  obtain ⟨q, e⟩ := q
  by_cases h0 : e = 0
  ·subst h0
   have hu := PX.unit hq rfl
   exact Yld.iff rfl (Yld.bindE (Times_q (mk_in _) hu.1) (Yld.some ⟨_, hq, (rdQ_ok rfl).symm⟩))
  ·exact Yld.ift (decide_eq_true h0) (Yld.ln (Yld.some ⟨_, hq, (rdQ_er h0).symm⟩))
noncomputable def mmF : Frc := mkB (big 1) (big 1000)
theorem mm_eq : mmF = mk (Rat.divInt 1 1000) ∧ szK (Rat.divInt 1 1000) 10 := by
 have hs : szK (Rat.divInt 1 1000) 10 := divInt_sz (by decide) (by decide) (by decide)
 refine ⟨?_, hs⟩
 unfold mmF
 rw [mkB_big (in64_M (by decide)) (in64_M (by decide)) (by decide), ofR_fits (sz_fits hs (by decide))]
theorem mul_1F {x : Frc} {r : Rat} (hx : inF x) (h : qF x = some r) : mulF oneF x = x := by
 obtain ⟨hf, e⟩ := qF_some hx h
 rw [show mulF oneF x = mulR ((1 : Int) : Rat) r from bi_some one_q h]
 unfold mulR
 rw [one_r, Rat.one_mul, ofR_fits hf, e]
theorem mm_px {r : Quantity × Int} (h : PX [109, 109] r) : r = (⟨mmF, ⟨1, 0, 0⟩⟩, 0) := by
 unfold PX at h
 rw [if_neg (by decide)] at h
 refine PR.one h ?_
 have hn : nameOf [109, 109] = some ⟨[109, 109], 1, 1000, ⟨1, 0, 0⟩⟩ := by decide
 have e1 : nmL [109, 109] = 2 := by decide
 have e2 : exS [] = (1, 0, []) := by decide
 have hc : cmb zU ⟨1, 0, 0⟩ (1 * 1) = (⟨1, 0, 0⟩, 0) := by decide
 have e3 : facS q1 ⟨[109, 109], 1, 1000, ⟨1, 0, 0⟩⟩ (1 * 1) = (⟨mmF, ⟨1, 0, 0⟩⟩, 0) := by
  have hq : qF mmF = some (Rat.divInt 1 1000) := by rw [mm_eq.1]; exact qF_mk (sz_fits mm_eq.2 (by decide))
  rw [facS_ok (by rw [show (q1.U) = zU from rfl, hc]), show (q1.U) = zU from rfl, hc]
  have ei : itF (frN ⟨[109, 109], 1, 1000, ⟨1, 0, 0⟩⟩) (decide ((1 : Int) * 1 < 0)) q1.V ((1 : Int) * 1).natAbs = mmF := by
   show (if decide ((1 : Int) * 1 < 0) = true then divF oneF mmF else mulF oneF mmF) = mmF
   rw [if_neg (by decide), mul_1F (x := mmF) (mkB_in _ _) hq]
  rw [ei]
  unfold quF
  rw [hq]; rfl
 have hT := facT_ok (s := [109, 109]) (q := q1) (sg := 1) (x := ⟨[109, 109], 1, 1000, ⟨1, 0, 0⟩⟩) (by rw [e1]; decide) (by rw [e1]; exact hn) (by rw [e1]; decide) (by rw [e1]; show (facS _ _ (1 * (exS []).1)).2 = 0; rw [e2, e3])
 rw [e1] at hT
 have hT2 : facT [109, 109] q1 1 = (⟨mmF, ⟨1, 0, 0⟩⟩, 0, []) := by
  rw [hT]
  show ((facS q1 _ (1 * (exS []).1)).1, 0, (exS []).2.2) = _
  rw [e2, e3]
 have := PR.fin (s := [109, 109]) (q := q1) (sg := 1) (by rw [hT2]) (by rw [hT2])
 rwa [hT2] at this
def dg1 (x : Int) : UInt8 := UInt8.ofNat (48 + x.tmod 10).toNat
theorem dg1_ok {x : Int} (h : 0 ≤ x ∧ x ≤ 255) : isD (dg1 x) = true ∧ dV (dg1 x) = x.tmod 10 ∧ 0 ≤ x.tmod 10 ∧ x.tmod 10 ≤ 9 := by
 have e : x.tmod 10 = x % 10 := Int.tmod_eq_emod_of_nonneg h.1
 have hn : (dg1 x).toNat = (48 + x.tmod 10).toNat := by
  unfold dg1
  rw [UInt8.toNat_ofNat_of_lt' (by rw [e]; show _ < 256; omega)]
 rw [e] at hn ⊢
 refine ⟨?_, ?_, by omega, by omega⟩
 ·simp only [isD, hn, Bool.and_eq_true, decide_eq_true_eq]; omega
 ·unfold dV; rw [hn]; omega
def aft (l : List Int) : Str := l.map dg1
theorem aft_isD {l : List Int} (h : ∀ x ∈ l, 0 ≤ x ∧ x ≤ 255) : ∀ c ∈ aft l, isD c = true := fun c hc => by
 obtain ⟨x, hx, rfl⟩ := List.mem_map.1 hc
 exact (dg1_ok (h x hx)).1
theorem dN_lin {l : Str} : ∀ a : Int, dN a l = a * 10 ^ l.length + dN 0 l := by
 induction l with
 | nil => intro a; simp [dN_nil]
 | cons c l ih =>
  intro a
  rw [dN_cons, dN_cons, ih, ih (0 * 10 + dV c), List.length_cons, Int.pow_succ]
  rw [Int.add_mul, Int.zero_mul, Int.zero_add, Int.mul_assoc, Int.mul_comm 10]
  omega
def zpad (k : Nat) (s : Str) : Str := List.replicate k 48 ++ s ++ List.replicate k 48
theorem zpad_s (k : Nat) (s : Str) : 48 :: zpad k s ++ [48] = zpad (k + 1) s := by
 unfold zpad
 rw [List.replicate_succ]
 conv => rhs; rw [List.append_assoc, List.cons_append]
 rw [← List.replicate_succ, List.replicate_succ']
 simp
theorem zpad_dc (k : Nat) (w A : Str) : zpad k (w ++ 46 :: A) = (List.replicate k 48 ++ w) ++ 46 :: (A ++ List.replicate k 48) := by unfold zpad; simp
theorem pow64 {k : Nat} (h : k ≤ 12) : (1 : Int) ≤ 10 ^ k ∧ (10 : Int) ^ k ≤ 1000000000000 := by
 have h1 : (10 : Nat) ^ k ≤ 10 ^ 12 := Nat.pow_le_pow_right (by decide) h
 have h3 : 0 < (10 : Nat) ^ k := Nat.pow_pos (by decide)
 have e : ((10 : Nat) ^ k : Nat) = ((10 : Int) ^ k) := by simp
 have e2 : (10 : Nat) ^ 12 = 1000000000000 := by decide
 omega
theorem pow9 {k : Nat} (h : k ≤ 9) : (10 : Int) ^ k ≤ 1000000000 := by
 have h1 : (10 : Nat) ^ k ≤ 10 ^ 9 := Nat.pow_le_pow_right (by decide) h
 have e : ((10 : Nat) ^ k : Nat) = ((10 : Int) ^ k) := by simp
 have e2 : (10 : Nat) ^ 9 = 1000000000 := by decide
 omega
theorem decimals_y {w : Int} {l : List Int} {z : Int} {ng : Bool} (hw : 0 ≤ w ∧ w ≤ 4294967295) (hL : ∀ x ∈ l, 0 ≤ x ∧ x ≤ 255) (hz : 0 ≤ z ∧ z ≤ 255) : skewbacklaw11_UnitReadsDecimals_S FF w l z ng = some true := by
 refine Yld.eq ?_
 unfold skewbacklaw11_UnitReadsDecimals_S
 refine Yld.ln (Yld.ite (fun _ => Yld.bindE sanity_y (Yld.some rfl)) (fun h => ?_))
 have hl : 1 ≤ l.length ∧ l.length ≤ 12 := by
  simp only [Bool.or_eq_false_iff, decide_eq_false_iff_not] at h; omega
 have hFF := FF2
 have hA := aft_isD hL
 have lA : (aft l).length = l.length := by unfold aft; rw [List.length_map]
 have gA : ∀ {i : Nat} (h : i < l.length) (h2 : i < (aft l).length), (aft l)[i] = dg1 l[i] := fun h h2 => by simp only [aft, List.getElem_map]
 have ixl : ∀ {i : Nat} (h : i < l.length), idx? l (i : Int) = some l[i] := fun {i} h => by
  rw [idx?_eq (by omega) (by omega)]
  simp [idx, List.getD, h]
 have wM : InM w := in64_M (by omega)
 rw [wi64' (z := w) (by omega) (by omega)]
 refine Yld.bindE (Of_f (by omega)) (Yld.bindE (Text_f (mk_in _)) ?_)
 rw [txF_one (int_fits wM) rfl, show ((w : Rat)).num = w from rfl, itoa_nn hw.1]
 have hdw := dd_isD w.toNat
 have h10 : (10 : Nat) ^ (9 + 1) = 10000000000 := by decide
 have hdl : (Lib.decDigits w.toNat).length ≤ 10 := dd_len_le 9 w.toNat (by omega)
 have hdn := (dd_head w.toNat).1
 have hdv : dN 0 (Lib.decDigits w.toNat) = w := by rw [dN_dd]; omega
 generalize Lib.decDigits w.toNat = W at hdw hdl hdn hdv ⊢
 generalize hAe : aft l = A at hA lA gA
 refine Yld.bind (P := fun o => o = (A, dN w (A.take 9), (10 : Int) ^ l.length)) (Yld.rounds l.length (fun k (s : Str × Int × Int × Int) => s = (A.take k, dN w (A.take (min k 9)), (10 : Int) ^ k, (k : Int))) (by omega) (by simp [dN_nil]) ?_) ?_
 ·rintro k ⟨a, n, d, i⟩ hk hs
  obtain ⟨rfl, hs2⟩ := Prod.mk.inj hs
  obtain ⟨rfl, hs3⟩ := Prod.mk.inj hs2
  obtain ⟨rfl, rfl⟩ := Prod.mk.inj hs3
  clear hs hs2 hs3
  dsimp only [un4]
  by_cases h : k < l.length
  ·obtain ⟨c1, c2, c3, c4⟩ := dg1_ok (hL l[k] (List.getElem_mem h))
   have ext : A.take k ++ [dg1 l[k]] = A.take (k + 1) := by rw [List.take_succ_eq_append_getElem (by omega), gA h (by omega)]
   have p64 := pow64 (k := k) (by omega)
   refine Yld.ift (decide_eq_true (by omega)) (Yld.bindE (x := (A.take (k + 1), dN w (A.take (min (k + 1) 9)))) (Yld.eq ?_) ?_)
   ·refine Yld.bindE (ixl h) (Yld.lnE (48 + l[k].tmod 10) (by rw [wu8]; omega) (Yld.app (by simp [toStr]; omega) ?_))
    rw [show toStr [48 + l[k].tmod 10] = [dg1 l[k]] from rfl, ext]
    by_cases h9 : k < 9
    ·have hn := dN_rng (a := w) hw.1 (l := A.take k) fun c hc => hA c (List.mem_of_mem_take hc)
     have hlk : (A.take k).length = k := by rw [List.length_take]; omega
     rw [hlk] at hn
     have hp := pow9 (k := k) (by omega)
     have hp8 := pow64 (k := 8) (by decide)
     have hb : (w + 1) * (10 : Int) ^ k ≤ 4294967296 * 100000000 := Int.mul_le_mul (by omega) (by
      have h1 : (10 : Nat) ^ k ≤ 10 ^ 8 := Nat.pow_le_pow_right (by decide) (by omega)
      have e : ((10 : Nat) ^ k : Nat) = ((10 : Int) ^ k) := by simp
      have e2 : (10 : Nat) ^ 8 = 100000000 := by decide
      omega) (by omega) (by decide)
     have ek : min k 9 = k := by omega
     have ek1 : min (k + 1) 9 = k + 1 := by omega
     rw [ek, ek1]
     refine Yld.ift (decide_eq_true (by omega)) (Yld.bindE (ixl h) (Yld.lnE (dN w (A.take (k + 1))) ?_ (Yld.some rfl)))
     rw [wi64' (z := dN w (A.take k) * 10) (by omega) (by omega), wi64' (z := l[k].tmod 10) (by omega) (by omega), wi64' (by omega) (by omega), ← ext, dN_app, ← c2]; rfl
    ·rw [show min k 9 = 9 by omega, show min (k + 1) 9 = 9 by omega]
     exact Yld.iff (decide_eq_false (by omega)) (Yld.some rfl)
   ·refine Yld.some (.inl ⟨_, rfl, ?_, h⟩)
    rw [wi64' (z := (10 : Int) ^ k * 10) (by omega) (by omega), wi64' (by omega) (by omega), Int.pow_succ]; rfl
  ·obtain rfl : k = l.length := by omega
   refine Yld.iff (decide_eq_false (by omega)) (Yld.some (.inr ⟨_, rfl, ?_⟩))
   rw [← lA, List.take_length, show A.take (min A.length 9) = A.take 9 by rw [← List.take_take, List.take_of_length_le (by rw [List.length_take]; omega)]]
 rintro _ rfl
 dsimp only [un3]
 have rA9 := dN_rng (a := w) hw.1 (l := A.take 9) fun c hc => hA c (List.mem_of_mem_take hc)
 have l9 : (A.take 9).length = min 9 l.length := by rw [List.length_take, lA]
 rw [l9] at rA9
 have p9 := pow9 (k := min 9 l.length) (by omega)
 have p9' := pow64 (k := min 9 l.length) (by omega)
 have p12 := pow64 (k := l.length) (by omega)
 have hn1 : (w + 1) * (10 : Int) ^ (min 9 l.length) ≤ 4294967296 * 1000000000 := Int.mul_le_mul (by omega) p9 (by omega) (by decide)
 refine Yld.bindE (Of_f (by omega)) ?_
 refine Yld.bind (P := fun o => o = (10 : Int) ^ (min 9 l.length)) (Yld.rounds (min 9 l.length) (fun k (s : Int × Int) => s = ((10 : Int) ^ k, (k : Int))) (by omega) (by simp) ?_) ?_
 ·rintro k ⟨n, i⟩ hk hs
  obtain ⟨rfl, rfl⟩ := Prod.mk.inj hs
  clear hs
  dsimp only [un2]
  by_cases h : k < min 9 l.length
  ·have p64 := pow64 (k := k) (by omega)
   refine Yld.ift (decide_eq_true (by omega)) (Yld.some (.inl ⟨_, rfl, ?_, h⟩))
   rw [wi64' (z := (10 : Int) ^ k * 10) (by omega) (by omega), wi64' (by omega) (by omega), Int.pow_succ]; rfl
  ·obtain rfl : k = min 9 l.length := by omega
   exact Yld.iff (decide_eq_false (by omega)) (Yld.some (.inr ⟨_, rfl, rfl⟩))
 rintro _ rfl
 refine Yld.bindE (Of_f (by omega)) (Yld.bindE (Div_f (mk_in _) (mk_in _)) ?_)
 have rB := dN_rng (a := 0) (by decide) (l := A.drop 9) fun c hc => hA c (List.mem_of_mem_drop hc)
 have lB : (A.drop 9).length = l.length - 9 := by rw [List.length_drop, lA]
 rw [lB] at rB
 have pB := pow64 (k := l.length - 9) (by omega)
 refine Yld.bind (P := fun o => o = dN 0 (A.drop 9)) (Yld.rounds (l.length - 9) (fun k (s : Int × Int) => s = (dN 0 ((A.drop 9).take k), ((9 + k : Nat) : Int))) (by omega) (by simp [dN_nil]) ?_) ?_
 ·rintro k ⟨n, i⟩ hk hs
  obtain ⟨rfl, rfl⟩ := Prod.mk.inj hs
  clear hs
  dsimp only [un2]
  by_cases h : k < l.length - 9
  ·have h9 : 9 + k < l.length := by omega
   obtain ⟨c1, c2, c3, c4⟩ := dg1_ok (hL l[9 + k] (List.getElem_mem h9))
   have hn := dN_rng (a := 0) (by decide) (l := (A.drop 9).take k) fun c hc => hA c (List.mem_of_mem_drop (List.mem_of_mem_take hc))
   have lk : ((A.drop 9).take k).length = k := by rw [List.length_take]; omega
   rw [lk] at hn
   have p64 := pow64 (k := k) (by omega)
   have ext : (A.drop 9).take (k + 1) = (A.drop 9).take k ++ [dg1 l[9 + k]] := by
    rw [List.take_succ_eq_append_getElem (by omega), List.getElem_drop, gA h9 (by omega)]
   refine Yld.ift (decide_eq_true (by omega)) (Yld.bindE (ixl h9) (Yld.lnE (dN 0 ((A.drop 9).take (k + 1))) ?_ (Yld.some (.inl ⟨_, rfl, ?_, h⟩))))
   ·rw [wi64' (z := dN 0 ((A.drop 9).take k) * 10) (by omega) (by omega), wi64' (z := l[9 + k].tmod 10) (by omega) (by omega), wi64' (by omega) (by omega), ext, dN_app, ← c2]; rfl
   ·rw [wi64' (by omega) (by omega)]; rfl
  ·obtain rfl : k = l.length - 9 := by omega
   refine Yld.iff (decide_eq_false (by omega)) (Yld.some (.inr ⟨_, rfl, ?_⟩))
   rw [← lB, List.take_length]
 rintro _ rfl
 refine Yld.bindE (Frac_f (by omega) (by omega)) (Yld.bindE (Add_f (divF_in _ _) (mkB_in _ _)) ?_)
 have eN : dN w A = dN w (A.take 9) * 10 ^ (l.length - 9) + dN 0 (A.drop 9) := by
  have : dN w A = dN (dN w (A.take 9)) (A.drop 9) := by rw [← dN_app, List.take_append_drop]
  rw [this, dN_lin, lB]
 have rN := dN_rng (a := w) hw.1 hA
 rw [lA] at rN
 have i140 : ∀ {z : Int}, 0 ≤ z → z < 2 ^ 80 → z.natAbs < 2 ^ 80 := fun {z} h1 h2 => by
  have e2 : ((2 ^ 80 : Nat) : Int) = (2 : Int) ^ 80 := by decide
  omega
 have e64 : (2 : Int) ^ 80 = 1208925819614629174706176 := by decide
 have hm : min 9 l.length + (l.length - 9) = l.length := by omega
 have ep : (10 : Int) ^ l.length = 10 ^ (min 9 l.length) * 10 ^ (l.length - 9) := by rw [← Int.pow_add, hm]
 obtain ⟨d1, d2⟩ := divF_int (a := dN w (A.take 9)) (b := (10 : Int) ^ (min 9 l.length)) (k := 80) (i140 rA9.1 (by omega)) (i140 (by omega) (by omega)) (by omega) (by decide)
 have d3 : szK (Rat.divInt (dN 0 (A.drop 9)) (10 ^ l.length)) 80 := divInt_sz (by omega) (i140 rB.1 (by omega)) (i140 (by omega) (by omega))
 have d4 : mkB (big (dN 0 (A.drop 9))) (big ((10 : Int) ^ l.length)) = mk (Rat.divInt (dN 0 (A.drop 9)) (10 ^ l.length)) := by
  rw [mkB_big (in64_M (by omega)) (in64_M (by omega)) (by omega), ofR_fits (sz_fits d3 (by decide))]
 have ev : bi addR (divF (mk ((dN w (A.take 9) : Int) : Rat)) (mk (((10 : Int) ^ (min 9 l.length) : Int) : Rat))) (mkB (big (dN 0 (A.drop 9))) (big ((10 : Int) ^ l.length))) = mk (Rat.divInt (dN w A) (10 ^ l.length)) := by
  rw [d1, d4, show bi addR (mk (Rat.divInt (dN w (A.take 9)) (10 ^ (min 9 l.length)))) (mk (Rat.divInt (dN 0 (A.drop 9)) (10 ^ l.length))) = _ from addF_mk d2 d3 (by decide)]
  rw [Rat.divInt_add_divInt _ _ (by omega) (by omega)]
  congr 1
  rw [Rat.divInt_eq_divInt_iff (Int.mul_ne_zero (by omega) (by omega)) (by omega), eN]
  generalize dN w (A.take 9) = n
  generalize dN 0 (A.drop 9) = r
  rw [ep]
  generalize (10 : Int) ^ (min 9 l.length) = x
  generalize (10 : Int) ^ (l.length - 9) = y
  grind
 rw [show bi addR (bi divR (mk ((dN w (A.take 9) : Int) : Rat)) (mk (((10 : Int) ^ (min 9 l.length) : Int) : Rat))) (mkB (big (dN 0 (A.drop 9))) (big ((10 : Int) ^ l.length))) = _ from ev]
 refine Yld.app (by simp; omega) (Yld.app (by simp; omega) ?_)
 rw [show W ++ [46] ++ A = W ++ 46 :: A by simp]
 obtain ⟨K, hK, hK8⟩ : ∃ K : Nat, IntKind.i64.wrap (z.tmod 8) = (K : Int) ∧ K < 8 := by
  have e : z.tmod 8 = z % 8 := Int.tmod_eq_emod_of_nonneg hz.1
  refine ⟨(z % 8).toNat, ?_, by omega⟩
  rw [e, wi64' (by omega) (by omega)]; omega
 rw [hK]
 refine Yld.bind (P := fun o => o = zpad K (W ++ 46 :: A)) (Yld.rounds K (fun k (s : Str × Int) => s = (zpad k (W ++ 46 :: A), (k : Int))) (by omega) (by simp [zpad]) ?_) ?_
 ·rintro k ⟨n, i⟩ hk hs
  obtain ⟨rfl, rfl⟩ := Prod.mk.inj hs
  clear hs
  dsimp only [un2]
  have lz : (zpad k (W ++ 46 :: A)).length ≤ 100 := by unfold zpad; simp; omega
  by_cases h : k < K
  ·refine Yld.ift (decide_eq_true (by omega)) (Yld.app (by simp; omega) (Yld.app (by simp; omega) (Yld.some (.inl ⟨_, rfl, ?_, h⟩))))
   rw [wi64' (by omega) (by omega), ← zpad_s]; rfl
  ·obtain rfl : k = K := by omega
   exact Yld.iff (decide_eq_false (by omega)) (Yld.some (.inr ⟨_, rfl, rfl⟩))
 rintro _ rfl
 have lz : (zpad K (W ++ 46 :: A)).length ≤ 100 := by unfold zpad; simp; omega
 have hsN : (sgd ng (dN w A)).natAbs < 2 ^ 80 := by
  have hb : (w + 1) * (10 : Int) ^ l.length ≤ 4294967296 * 1000000000000 := Int.mul_le_mul (by omega) p12.2 (by omega) (by decide)
  have := i140 rN.1 (by omega)
  unfold sgd; split <;> omega
 have hd64 : ((10 : Int) ^ l.length).natAbs < 2 ^ 80 := i140 (by omega) (by omega)
 have sv : szK (Rat.divInt (sgd ng (dN w A)) (10 ^ l.length)) 80 := divInt_sz (by omega) hsN hd64
 refine Yld.bindE (x := (mk (Rat.divInt (sgd ng (dN w A)) (10 ^ l.length)), (if ng = true then [45] else []) ++ zpad K (W ++ 46 :: A))) (Yld.eq ?_) ?_
 ·cases ng
  ·exact Yld.iff rfl (Yld.some rfl)
  ·refine Yld.ift rfl (Yld.bindE (Neg_f (mk_in _)) (Yld.app (by simp; omega) (Yld.some ?_)))
   have s0 : szK (Rat.divInt (dN w A) (10 ^ l.length)) 80 := divInt_sz (by omega) (by simpa [sgd] using hsN) hd64
   have hf := sz_fits s0 (by decide)
   rw [un_some (qF_mk hf), ofR_fits (neg_fits hf), Rat.neg_divInt]; rfl
 dsimp only [un2]
 rw [zpad_dc, ← List.append_assoc]
 generalize hfr : List.replicate K (48 : UInt8) ++ W = fr
 generalize hbe : A ++ List.replicate K (48 : UInt8) = be
 have hok : DcOk fr be := by
  subst hfr; subst hbe
  refine ⟨?_, ?_, ?_, ?_, ?_⟩
  ·intro c hc; exact (List.mem_append.1 hc).elim (zeros_isD K c) (hdw c)
  ·intro c hc; exact (List.mem_append.1 hc).elim (hA c) (zeros_isD K c)
  ·intro h; exact hdn (List.append_eq_nil_iff.1 h).2
  ·intro h
   have := congrArg List.length (List.append_eq_nil_iff.1 h).1
   rw [lA, List.length_nil] at this; omega
  ·simp; omega
 have hdc : dcV ng fr be = Rat.divInt (sgd ng (dN w A)) (10 ^ l.length) := by
  unfold dcV
  have e1 : dN 0 (fr ++ be) = dN w A * 10 ^ K := by
   subst hfr; subst hbe
   rw [dN_app, dN_app 0 (List.replicate K 48) W, dN_zeros, Int.zero_mul, hdv, dN_app, dN_zeros]
  have e2 : be.length = l.length + K := by subst hbe; rw [List.length_append, List.length_replicate, lA]
  have pK := pow64 (k := K) (by omega)
  rw [e1, e2, Int.pow_add, Rat.divInt_eq_divInt_iff (Int.mul_ne_zero (by omega) (by omega)) (by omega)]
  generalize (10 : Int) ^ l.length = x
  generalize (10 : Int) ^ K = y
  unfold sgd
  split <;> grind
 have r1 := Read_d1 (neg := ng) hok
 rw [hdc] at r1
 have ld := dcT_len (neg := ng) hok
 unfold dcT at r1 ld
 refine Yld.bindE r1 (Yld.app (by rw [show ([32, 109, 109] : Str).length = 3 from rfl]; omega) ?_)
 have r2 := Read_d2 (neg := ng) (s := [109, 109]) hok (by decide)
 unfold dcT at r2
 refine Yld.bind r2 ?_
 rintro o ⟨r', hp, rfl⟩
 have hmm := mm_eq
 have em : mulF (mk (Rat.divInt (sgd ng (dN w A)) (10 ^ l.length))) mmF = mk (Rat.divInt (sgd ng (dN w A)) (10 ^ l.length) * Rat.divInt 1 1000) := by
  rw [hmm.1]; exact mulF_mk sv hmm.2 (by decide)
 have hq : qF mmF = some (Rat.divInt 1 1000) := by rw [hmm.1]; exact qF_mk (sz_fits hmm.2 (by decide))
 have er : rdQ (mk (dcV ng fr be)) r' = (⟨mulF (mk (Rat.divInt (sgd ng (dN w A)) (10 ^ l.length))) mmF, ⟨1, 0, 0⟩⟩, 0) := by
  rw [mm_px hp, rdQ_ok rfl, hdc]
  dsimp only
  rw [doQ_z (by rw [qF_mk (sz_fits sv (by decide))]; rfl) (by rw [hq]; rfl) (by decide)]
  unfold quF
  rw [em, qF_mk (sz_fits (sz_mul sv hmm.2) (by decide))]; rfl
 rw [er]
 refine Yld.bindE sanity_y (Yld.g1 (by simp [zU]) (Yld.bindE (Frac_f (by decide) (by decide)) (Yld.g1 (by simp [zU]) (Yld.bindE (Mul_f (mk_in _) (mkB_in _ _)) (Yld.some ?_)))))
 simp [mmF, zU]
end Go.Proofs.YtcbbilehdaaffaaGreatDoor

namespace Go.Proofs.YtcbbilehdaaffaaGreatDoor
open Go Go.Sk
end Go.Proofs.YtcbbilehdaaffaaGreatDoor

namespace Go.Sk
open Go
end Go.Sk
namespace Go.Proofs.YtcbbilehdaaffaaGreatDoor
open Go Go.Sk
theorem in8_of {x : Int} {h : PH} {v : Value} (hx : (BV.one (.int .u8 x)).rel h (fun _ => .bool false) v) : 0 ≤ x ∧ x ≤ 255 := by
 have h1 : v = .int .u8 x ∧ inR .u8 x := hx
 simpa [inR, IntKind.min, IntKind.max, IntKind.signed, IntKind.bits] using h1.2
end Go.Proofs.YtcbbilehdaaffaaGreatDoor

namespace Go.Proofs.YtcbbilehdaaffaaGreatDoor
open Go Go.Sk
theorem in32_of {x : Int} {h : PH} {v : Value} (hx : (BV.one (.int .u32 x)).rel h (fun _ => .bool false) v) : 0 ≤ x ∧ x ≤ 4294967295 := by
 have h1 : v = .int .u32 x ∧ inR .u32 x := hx
 simpa [inR, IntKind.min, IntKind.max, IntKind.signed, IntKind.bits] using h1.2
theorem in8s_of {l : List Int} {h : PH} {v : Value} (hx : (BV.one (.sl 1 (l.map (eK .u8)))).rel h (fun _ => .bool false) v) : ∀ z ∈ l, 0 ≤ z ∧ z ≤ 255 := fun z hz => by
 have hv : (CP.sl 1 (l.map (eK .u8))).rel h v := hx
 have hm : CP.int .u8 z ∈ (l.map (eK .u8)).flatten := List.mem_flatten.2 ⟨_, List.mem_map_of_mem hz, by simp [eK]⟩
 obtain ⟨_, _, hv⟩ := hv
 rcases hv with ⟨rfl, hn⟩ | ⟨b, o, c, rfl, h1, h2, h3⟩
 ·have : l = [] := by simpa using hn
  subst this
  cases hz
 ·obtain ⟨j, hj, he⟩ := List.getElem_of_mem hm
  obtain ⟨u, _, hu⟩ := h3 j (.int .u8 z) (by rw [List.getElem?_eq_getElem hj, he])
  have h1 : inR .u8 z := hu.2
  simpa [inR, IntKind.min, IntKind.max, IntKind.signed, IntKind.bits] using h1
end Go.Proofs.YtcbbilehdaaffaaGreatDoor

namespace Go.Proofs.YtcbbilehdaaffaaGreatDoor
open Go Go.Sk
theorem decimals_law {mx : Int} (w : Int) (l : List Int) (z : Int) (ng : Bool) (hw : 0 ≤ w ∧ w ≤ 4294967295) (hl : ∀ x ∈ l, 0 ≤ x ∧ x ≤ 255) (hz : 0 ≤ z ∧ z ≤ 255) : Meets Tryz.prog (tabs mx) 5 [] [.one (.int .u32 w), .one (.sl 1 (l.map (eK .u8))), .one (.int .u8 z), .one (.bool ng)] (Is [] (.b (.one (.bool true)))) :=
 skewbacklaw11_UnitReadsDecimals_spec (decimals_y hw hl hz)
end Go.Proofs.YtcbbilehdaaffaaGreatDoor

