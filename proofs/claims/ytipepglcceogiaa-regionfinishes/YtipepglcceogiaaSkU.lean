/- The framework, part U: the keys of a contract exchanged; nil in a box as a row. -/
import Derived.Test.YtipepglcceogiaaSkT
namespace Go.Sk
set_option linter.unusedSimpArgs false
set_option linter.unusedVariables false
open Go Go.BigFrame
def swp (a b k : Nat) : Nat := if k == a then b else if k == b then a else k
theorem swp_swp (a b k : Nat) : swp a b (swp a b k) = k := by
  unfold swp
  by_cases h1 : k = a
  · subst h1
    by_cases h2 : b = k <;> simp [h2]
  · by_cases h2 : k = b
    · subst h2
      simp [h1]
    · simp [h1, h2]
def BV.mapK (f : Nat → Nat) : BV → BV
  | .row j => .row (f j)
  | .ptr j o => .ptr (f j) o
  | .rptr j o => .rptr (f j) o
  | .part j a b c d => .part (f j) a b c d
  | z => z
def SV.mapK (f : Nat → Nat) : SV → SV
  | .b z => .b (z.mapK f)
  | .tup l => .tup (l.map (·.mapK f))
  | .opt c z => .opt c (z.mapK f)
  | .xagg l => .xagg (l.map (·.mapK f))
def OC.mapK (f : Nat → Nat) : OC → OC
  | .xbox T cs => .xbox T (cs.map (·.mapK f))
  | c => c
def mapO (f : Nat → Nat) (l : List (Nat × OC)) : List (Nat × OC) := l.map fun p => (f p.1, p.2.mapK f)
theorem BV.mapK_rel {f : Nat → Nat} {h : PH} {ρ : RM} {z : BV} {v : Value} : (z.mapK f).rel h ρ v ↔ z.rel h (fun k => ρ (f k)) v := by cases z <;> exact Iff.rfl
theorem all2_map {α β γ : Type} {r : β → γ → Prop} (g : α → β) : ∀ {l : List α} {vs : List γ}, All2 r (l.map g) vs ↔ All2 (fun a u => r (g a) u) l vs
  | [], vs => ⟨fun h => by cases h; exact .nil, fun h => by cases h; exact .nil⟩
  | a :: l, vs => ⟨fun h => by cases h with | cons h1 h2 => exact .cons h1 ((all2_map g).1 h2), fun h => by cases h with | cons h1 h2 => exact .cons h1 ((all2_map g).2 h2)⟩
theorem all2_iff {α γ : Type} {r r' : α → γ → Prop} {l : List α} {vs : List γ} (h : ∀ a u, r a u ↔ r' a u) : All2 r l vs ↔ All2 r' l vs := ⟨fun x => x.mono fun a u => (h a u).1, fun x => x.mono fun a u => (h a u).2⟩
theorem SV.mapK_rel {f : Nat → Nat} {h : PH} {ρ : RM} {z : SV} {v : Value} : (z.mapK f).rel h ρ v ↔ z.rel h (fun k => ρ (f k)) v := by
  cases z with
  | b z => exact BV.mapK_rel
  | opt c z => exact and_congr (imp_congr Iff.rfl BV.mapK_rel) Iff.rfl
  | tup l => exact exists_congr fun vs => and_congr Iff.rfl ((all2_map _).trans (all2_iff fun a u => BV.mapK_rel))
  | xagg l => exact exists_congr fun vs => and_congr Iff.rfl ((all2_map _).trans (all2_iff fun a u => and_congr BV.mapK_rel Iff.rfl))
theorem OC.mapK_ok {f : Nat → Nat} {h : PH} {ρ : RM} {c : OC} {v : Value} {w : World} : (c.mapK f).ok h ρ v w ↔ c.ok h (fun k => ρ (f k)) v w := by
  cases c with
  | box T ps => exact Iff.rfl
  | row T size es => exact Iff.rfl
  | xbox T cs => exact exists_congr fun b => exists_congr fun cur => and_congr Iff.rfl (and_congr Iff.rfl ((all2_map _).trans (all2_iff fun a u => and_congr BV.mapK_rel Iff.rfl)))
theorem mapO_mem {f : Nat → Nat} {l : List (Nat × OC)} {k : Nat} {c : OC} (h : (k, c) ∈ mapO f l) : ∃ k0 c0, (k0, c0) ∈ l ∧ k = f k0 ∧ c = c0.mapK f := by
  obtain ⟨⟨k0, c0⟩, hm, he⟩ := List.mem_map.1 h
  obtain ⟨rfl, rfl⟩ := Prod.mk.inj he
  exact ⟨k0, c0, hm, rfl, rfl⟩
theorem keysOf_mapO {f : Nat → Nat} {l : List (Nat × OC)} : keysOf (mapO f l) = (keysOf l).map f := by simp [keysOf, mapO]
theorem isBox_mapK {f : Nat → Nat} {c : OC} : (c.mapK f).isBox = c.isBox := by cases c <;> rfl
theorem boxKeys_mapO {f : Nat → Nat} : ∀ {l : List (Nat × OC)}, boxKeys (mapO f l) = (boxKeys l).map f
  | [] => rfl
  | (k, c) :: l => by
    have ih := boxKeys_mapO (f := f) (l := l)
    show (if (c.mapK f).isBox = true then f k :: boxKeys (mapO f l) else boxKeys (mapO f l)) = _
    rw [isBox_mapK, ih]
    cases hb : c.isBox <;> simp [boxKeys, hb]
/-- the same contract, two keys exchanged -/
theorem Meets.sw {P : Program} {f : FuncId} {own own' : List (Nat × OC)} {args : List BV} {res : SV} (hm : Meets P f own args (Is own' res)) (a b : Nat) :
    Meets P f (mapO (swp a b) own) (args.map (·.mapK (swp a b))) (Is (mapO (swp a b) own') (res.mapK (swp a b))) := by
  intro w h ρ vals hag hlent hargs
  have hss : (fun k => ρ (swp a b (swp a b k))) = ρ := by funext k; rw [swp_swp]
  have hinj : ∀ {i j : Nat}, swp a b i = swp a b j → i = j := fun {i j} e => by have := congrArg (swp a b) e; rwa [swp_swp, swp_swp] at this
  have hl : Lent own h (fun k => ρ (swp a b k)) w := fun k c hk => by
    obtain ⟨e1, e2, e3⟩ := hlent (swp a b k) (c.mapK (swp a b)) (List.mem_map.2 ⟨(k, c), hk, rfl⟩)
    exact ⟨OC.mapK_ok.1 e1, e2, fun k' c' hk' hne b' hb' => e3 (swp a b k') (c'.mapK (swp a b)) (List.mem_map.2 ⟨(k', c'), hk', rfl⟩) (fun e => hne (hinj e)) b' hb'⟩
  have ha : All2 (fun (x : BV) v => x.rel h (fun k => ρ (swp a b k)) v) args vals := ((all2_map _).trans (all2_iff fun a u => BV.mapK_rel)).1 hargs
  refine (hm w h _ vals hag hl ha).mono ?_
  rintro e w' ⟨v, own1, res1, h', ρ', rfl, ⟨rfl, rfl⟩, hw, hres⟩
  have hlt : ∀ b', lent ⟨w, h, fun k => ρ (swp a b k)⟩ ⟨0, boxKeys own, keysOf own⟩ b' ↔ lent ⟨w, h, ρ⟩ ⟨0, boxKeys (mapO (swp a b) own), keysOf (mapO (swp a b) own)⟩ b' := fun b' => by
    constructor
    · rintro ⟨k, hk, hb⟩
      exact ⟨swp a b k, by show _ ∈ keysOf _; rw [keysOf_mapO]; exact List.mem_map.2 ⟨k, hk, rfl⟩, hb⟩
    · rintro ⟨k, hk, hb⟩
      have hk' : k ∈ (keysOf own).map (swp a b) := by rw [← keysOf_mapO]; exact hk
      obtain ⟨k0, hk0, rfl⟩ := List.mem_map.1 hk'
      exact ⟨k0, hk0, hb⟩
  refine ⟨v, _, _, h', fun k => ρ' (swp a b k), rfl, ⟨rfl, rfl⟩, ⟨hw.agree, hw.le, fun b' hb' hn => hw.fresh b' hb' fun hh => hn ((hlt b').1 hh), hw.size, fun b' hb' hn => hw.same b' hb' fun hh => hn ((hlt b').1 hh), fun k hk => ?_, hw.os, hw.out, fun k c hk => ?_⟩, ?_⟩
  · have hk' : k ∈ (boxKeys own).map (swp a b) := by rw [← boxKeys_mapO]; exact hk
    obtain ⟨k0, hk0, rfl⟩ := List.mem_map.1 hk'
    show ρ' (swp a b (swp a b k0)) = _
    rw [swp_swp]; exact hw.fixed k0 hk0
  · obtain ⟨k0, c0, hk0, rfl, rfl⟩ := mapO_mem hk
    obtain ⟨e1, e2, e3⟩ := hw.owned k0 c0 hk0
    have hss' : (fun k => ρ' (swp a b (swp a b k))) = ρ' := by funext k; rw [swp_swp]
    refine ⟨OC.mapK_ok.2 (by rw [swp_swp]; exact (congrArg (fun r => c0.ok h' r (ρ' k0) w') hss').mpr e1), fun b' hb' => ?_, fun k' c' hk' hne b' hb' => ?_⟩
    · have hb2 : blkOf (ρ' k0) = some b' := by rw [← hb']; show _ = blkOf (ρ' (swp a b (swp a b k0))); rw [swp_swp]
      exact ⟨(e2 b' hb2).1.imp_right (hlt b').1, (e2 b' hb2).2⟩
    · obtain ⟨k1, c1, hk1, rfl, rfl⟩ := mapO_mem hk'
      have hb2 : blkOf (ρ' k0) = some b' := by rw [← hb']; show _ = blkOf (ρ' (swp a b (swp a b k0))); rw [swp_swp]
      show blkOf (ρ' (swp a b (swp a b k1))) ≠ _
      rw [swp_swp]
      exact e3 k1 c1 hk1 (fun e => hne (by rw [e])) b' hb2
  · have hss' : (fun k => ρ' (swp a b (swp a b k))) = ρ' := by funext k; rw [swp_swp]
    exact SV.mapK_rel.2 (by rw [hss']; exact hres)
section
variable {P : Program} {E : Env} {n : Sh} {s s' : St} {dst : Option Nat} {t ty yt : TypeId} {pos : String} {after : Array Edge} {g : Option (Nat × Bool)} {x y c : Operand} {ops : Array Oper} {l : List Oper} {Q : Post} {cd : Code}
theorem ins_of_mem {α : Type} {k : Nat} {c : α} : ∀ {l : List (Nat × α)} {j : Nat} {x : α}, (j, x) ∈ l → j ≠ k → (j, x) ∈ ins k c l
  | (i, y) :: l, j, x, h, hne => by
    unfold ins
    split
    · next e =>
      have e' : k = i := by simpa using e
      subst e'
      cases List.mem_cons.1 h with
      | inl e => obtain ⟨rfl, rfl⟩ := Prod.mk.inj e; exact absurd rfl hne
      | inr e => exact List.mem_cons_of_mem _ (del_of_mem e hne)
    · cases List.mem_cons.1 h with
      | inl e => rw [e]; exact List.mem_cons_self
      | inr e => exact List.mem_cons_of_mem _ (ins_of_mem e hne)
theorem WR.repl' {own : List (Nat × OC)} {h : PH} {ρ : RM} {w : World} (hw : WR E n own h ρ w) {k : Nat} {c0 c' : OC} (hk : (k, c0) ∈ own) (hc : c'.ok h ρ (ρ k) w) : WR E n (ins k c' own) h ρ w := by
  have := hw.step (w' := w) k (ρ k) c' (blkOf (ρ k)) (fun b e => ⟨c0, hk, e⟩) (Nat.le_refl _) rfl rfl (fun _ _ _ => rfl) (by rw [upd_self]; exact hc) (fun b hb => .inl hb) (.inl rfl) (.inl rfl)
  rwa [upd_self] at this
/-- nil in a box, as an empty row of one's own -/
theorem R.nilrowX {a : Act} {w : World} (hr : R E n s a w) (kb off k size : Nat) (T : TypeId) {TB : TypeId} {cs : List BV} (hk : lk s.own kb = some (.xbox TB cs)) (hi : cs[off]? = some (.one .nil)) (hz : 0 < size) (hne : kb ≠ k) (hfx : n.fix.contains k = false) (hnu : noUse k s.own = true) :
    R E n ⟨dropU k s.slots, ins kb (.xbox TB (cs.set off (.row k))) (ins k (.row T size []) s.own)⟩ a w := by
  obtain ⟨h1, h2, h, ρ, hw, hs⟩ := hr
  obtain ⟨b, cur, e1, e2, e3⟩ := xbox_cells hw hk
  have hst := hw.step (w' := w) k (.slice none 0 0) (.row T size []) none (fun b e => by simp at e) (Nat.le_refl _) rfl rfl (fun _ _ _ => rfl)
    ⟨fun ps hps => by simp at hps, hz, [], ⟨by simp, .inl ⟨rfl, rfl⟩⟩, .nil⟩ (fun b hb => by simp [blkOf] at hb) (.inr fun e => by simp at hfx; exact hfx e) (.inr hnu)
  have hm := ins_of_mem (c := OC.row T size []) (lk_mem hk) hne
  have hcs : All2 (CR h (upd ρ k (.slice none 0 0))) (cs.set off (.row k)) cur.toList := by
    have hno : ∀ j, (cs.any (·.uses j)) = true → upd ρ k (.slice none 0 0) j = ρ j := fun j hj => upd_other _ _ fun e => by
      subst e
      have := noUse_mem hnu (lk_mem hk)
      simp only [OC.uses] at this
      rw [this] at hj; simp at hj
    clear hst hm hk e2
    generalize cur.toList = vl at e3
    induction e3 generalizing off with
    | nil => simp at hi
    | @cons z u cs vl h3 t ih =>
      have hno' : ∀ j, (cs.any (·.uses j)) = true → upd ρ k (.slice none 0 0) j = ρ j := fun j hj => hno j (by simp only [List.any_cons, hj, Bool.or_true])
      have hu : ∀ j, z.uses j = true → upd ρ k (.slice none 0 0) j = ρ j := fun j hj => hno j (by simp [hj])
      have hrest : ∀ {cs : List BV} {vl : List Value}, (∀ j, (cs.any (·.uses j)) = true → upd ρ k (.slice none 0 0) j = ρ j) → All2 (fun (z : BV) u => z.rel h ρ u ∧ u.oneCell' = true) cs vl → All2 (CR h (upd ρ k (.slice none 0 0))) cs vl := by
        intro cs vl hn ha
        induction ha with
        | nil => exact .nil
        | cons h4 _ ih2 => exact .cons ⟨BV.mono (PH.le_refl _) (fun j hj => hn j (by simp [hj])) h4.1, h4.2⟩ (ih2 fun j hj => hn j (by simp only [List.any_cons, hj, Bool.or_true]))
      cases off with
      | zero =>
        simp at hi
        subst hi
        have hv : u = .slice none 0 0 := h3.1.1
        exact .cons ⟨by rw [hv]; exact (upd_same _ _ _).symm, h3.2⟩ (hrest hno' t)
      | succ off => exact .cons ⟨BV.mono (PH.le_refl _) hu h3.1, h3.2⟩ (ih off (by simpa using hi) hno')
  refine ⟨h1, h2, h, _, WR.repl' hst hm ⟨b, cur, by rw [upd_other _ _ hne]; exact e1, e2, hcs⟩, hs.dropU k _⟩
theorem Tri.nilrowX (kb off k size : Nat) (T : TypeId) {TB : TypeId} {cs : List BV} (hk : lk s.own kb = some (.xbox TB cs)) (hi : cs[off]? = some (.one .nil)) (hz : 0 < size) (hne : kb ≠ k) (hfx : n.fix.contains k = false) (h : Tri P E n cd ⟨dropU k s.slots, ins kb (.xbox TB (cs.set off (.row k))) (ins k (.row T size []) s.own)⟩ Q) (hnu : noUse k s.own = true := by rfl) : Tri P E n cd s Q := fun a w hr => h a w (hr.nilrowX kb off k size T hk hi hz hne hfx hnu)
theorem OpsL.nilrowX (kb off k size : Nat) (T : TypeId) {TB : TypeId} {cs : List BV} (hk : lk s.own kb = some (.xbox TB cs)) (hi : cs[off]? = some (.one .nil)) (hz : 0 < size) (hne : kb ≠ k) (hfx : n.fix.contains k = false) (h : OpsL P E n ops l ⟨dropU k s.slots, ins kb (.xbox TB (cs.set off (.row k))) (ins k (.row T size []) s.own)⟩ Q) (hnu : noUse k s.own = true := by rfl) : OpsL P E n ops l s Q := fun a w hr => h a w (hr.nilrowX kb off k size T hk hi hz hne hfx hnu)
theorem Fin.nilrowX {e : Exit} (kb off k size : Nat) (T : TypeId) {TB : TypeId} {cs : List BV} (hk : lk s.own kb = some (.xbox TB cs)) (hi : cs[off]? = some (.one .nil)) (hz : 0 < size) (hne : kb ≠ k) (hfx : n.fix.contains k = false) (h : Fin E n e ⟨dropU k s.slots, ins kb (.xbox TB (cs.set off (.row k))) (ins k (.row T size []) s.own)⟩ Q) (hnu : noUse k s.own = true := by rfl) : Fin E n e s Q := fun a w hr => h a w (hr.nilrowX kb off k size T hk hi hz hne hfx hnu)
end
end Go.Sk
