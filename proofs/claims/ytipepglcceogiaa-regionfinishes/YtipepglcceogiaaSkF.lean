/- The framework, part F: slices of one's own: append, elements, parts; giving them up. -/
import Derived.Test.YtipepglcceogiaaSkE
namespace Go.Sk
set_option linter.unusedSimpArgs false
set_option linter.unusedVariables false
open Go Go.BigFrame

section
variable {P : Program} {E : Env} {n : Sh} {s s' : St} {dst : Option Nat} {t ty yt : TypeId} {pos : String} {after : Array Edge} {g : Option (Nat × Bool)} {x y c : Operand} {ops : Array Oper} {l : List Oper} {Q : Post} {cd : Code}

theorem WR.drop {h : PH} {ρ : RM} {own : List (Nat × OC)} {w : World} (hw : WR E n own h ρ w) (k : Nat) : WR E n (del k own) h ρ w := hw.sub fun _ hp => (mem_del hp).1
theorem ownBlock_eq {v : Value} (h : ∀ a, v ≠ .pointer (some a)) : v.ownBlock = blkOf v := by
  cases v with
  | slice a n c => cases a <;> rfl
  | pointer a => cases a with
    | none => rfl
    | some a => exact absurd rfl (h a)
  | _ => rfl
theorem row_notptr {h : PH} {ρ : RM} {v : Value} {w : World} {T : TypeId} {size : Nat} {es : List (List CP)} (hc : (OC.row T size es).ok h ρ v w) : ∀ a, v ≠ .pointer (some a) := by
  obtain ⟨_, _, xs, ⟨_, how⟩, _⟩ := hc
  rcases how with ⟨rfl, _⟩ | ⟨_, _, _, rfl, _⟩ <;> simp

/-- what append finds in its second argument -/
structure Src (w : World) (v : Value) (h : PH) (size : Nat) (news : List (List CP)) : Prop where
  uni : Uniform size news
  pos : 0 < size
  form : (v = .slice none 0 0 ∧ news = []) ∨ ∃ b o c cs, v = .slice (some ⟨b, o, none⟩) news.length c ∧ news.length ≤ maxLen ∧ cellsRel h news.flatten cs ∧ (∀ j u, cs[j]? = some u → w.cell? ⟨b, o + j, none⟩ = some u)
theorem Src.of_sl {h : PH} {ρ : RM} {own : List (Nat × OC)} {w : World} (hw : WR E n own h ρ w) {v : Value} {size : Nat} {es : List (List CP)} (hv : (CP.sl size es).rel h v) : Src w v h size es := by
  obtain ⟨hu, hz, hv⟩ := hv
  refine ⟨hu, hz, ?_⟩
  rcases hv with hv | ⟨b, o, c, hv, h1, h2, h3⟩
  · exact .inl hv
  · obtain ⟨cs, hc1, hc2⟩ := h3.list
    exact .inr ⟨b, o, c, cs, hv, by omega, hc1, fun j u hu => hw.agree _ _ _ (hc2 j u hu)⟩
theorem Src.of_row {h : PH} {ρ : RM} {own : List (Nat × OC)} {w : World} (hw : WR E n own h ρ w) {k : Nat} {T : TypeId} {size : Nat} {es : List (List CP)} (hk : lk own k = some (.row T size es)) : Src w (ρ k) h size es := by
  obtain ⟨hu, hz, hf⟩ := row_form hw hk
  refine ⟨hu, hz, ?_⟩
  rcases hf with hf | ⟨b, cap, cur, h1, h2, h3, h4, h5, h6⟩
  · exact .inl hf
  · refine .inr ⟨b, 0, cap, _, h1, by omega, h6, fun j u hu => ?_⟩
    rw [cell_row h2]
    rw [List.getElem?_take] at hu
    split at hu
    · simpa using hu
    · simp at hu
theorem append_core {h : PH} {ρ : RM} {w : World} (hw : WR E n s.own h ρ w) {k size bytes : Nat} {T e : TypeId} {zs : List CP} {es news : List (List CP)} {v : Value} (ht : TySl P t e size bytes zs)
    (hk : lk s.own k = some (.row T size es)) (hT : T = e) (hsrc : Src w v h size news) (hb : (es.length + news.length) * bytes ≤ 140737488355328) (hm : es.length + news.length ≤ maxLen) :
    ∃ v' w', (Builtin.append_ #[t, t] ty #[ρ k, v]).run P w = .ok v' w' ∧ w.heap.size ≤ w'.heap.size ∧ w'.os = w.os ∧ w'.output = w.output ∧ (∀ b, b < w.heap.size → some b ≠ blkOf (ρ k) → w'.heap[b]? = w.heap[b]?) ∧
      (OC.row e size (es ++ news)).ok h ρ v' w' ∧ (∀ b, blkOf v' = some b → blkOf (ρ k) = some b ∨ w.heap.size ≤ b) := by
  subst hT
  obtain ⟨i, z, h1, h2, h3, h4, h5, h6, h7⟩ := ht.info
  have hok := (hw.owned k _ (lk_mem hk)).1
  have hnp := row_notptr hok
  obtain ⟨hu, hz, xs, how, hr⟩ := id hok
  rcases hsrc.form with ⟨rfl, rfl⟩ | ⟨b, o, c, cs, rfl, hl, hc1, hc2⟩
  · refine ⟨ρ k, w, run_append_owned_none w 0 t ty T i size ht.und h1 (ρ k) es.length xs how, Nat.le_refl _, rfl, rfl, fun _ _ _ => rfl, by simpa using hok, fun b hb => .inl hb⟩
  · have hlen : cs.length = news.length * size := by rw [← hc1.length, flatten_len hsrc.uni]
    have hzs : z.cells.size = size := h5
    have hnews : ∀ j u, cs[j]? = some u → w.cell? ((⟨b, o, none⟩ : Addr).add j) = some u := fun j u hu => by rw [Addr.add_lit]; exact hc2 j u hu
    obtain ⟨v', w', hrun, how', hg, hnil⟩ := run_append_own (P := P) w 0 t ty T i z size bytes ht.und h1 h4 h2 h3 hzs h6 (ρ k) es.length xs how ⟨b, o, none⟩ news.length c cs hlen hnews hc1.one hm hb (Nat.zero_le _)
    refine ⟨v', w', hrun, hg.size, hg.os, hg.output, fun b hb hne => hg.block b hb (by rw [ownBlock_eq hnp]; exact hne), ⟨?_, h6, xs ++ cs, by simpa using how', ?_⟩, ?_⟩
    · intro ps hps
      rcases List.mem_append.1 hps with h | h
      · exact hu ps h
      · exact hsrc.uni ps h
    · rw [List.flatten_append]; exact All2.append hr hc1
    · rw [maxLen_eq] at hm
      rcases how.2 with ⟨hv, hn0⟩ | ⟨g, cap, cur, hv, _, hh, hn1, hn2, hn3, hn4⟩
      · by_cases hm0 : news.length = 0
        · have := hnil.2 ⟨hv, hm0⟩
          rw [this]; intro b hb; simp [blkOf] at hb
        · have hr2 := run_append_nil (P := P) w t ty T i z ht.und h1 h4 ⟨b, o, none⟩ news.length c cs (by rw [h2]; exact hlen) hnews (by omega) (by omega) (by rw [h3]; rw [hn0, Nat.zero_add] at hb; omega)
          rw [hv, hr2] at hrun
          cases hrun
          intro b hb; simp [blkOf] at hb; subst hb; exact .inr (Nat.le_refl _)
      · by_cases hroom : es.length + news.length ≤ cap
        · have hfit : es.length * i.size + cs.length ≤ cur.size := by rw [hlen, hn3, h2, ← Nat.add_mul]; exact Nat.mul_le_mul_right _ hroom
          have hr2 := run_append_room (P := P) w t ty T i ht.und h1 g es.length cap cur hh ⟨b, o, none⟩ news.length c cs (by rw [h2]; exact hlen) hnews hc1.one hroom hfit
          rw [hv, hr2] at hrun
          cases hrun
          intro b hb; simp [blkOf] at hb; subst hb; rw [hv]; exact .inl rfl
        · have hold : ∀ j u, xs[j]? = some u → w.cell? ((⟨g, 0, none⟩ : Addr).add j) = some u := fun j u hu => by
            rw [Addr.add_lit, Nat.zero_add, cell_row hh]
            rw [← hn4, List.getElem?_take] at hu
            split at hu
            · simpa using hu
            · simp at hu
          have hr2 := run_append_grow (P := P) w t ty T i z ht.und h1 h4 ⟨g, 0, none⟩ es.length cap xs (by rw [h2]; exact how.1) hold ⟨b, o, none⟩ news.length c cs (by rw [h2]; exact hlen) hnews (by omega) (by omega)
            (growslice_fits (by omega) (by rw [h3]; exact hb))
          rw [hv, hr2] at hrun
          cases hrun
          intro b hb; simp [blkOf] at hb; subst hb; exact .inr (Nat.le_refl _)
/-- append to a slice of one's own: of a slice that is only read -/
theorem op_append {k size bytes : Nat} {e : TypeId} {zs : List CP} {es news es' : List (List CP)} (ht : TySl P t e size bytes zs) (hb : (es.length + news.length) * bytes ≤ 140737488355328) (hm : es.length + news.length ≤ 9223372036854775807)
    (hx : s.ev x = some (.b (.row k))) (hk : lk s.own k = some (.row e size es)) (hy : s.ev y = some (.b (.one (.sl size news)))) (he : es ++ news = es') (hfx : n.fix.contains k = false) (hnu : noUse k s.own = true := by rfl) :
    Op1 P E n ⟨dst, .call ⟨.builtin .append, #[x, y], #[t, t]⟩, ty, pos, after, g⟩ s ((⟨dropU k s.slots, ins k (.row e size es') s.own⟩ : St).put n dst (.b (.row k))) :=
  Op1.make (hfx := hfx) (hnu := hnu) (o := ⟨dst, .call ⟨.builtin .append, #[x, y], #[t, t]⟩, ty, pos, after, g⟩) fun ac w h ρ hw hs => by
    have hv : ac.eval x = ρ k := (ev_rel hs hx : BV.rel h ρ (.row k) _)
    have hu := (ev_rel hs hy : (CP.sl size news).rel h _)
    obtain ⟨v', w', hrun, h1, h2, h3, h4, h5, h6⟩ := append_core (ty := ty) hw ht hk rfl (Src.of_sl hw hu) hb (by rw [maxLen_eq]; exact hm)
    subst he
    refine ⟨v', v', w', blkOf (ρ k), ?_, fun b hb => ⟨_, lk_mem hk, hb⟩, h1, h2, h3, h4, h5, h6, (upd_same _ _ _).symm⟩
    rw [execOp_builtin, builtin_append]
    simp [hv, hrun]
/-- append of a literal slice -/
theorem op_append_r {k j size bytes : Nat} {e : TypeId} {zs : List CP} {es news es' : List (List CP)} (ht : TySl P t e size bytes zs) (hb : (es.length + news.length) * bytes ≤ 140737488355328) (hm : es.length + news.length ≤ 9223372036854775807)
    (hx : s.ev x = some (.b (.row k))) (hk : lk s.own k = some (.row e size es)) (hy : s.ev y = some (.b (.row j))) (hj : lk s.own j = some (.row e size news)) (he : es ++ news = es') (hfx : n.fix.contains k = false) (hnu : noUse k s.own = true := by rfl) :
    Op1 P E n ⟨dst, .call ⟨.builtin .append, #[x, y], #[t, t]⟩, ty, pos, after, g⟩ s ((⟨dropU k s.slots, ins k (.row e size es') s.own⟩ : St).put n dst (.b (.row k))) :=
  Op1.make (hfx := hfx) (hnu := hnu) (o := ⟨dst, .call ⟨.builtin .append, #[x, y], #[t, t]⟩, ty, pos, after, g⟩) fun ac w h ρ hw hs => by
    have hv : ac.eval x = ρ k := (ev_rel hs hx : BV.rel h ρ (.row k) _)
    have hu : ac.eval y = ρ j := (ev_rel hs hy : BV.rel h ρ (.row j) _)
    obtain ⟨v', w', hrun, h1, h2, h3, h4, h5, h6⟩ := append_core (ty := ty) hw ht hk rfl (Src.of_row hw hj) hb (by rw [maxLen_eq]; exact hm)
    subst he
    refine ⟨v', v', w', blkOf (ρ k), ?_, fun b hb => ⟨_, lk_mem hk, hb⟩, h1, h2, h3, h4, h5, h6, (upd_same _ _ _).symm⟩
    rw [execOp_builtin, builtin_append]
    simp [hv, hu, hrun]

/-! ## changes of what is said, without an operation -/
theorem Tri.drop (k : Nat) (h : Tri P E n cd ⟨dropU k s.slots, del k s.own⟩ Q) : Tri P E n cd s Q := fun a w hr => h a w (by
  obtain ⟨h1, h2, h, ρ, hw, hs⟩ := hr
  exact ⟨h1, h2, h, ρ, hw.drop k, fun j x hx => hs j x (mem_dropU hx).1⟩)
theorem OpsL.drop (k : Nat) (h : OpsL P E n ops l ⟨dropU k s.slots, del k s.own⟩ Q) : OpsL P E n ops l s Q := fun a w hr => h a w (by
  obtain ⟨h1, h2, h, ρ, hw, hs⟩ := hr
  exact ⟨h1, h2, h, ρ, hw.drop k, fun j x hx => hs j x (mem_dropU hx).1⟩)
/-- nil, as a slice of one's own -/
theorem R.nilrow {i k size : Nat} {T : TypeId} {a : Act} {w : World} (hr : R E n s a w) (hi : s.get i = some (.b (.one .nil))) (hz : 0 < size) (hfx : n.fix.contains k = false) (hnu : noUse k s.own = true := by rfl) : R E n ⟨(i, .b (.row k)) :: del i (dropU k s.slots), ins k (.row T size []) s.own⟩ a w := by
  obtain ⟨h1, h2, h, ρ, hw, hs⟩ := hr
  have hst := hw.step (w' := w) k (.slice none 0 0) (.row T size []) none (fun b e => by simp at e) (Nat.le_refl _) rfl rfl (fun _ _ _ => rfl)
    ⟨fun ps hps => by simp at hps, hz, [], ⟨by simp, .inl ⟨rfl, rfl⟩⟩, .nil⟩ (fun b hb => by simp [blkOf] at hb) (.inr fun e => by simp at hfx; exact hfx e) (.inr hnu)
  refine ⟨h1, h2, h, _, hst, ?_⟩
  have hd := hs.dropU k (.slice none 0 0)
  intro j x hx
  cases List.mem_cons.1 hx with
  | inl e =>
    obtain ⟨rfl, rfl⟩ := Prod.mk.inj e
    obtain ⟨v, hv, hrel⟩ := hs _ _ (lk_mem (show lk s.slots j = some _ from hi))
    exact ⟨v, hv, by rw [show v = .slice none 0 0 from hrel.1]; exact (upd_same _ _ _).symm⟩
  | inr e => exact hd j x (mem_del e).1
theorem Tri.nilrow (i k size : Nat) (T : TypeId) (hi : s.get i = some (.b (.one .nil))) (hz : 0 < size) (hfx : n.fix.contains k = false) (h : Tri P E n cd ⟨(i, .b (.row k)) :: del i (dropU k s.slots), ins k (.row T size []) s.own⟩ Q) (hnu : noUse k s.own = true := by rfl) : Tri P E n cd s Q :=
  fun a w hr => h a w (hr.nilrow hi hz hfx hnu)
theorem OpsL.nilrow (i k size : Nat) (T : TypeId) (hi : s.get i = some (.b (.one .nil))) (hz : 0 < size) (hfx : n.fix.contains k = false) (h : OpsL P E n ops l ⟨(i, .b (.row k)) :: del i (dropU k s.slots), ins k (.row T size []) s.own⟩ Q) (hnu : noUse k s.own = true := by rfl) : OpsL P E n ops l s Q :=
  fun a w hr => h a w (hr.nilrow hi hz hfx hnu)
/-- nil, as a slice that is only read -/
theorem R.nilsl {i size : Nat} {a : Act} {w : World} (hr : R E n s a w) (hi : s.get i = some (.b (.one .nil))) (hz : 0 < size) : R E n ⟨(i, .b (.one (.sl size []))) :: del i s.slots, s.own⟩ a w := by
  obtain ⟨h1, h2, h, ρ, hw, hs⟩ := hr
  refine ⟨h1, h2, h, ρ, hw, ?_⟩
  intro j x hx
  cases List.mem_cons.1 hx with
  | inl e =>
    obtain ⟨rfl, rfl⟩ := Prod.mk.inj e
    obtain ⟨v, hv, hrel⟩ := hs _ _ (lk_mem (show lk s.slots j = some _ from hi))
    exact ⟨v, hv, fun ps hps => by simp at hps, hz, .inl ⟨hrel.1, rfl⟩⟩
  | inr e => exact hs j x (mem_del e).1
theorem Tri.nilsl (i size : Nat) (hi : s.get i = some (.b (.one .nil))) (hz : 0 < size) (h : Tri P E n cd ⟨(i, .b (.one (.sl size []))) :: del i s.slots, s.own⟩ Q) : Tri P E n cd s Q :=
  fun a w hr => h a w (hr.nilsl hi hz)
theorem OpsL.nilsl (i size : Nat) (hi : s.get i = some (.b (.one .nil))) (hz : 0 < size) (h : OpsL P E n ops l ⟨(i, .b (.one (.sl size []))) :: del i s.slots, s.own⟩ Q) : OpsL P E n ops l s Q :=
  fun a w hr => h a w (hr.nilsl hi hz)

/-- a slice of one's own is given up: it is only read from here on -/
def BV.pers (k : Nat) (p : CP) : BV → BV
  | .row j => if k == j then .one p else .row j
  | z => z
def SV.pers (k : Nat) (p : CP) : SV → SV
  | .b z => .b (z.pers k p)
  | .tup l => .tup (l.map (·.pers k p))
  | .xagg l => .xagg (l.map (·.pers k p))
  | .opt c z => .opt c (z.pers k p)
def persS (k : Nat) (p : CP) : List (Nat × SV) → List (Nat × SV)
  | [] => []
  | (j, x) :: l => (j, x.pers k p) :: persS k p l
theorem mem_persS {k : Nat} {p : CP} : ∀ {l : List (Nat × SV)} {j : Nat} {x : SV}, (j, x) ∈ persS k p l → ∃ y, (j, y) ∈ l ∧ x = y.pers k p
  | (i, y) :: l, j, x, h => by
    unfold persS at h
    cases List.mem_cons.1 h with
    | inl e => obtain ⟨rfl, rfl⟩ := Prod.mk.inj e; exact ⟨y, List.mem_cons_self, rfl⟩
    | inr e => obtain ⟨z, hz, hx⟩ := mem_persS e; exact ⟨z, List.mem_cons_of_mem _ hz, hx⟩
theorem BV.pers_rel {h : PH} {ρ : RM} {k : Nat} {p : CP} (hp : p.rel h (ρ k)) {z : BV} {v : Value} (hz : z.rel h ρ v) : (z.pers k p).rel h ρ v := by
  cases z with
  | row j =>
    cases hkj : k == j with
    | true =>
      have e' : k = j := by simpa using hkj
      subst e'
      have hv : v = ρ k := hz
      simp only [BV.pers, hkj, if_true]
      rw [hv]; exact hp
    | false =>
      simp only [BV.pers, hkj]
      exact hz
  | _ => exact hz
theorem SV.pers_rel {h : PH} {ρ : RM} {k : Nat} {p : CP} (hp : p.rel h (ρ k)) {z : SV} {v : Value} (hz : z.rel h ρ v) : (z.pers k p).rel h ρ v := by
  cases z with
  | b z => exact BV.pers_rel hp hz
  | opt c z => exact ⟨fun hc => BV.pers_rel hp (hz.1 hc), hz.2⟩
  | tup l =>
    obtain ⟨vs, e, ha⟩ := hz
    refine ⟨vs, e, ?_⟩
    clear e
    generalize vs.toList = vl at ha
    induction ha with
    | nil => exact .nil
    | cons h' _ ih => exact .cons (BV.pers_rel hp h') ih
  | xagg l =>
    obtain ⟨vs, e, ha⟩ := hz
    refine ⟨vs, e, ?_⟩
    clear e
    generalize vs.toList = vl at ha
    induction ha with
    | nil => exact .nil
    | cons h' _ ih => exact .cons ⟨BV.pers_rel hp h'.1, h'.2⟩ ih
def OC.pers (k : Nat) (p : CP) : OC → OC
  | .xbox T cs => .xbox T (cs.map (·.pers k p))
  | c => c
def persO (k : Nat) (p : CP) (l : List (Nat × OC)) : List (Nat × OC) := l.map fun q => (q.1, q.2.pers k p)
theorem OC.pers_ok {h : PH} {ρ : RM} {k : Nat} {p : CP} (hp : p.rel h (ρ k)) {c : OC} {v : Value} {w : World} (hc : c.ok h ρ v w) : (c.pers k p).ok h ρ v w := by
  cases c with
  | box T ps => exact hc
  | row T size es => exact hc
  | xbox T cs =>
    obtain ⟨b, cur, e1, e2, ha⟩ := hc
    refine ⟨b, cur, e1, e2, ?_⟩
    clear e2
    generalize cur.toList = l at ha
    induction ha with
    | nil => exact .nil
    | cons h1 t ih => exact .cons ⟨BV.pers_rel hp h1.1, h1.2⟩ ih
theorem WR.persO {h : PH} {ρ : RM} {own : List (Nat × OC)} {w : World} {k : Nat} {p : CP} (hw : WR E n own h ρ w) (hp : p.rel h (ρ k)) : WR E n (Sk.persO k p own) h ρ w :=
  ⟨hw.agree, hw.le, hw.fresh, hw.size, hw.same, hw.fixed, hw.os, hw.out, fun j c hj => by
    obtain ⟨⟨j0, y⟩, hm, he⟩ := List.mem_map.1 hj
    obtain ⟨rfl, rfl⟩ := Prod.mk.inj he
    obtain ⟨e1, e2, e3⟩ := hw.owned _ _ hm
    refine ⟨OC.pers_ok hp e1, e2, fun j' c' hj' => ?_⟩
    obtain ⟨⟨j1, y1⟩, hm1, he1⟩ := List.mem_map.1 hj'
    obtain ⟨rfl, rfl⟩ := Prod.mk.inj he1
    exact e3 _ _ hm1⟩
/-- the view, widened by what a row holds -/
def addRow (h : PH) (g : Nat) (cs : List Value) : PH := fun b o => if b = g then cs[o]? else h b o
theorem R.persist {k size : Nat} {T : TypeId} {es : List (List CP)} {a : Act} {w : World} (hr : R E n s a w) (hk : lk s.own k = some (.row T size es)) : R E n ⟨persS k (.sl size es) s.slots, persO k (.sl size es) (del k s.own)⟩ a w := by
  obtain ⟨h1, h2, h, ρ, hw, hs⟩ := hr
  obtain ⟨hu, hz, hf⟩ := row_form hw hk
  have hown := hw.owned k _ (lk_mem hk)
  rcases hf with ⟨hρ, rfl⟩ | ⟨g, cap, cur, hρ, hh, hn1, hn2, hn3, hn4⟩
  · refine ⟨h1, h2, h, ρ, (hw.drop k).persO ⟨hu, hz, .inl ⟨hρ, rfl⟩⟩, ?_⟩
    intro j x hx
    obtain ⟨y, hy, rfl⟩ := mem_persS hx
    obtain ⟨v, hv, hrel⟩ := hs j y hy
    exact ⟨v, hv, SV.pers_rel (p := .sl size []) ⟨hu, hz, .inl ⟨hρ, rfl⟩⟩ hrel⟩
  · have hg := hown.2.1 g (by rw [hρ]; rfl)
    let cs := cur.toList.take (es.length * size)
    have hle : h.le (addRow h g cs) := fun b o v hv => by
      unfold addRow
      split
      · rename_i e; subst e; rw [hg.2 o] at hv; simp at hv
      · exact hv
    have hsl : (CP.sl size es).rel (addRow h g cs) (ρ k) := by
      refine ⟨hu, hz, .inr ⟨g, 0, cap, hρ, hn1, hn2, ?_⟩⟩
      intro j c hc
      obtain ⟨u, hu', hr'⟩ := hn4.get j c hc
      exact ⟨u, by simp only [addRow, if_true, Nat.zero_add]; exact hu', c.mono hle hr'⟩
    refine ⟨h1, h2, addRow h g cs, ρ, WR.persO (k := k) (p := .sl size es) (own := del k s.own) ⟨?_, PH.le_trans hw.le hle, ?_, hw.size, hw.same, hw.fixed, hw.os, hw.out, ?_⟩ hsl, ?_⟩
    · intro b o v hv
      unfold addRow at hv
      split at hv
      · rename_i e; subst e
        rw [cell_row hh]
        simp only [cs, List.getElem?_take] at hv
        split at hv
        · simpa using hv
        · simp at hv
      · exact hw.agree b o v hv
    · intro b hb hnl
      rw [← hw.fresh b hb hnl]
      funext o
      unfold addRow
      rw [if_neg fun e => by
        subst e
        rcases hg.1 with h | h
        · omega
        · exact hnl h]
    · intro j c hj
      obtain ⟨hj1, hj2⟩ := mem_del hj
      obtain ⟨e1, e2, e3⟩ := hw.owned j c hj1
      refine ⟨e1.mono hle, fun b hb => ⟨(e2 b hb).1, fun o => ?_⟩, fun j' c' hj' => e3 j' c' (mem_del hj').1⟩
      have hbg : b ≠ g := fun e => by
        subst e
        exact e3 k _ (lk_mem hk) (fun e => hj2 e.symm) b hb (by rw [hρ]; rfl)
      unfold addRow
      rw [if_neg hbg]
      exact (e2 b hb).2 o
    · intro j x hx
      obtain ⟨y, hy, rfl⟩ := mem_persS hx
      obtain ⟨v, hv, hrel⟩ := hs j y hy
      exact ⟨v, hv, SV.pers_rel hsl (SV.mono hle (fun _ _ => rfl) hrel)⟩
theorem Tri.persist (k : Nat) {size : Nat} {T : TypeId} {es : List (List CP)} (hk : lk s.own k = some (.row T size es)) (h : Tri P E n cd ⟨persS k (.sl size es) s.slots, persO k (.sl size es) (del k s.own)⟩ Q) : Tri P E n cd s Q := fun a w hr => h a w (hr.persist hk)
theorem OpsL.persist (k : Nat) {size : Nat} {T : TypeId} {es : List (List CP)} (hk : lk s.own k = some (.row T size es)) (h : OpsL P E n ops l ⟨persS k (.sl size es) s.slots, persO k (.sl size es) (del k s.own)⟩ Q) : OpsL P E n ops l s Q := fun a w hr => h a w (hr.persist hk)
theorem Fin.persist {e : Exit} (k : Nat) {size : Nat} {T : TypeId} {es : List (List CP)} (hk : lk s.own k = some (.row T size es)) (h : Fin E n e ⟨persS k (.sl size es) s.slots, persO k (.sl size es) (del k s.own)⟩ Q) : Fin E n e s Q := fun a w hr => h a w (hr.persist hk)
end
end Go.Sk
