/- The framework, part B: the operations that touch no memory. -/
import Derived.Test.YtipepglcceogiaaSkA
namespace Go.Sk
set_option linter.unusedSimpArgs false
set_option linter.unusedVariables false
open Go

/-! ## regions as lists of operations -/
def wpL (P : Program) (ops : Array Oper) (Q : Post) : List Oper → Act → World → Prop
  | [], a, w => Q .normal a w
  | o :: rest, a, w => if Region.wanted o (yielded ops a.tmps) then o.wp P a w (wpL P ops Q rest) Q else wpL P ops Q rest (a.put o.dst undef) w
def OpsL (P : Program) (E : Env) (n : Sh) (ops : Array Oper) (l : List Oper) (s : St) (Q : Post) : Prop := ∀ a w, R E n s a w → wpL P ops Q l a w

theorem wpOps_of_wpL {P : Program} {ops : Array Oper} {Q : Post} : ∀ (l : List Oper) (k : Nat), (∀ j, ops[k + j]? = l[j]?) → ∀ a w, wpL P ops Q l a w → wpOps P ops Q (List.range' k l.length) a w
  | [], k, hl, a, w, h => by simpa [wpOps, wpL] using h
  | o :: l, k, hl, a, w, h => by
    have h0 : ops[k]? = some o := by simpa using hl 0
    have hr : ∀ j, ops[k + 1 + j]? = l[j]? := fun j => by have := hl (j + 1); rw [Nat.add_assoc, Nat.add_comm 1 j]; simpa using this
    simp only [List.length_cons, List.range'_succ, wpOps, h0]
    unfold wpL at h
    split
    · rename_i hw
      simp only [hw, if_true] at h
      exact .inl (Oper.wp_mono (fun a w hh => wpOps_of_wpL l (k + 1) hr a w hh) h)
    · rename_i hw
      simp only [hw] at h
      exact wpOps_of_wpL l (k + 1) hr _ _ h

section
variable {P : Program} {E : Env} {n : Sh} {ops : Array Oper} {l : List Oper} {s s' : St} {Q : Post} {o : Oper}

theorem Tri.regionL {id : Nat} {l : List Oper} (h : OpsL P E n l.toArray l s Q) : Tri P E n (.region id l.toArray false) s Q := by
  refine Tri.region fun a w hr => ?_
  have := wpOps_of_wpL (P := P) (ops := l.toArray) (Q := Q) l 0 (fun j => by simp) a w (h a w hr)
  simpa [List.range_eq_range'] using this

theorem OpsL.cons (hg : o.guard = none) (h1 : Op1 P E n o s s') (h2 : OpsL P E n ops l s' Q) : OpsL P E n ops (o :: l) s Q := by
  intro a w hr
  unfold wpL
  have : Region.wanted o (yielded ops a.tmps) = true := by simp [Region.wanted, hg]
  simp only [this, if_true]
  exact h1 a w hr _ _ fun a' w' hr' => h2 a' w' hr'

/-- slots whose guard is known to hold (among the first m) -/
def unopt1 (ks : List Nat) (k : Nat) : SV → SV
  | .opt c z => if ks.contains k then .b z else .opt c z
  | y => y
def unoptL : Nat → List Nat → List (Nat × SV) → List (Nat × SV)
  | 0, _, l => l
  | _ + 1, _, [] => []
  | m + 1, ks, (k, x) :: l => (k, unopt1 ks k x) :: unoptL m ks l
def optConds : Nat → List Nat → List (Nat × SV) → Prop
  | 0, _, _ => True
  | _ + 1, _, [] => True
  | m + 1, ks, (k, x) :: l => match x with
    | .opt c _ => if ks.contains k then c = true ∧ optConds m ks l else optConds m ks l
    | _ => optConds m ks l
def St.unopt (m : Nat) (ks : List Nat) (s : St) : St := ⟨unoptL m ks s.slots, s.own⟩
theorem unopt1_cases (ks : List Nat) (k : Nat) (x : SV) : unopt1 ks k x = x ∨ ∃ c z, x = .opt c z ∧ ks.contains k = true ∧ unopt1 ks k x = .b z := by
  cases x with
  | opt c z =>
    cases hk : ks.contains k with
    | true => exact .inr ⟨c, z, rfl, rfl, by simp only [unopt1, hk, if_true]⟩
    | false => exact .inl (by simp only [unopt1, hk, Bool.false_eq_true, if_false])
  | b z => exact .inl rfl
  | tup z => exact .inl rfl
  | xagg z => exact .inl rfl
theorem optConds_tail {m : Nat} {ks : List Nat} {k : Nat} {x : SV} {l : List (Nat × SV)} (h : optConds (m + 1) ks ((k, x) :: l)) : optConds m ks l := by
  unfold optConds at h
  cases x with
  | opt c z =>
    dsimp only at h
    split at h
    · exact h.2
    · exact h
  | b z => exact h
  | tup z => exact h
  | xagg z => exact h
theorem mem_unoptL {ks : List Nat} : ∀ {m : Nat} {l : List (Nat × SV)} {k : Nat} {y : SV}, (k, y) ∈ unoptL m ks l → optConds m ks l → (k, y) ∈ l ∨ ∃ c z, y = .b z ∧ (k, .opt c z) ∈ l ∧ c = true
  | 0, l, k, y, h, _ => .inl h
  | m + 1, [], k, y, h, _ => .inl h
  | m + 1, (j, x) :: l, k, y, h, hc => by
    cases List.mem_cons.1 h with
    | inl e =>
      obtain ⟨rfl, rfl⟩ := Prod.mk.inj e
      rcases unopt1_cases ks k x with h1 | ⟨c, z, rfl, hk, h1⟩
      · rw [h1]; exact .inl List.mem_cons_self
      · rw [h1]
        refine .inr ⟨c, z, rfl, List.mem_cons_self, ?_⟩
        unfold optConds at hc
        simp only [hk, if_true] at hc
        exact hc.1
    | inr e =>
      rcases mem_unoptL e (optConds_tail hc) with h | ⟨c', z', h1, h2, h3⟩
      · exact .inl (List.mem_cons_of_mem _ h)
      · exact .inr ⟨c', z', h1, List.mem_cons_of_mem _ h2, h3⟩
theorem unoptL_mem {ks : List Nat} : ∀ {m : Nat} {l : List (Nat × SV)} {k : Nat} {y : SV}, (k, y) ∈ l → optConds m ks l → (k, y) ∈ unoptL m ks l ∨ ∃ c z, y = .opt c z ∧ c = true ∧ (k, .b z) ∈ unoptL m ks l
  | 0, l, k, y, h, _ => .inl h
  | m + 1, (j, x) :: l, k, y, h, hc => by
    cases List.mem_cons.1 h with
    | inl e =>
      obtain ⟨rfl, rfl⟩ := Prod.mk.inj e
      rcases unopt1_cases ks k y with h1 | ⟨c, z, rfl, hk, h1⟩
      · refine .inl ?_
        show (k, y) ∈ (k, unopt1 ks k y) :: unoptL m ks l
        rw [h1]; exact List.mem_cons_self
      · unfold optConds at hc
        simp only [hk, if_true] at hc
        refine .inr ⟨c, z, rfl, hc.1, ?_⟩
        show (k, SV.b z) ∈ (k, unopt1 ks k (.opt c z)) :: unoptL m ks l
        rw [h1]; exact List.mem_cons_self
    | inr e =>
      rcases unoptL_mem (ks := ks) (m := m) e (optConds_tail hc) with h | ⟨c, z, h1, h2, h3⟩
      · exact .inl (List.mem_cons_of_mem _ h)
      · exact .inr ⟨c, z, h1, h2, List.mem_cons_of_mem _ h3⟩
theorem R.unopt {a : Act} {w : World} {m : Nat} {ks : List Nat} (hr : R E n s a w) (hc : optConds m ks s.slots) : R E n (s.unopt m ks) a w := by
  obtain ⟨h1, h2, h, ρ, hw, hs⟩ := hr
  refine ⟨h1, h2, h, ρ, hw, fun k y hy => ?_⟩
  rcases mem_unoptL hy hc with hm | ⟨c, z, rfl, hm, hct⟩
  · exact hs k y hm
  · obtain ⟨v, hv, hrel⟩ := hs k _ hm
    exact ⟨v, hv, hrel.1 hct⟩
theorem back_of_unopt {a : Act} {w : World} {m : Nat} {ks : List Nat} {dst : Option Nat} {b : Bool} {z : BV} (hb : b = true) (hc : optConds m ks s.slots) (hr : R E n ((s.unopt m ks).put n dst (.b z)) a w) : R E n (s.put n dst (.opt b z)) a w := by
  obtain ⟨h1, h2, h, ρ, hw, hs⟩ := hr
  have hback : ∀ {L l : List (Nat × SV)}, SlotsRel h ρ L a.tmps → (∀ p, p ∈ l → p ∈ L ∨ ∃ c z, p.2 = .opt c z ∧ c = true ∧ (p.1, .b z) ∈ L) → SlotsRel h ρ l a.tmps := fun {L l} hl hsub k y hy => by
    rcases hsub _ hy with hm | ⟨c, z, hyz, hct, hm⟩
    · exact hl k y hm
    · obtain ⟨v, hv, hrel⟩ := hl k _ hm
      have hy2 : y = .opt c z := hyz
      exact ⟨v, hv, by rw [hy2, hct]; exact ⟨fun _ => hrel, fun e => by simp at e⟩⟩
  cases dst with
  | none => exact ⟨h1, h2, h, ρ, hw, hback hs fun p hp => unoptL_mem hp hc⟩
  | some d =>
    simp only [St.put, St.set, St.unopt] at hw hs ⊢
    split at hs
    · rename_i hdn
      simp only [hdn, if_true] at hw ⊢
      refine ⟨h1, h2, h, ρ, hw, ?_⟩
      refine hback hs fun p hp => ?_
      cases List.mem_cons.1 hp with
      | inl e => subst e; exact .inr ⟨b, z, rfl, hb, List.mem_cons_self⟩
      | inr e =>
        obtain ⟨e1, e2⟩ := mem_del e
        rcases unoptL_mem (m := m) (ks := ks) (k := p.1) (y := p.2) e1 hc with hm | ⟨c, z', h3, hct, hm⟩
        · exact .inl (List.mem_cons_of_mem _ (del_of_mem hm e2))
        · exact .inr ⟨c, z', h3, hct, List.mem_cons_of_mem _ (del_of_mem hm e2)⟩
    · rename_i hdn
      simp only [hdn, if_false] at hw ⊢
      exact ⟨h1, h2, h, ρ, hw, hback hs fun p hp => unoptL_mem hp hc⟩
/-- the guard slot: known, or known under a guard of its own -/
inductive GuardAt (s : St) (t : Nat) (want : Bool) : Bool → Prop
  | plain {b : Bool} (h : s.get t = some (.b (.one (.bool b)))) : GuardAt s t want (b == want)
  | under {c b : Bool} (h : s.get t = some (.opt c (.one (.bool b)))) : GuardAt s t want (c && (b == want))
theorem GuardAt.wanted {j t : Nat} {want gd : Bool} (hG : GuardAt s t want gd) (hg : o.guard = some (j, want)) (hj : (ops[j]?).bind (·.dst) = some t) {a : Act} {w : World} (hr : R E n s a w) : Region.wanted o (yielded ops a.tmps) = gd := by
  obtain ⟨hdf, hn, h, ρ, hw, hsl⟩ := hr
  cases hG with
  | @plain b hs =>
    obtain ⟨v, hv, hrel⟩ := hsl _ _ (lk_mem (show lk s.slots t = some _ from hs))
    have hvb : v = .bool b := hrel
    subst hvb
    have hy : yielded ops a.tmps j = some b := by simp [yielded, hj, hv]
    simp [Region.wanted, hg, hy]
  | @under c b hs =>
    obtain ⟨v, hv, hrel⟩ := hsl _ _ (lk_mem (show lk s.slots t = some _ from hs))
    cases c with
    | true =>
      have hvb : v = .bool b := hrel.1 rfl
      subst hvb
      have hy : yielded ops a.tmps j = some b := by simp [yielded, hj, hv]
      simp [Region.wanted, hg, hy]
    | false =>
      have hvb : v = undef := hrel.2 rfl
      subst hvb
      have hy : yielded ops a.tmps j = none := by simp [yielded, hj, hv, undef]
      simp [Region.wanted, hg, hy]
/-- a guarded operation: its value holds if the guard does -/
theorem OpsL.consG {j t : Nat} {want gd : Bool} {z : BV} (gd' : Bool) (m : Nat) (ks : List Nat) (hG : GuardAt s t want gd) (hgd : gd = gd') (hg : o.guard = some (j, want)) (hj : (ops[j]?).bind (·.dst) = some t)
    (hc : gd' = true → optConds m ks s.slots) (h1 : gd' = true → Op1 P E n o (s.unopt m ks) ((s.unopt m ks).put n o.dst (.b z))) (h2 : OpsL P E n ops l (s.put n o.dst (.opt gd' z)) Q) :
    OpsL P E n ops (o :: l) s Q := by
  subst hgd
  intro a w hr
  unfold wpL
  have hwant := hG.wanted hg hj hr
  cases hb : gd with
  | true =>
    rw [hb] at hwant
    simp only [hwant, if_true]
    exact h1 hb a w (hr.unopt (hc hb)) _ _ fun a' w' hr' => h2 a' w' (back_of_unopt hb (hc hb) hr')
  | false =>
    rw [hb] at hwant
    simp only [hwant, Bool.false_eq_true, if_false]
    refine h2 _ _ ?_
    rw [hb]
    obtain ⟨hdf, hn, h, ρ, hw, hsl⟩ := hr
    exact R.put (s := s) hdf hn hw hsl ⟨fun e => by simp at e, fun _ => rfl⟩
theorem eq_t (b : Bool) : (b == true) = b := by cases b <;> rfl
theorem eq_f (b : Bool) : (b == false) = !b := by cases b <;> rfl
theorem and_t (c b : Bool) : (c && (b == true)) = (c && b) := by cases b <;> rfl
theorem and_f (c b : Bool) : (c && (b == false)) = (c && !b) := by cases b <;> rfl
theorem and_l {a b : Bool} (h : (a && b) = true) : a = true := by cases a <;> simp_all
theorem and_r {a b : Bool} (h : (a && b) = true) : b = true := by cases b <;> simp_all

theorem OpsL.nil (h : Fin E n .normal s Q) : OpsL P E n ops [] s Q := fun a w hr => h a w hr
/-- a region's end, what follows begins with what is kept -/
theorem OpsL.nilK {y : Code} (ks kos : List Nat) (hs : s.keep ks kos = s') (h : Tri P E n y s' Q) : OpsL P E n ops [] s (Exit.then (y.wp P Q) Q) := fun a w hr => h a w (hs ▸ hr.keep ks kos)
theorem OpsL.keep (ks kos : List Nat) (hs : s.keep ks kos = s') (h : OpsL P E n ops l s' Q) : OpsL P E n ops l s Q := fun a w hr => h a w (hs ▸ hr.keep ks kos)

/-! ## an operation that only makes a value -/
theorem Op1.val {x : SV} (H : ∀ (a : Act) (w : World) (h : PH) (ρ : RM), WR E n s.own h ρ w → SlotsRel h ρ s.slots a.tmps → ∃ v, (execOp a.eval o).run P w = .ok (.value v) w ∧ x.rel h ρ v) : Op1 P E n o s (s.put n o.dst x) := by
  intro a w ⟨hdf, hn, h, ρ, hw, hs⟩ next Q hnext
  obtain ⟨v, hv, hx⟩ := H a w h ρ hw hs
  unfold Oper.wp
  rw [hv]
  exact hnext _ _ (R.put (s := s) hdf hn hw hs hx)
end

theorem beq_dec {α : Type} [DecidableEq α] (a b : α) : (a == b) = decide (a = b) := rfl
theorem int_beq (a b : Int) : (a == b) = decide (a = b) := by rw [Bool.eq_iff_iff]; simp
theorem mk_toList (l : Str) : (⟨⟨l⟩⟩ : ByteArray).toList = l := by rw [ByteArray.toList_eq]
theorem str_beq (a b : Str) : ((⟨⟨a⟩⟩ : ByteArray).toList == (⟨⟨b⟩⟩ : ByteArray).toList) = decide (a = b) := by
  rw [mk_toList, mk_toList, Bool.eq_iff_iff]
  simp

/-! ## integers -/
theorem wrap_inR (k : IntKind) (z : Int) : inR k (k.wrap z) := by
  unfold inR
  cases k <;> simp [IntKind.wrap, IntKind.min, IntKind.max, IntKind.signed, IntKind.bits] <;> (try split) <;> omega
theorem wrap_of_inR {k : IntKind} {z : Int} (h : inR k z) : k.wrap z = z := by
  unfold inR at h
  cases k <;> simp [IntKind.wrap, IntKind.min, IntKind.max, IntKind.signed, IntKind.bits] at h ⊢ <;> (try split) <;> omega
theorem inR_i64 {z : Int} (h1 : -9223372036854775808 ≤ z) (h2 : z ≤ 9223372036854775807) : inR .i64 z := by
  simp [inR, IntKind.min, IntKind.max, IntKind.signed, IntKind.bits]; omega
theorem inR_i64_iff {z : Int} : inR .i64 z ↔ -9223372036854775808 ≤ z ∧ z ≤ 9223372036854775807 := by
  simp [inR, IntKind.min, IntKind.max, IntKind.signed, IntKind.bits]
abbrev I (n : Int) : SV := .b (.one (.int .i64 n))
abbrev B (b : Bool) : SV := .b (.one (.bool b))
abbrev CP.i (n : Int) : CP := .int .i64 n

section
variable {P : Program} {E : Env} {n : Sh} {s : St} {dst : Option Nat} {t ty yt : TypeId} {pos : String} {after : Array Edge} {g : Option (Nat × Bool)} {x y c : Operand} {k : IntKind} {a b : Int}

theorem op_move {z : SV} (hx : s.ev x = some z) : Op1 P E n ⟨dst, .move x, ty, pos, after, g⟩ s (s.put n dst z) :=
  Op1.val (o := ⟨dst, .move x, ty, pos, after, g⟩) fun _ _ _ _ _ hs => ⟨_, rfl, ev_rel hs hx⟩
theorem op_assign {z : SV} (hx : s.ev x = some z) : Op1 P E n ⟨dst, .assign x, ty, pos, after, g⟩ s (s.put n dst z) :=
  Op1.val (o := ⟨dst, .assign x, ty, pos, after, g⟩) fun _ _ _ _ _ hs => ⟨_, rfl, ev_rel hs hx⟩

theorem ev_int {h : PH} {ρ : RM} {ac : Act} (hs : SlotsRel h ρ s.slots ac.tmps) (hx : s.ev x = some (.b (.one (.int k a)))) : ac.eval x = .int k a ∧ inR k a := ev_rel hs hx
theorem ev_bool {h : PH} {ρ : RM} {ac : Act} {b : Bool} (hs : SlotsRel h ρ s.slots ac.tmps) (hx : s.ev x = some (B b)) : ac.eval x = .bool b := ev_rel hs hx
theorem ev_str {h : PH} {ρ : RM} {ac : Act} {z : Str} (hs : SlotsRel h ρ s.slots ac.tmps) (hx : s.ev x = some (.b (.one (.str z)))) : ac.eval x = .string ⟨⟨z⟩⟩ ∧ z.length ≤ maxLen := ev_rel hs hx

theorem run_int_bin {op : BinOp} {f : Int → Int → Int} (w : World) (u v : Operand) (hop : op = .add ∧ f = (· + ·) ∨ op = .sub ∧ f = (· - ·) ∨ op = .mul ∧ f = (· * ·)) :
    (do eqGuard op t u v (.int k a) (.int k b); binOp op t (.int k a) (.int k b) : Sem Value).run P w = .ok (.int k (k.wrap (f a b))) w := by
  rcases hop with ⟨rfl, rfl⟩ | ⟨rfl, rfl⟩ | ⟨rfl, rfl⟩ <;> simp [eqGuard, binOp, Op.intArith]

theorem op_arith {op : BinOp} {f : Int → Int → Int} (hop : op = .add ∧ f = (· + ·) ∨ op = .sub ∧ f = (· - ·) ∨ op = .mul ∧ f = (· * ·)) (hx : s.ev x = some (.b (.one (.int k a)))) (hy : s.ev y = some (.b (.one (.int k b)))) :
    Op1 P E n ⟨dst, .binOp op t x y yt, ty, pos, after, g⟩ s (s.put n dst (.b (.one (.int k (k.wrap (f a b)))))) :=
  Op1.val (o := ⟨dst, .binOp op t x y yt, ty, pos, after, g⟩) fun ac w h ρ hw hs => by
    refine ⟨.int k (k.wrap (f a b)), ?_, rfl, wrap_inR _ _⟩
    have := run_int_bin (P := P) (t := t) (k := k) (a := a) (b := b) (f := f) w x y hop
    simp only [execOp, (ev_int hs hx).1, (ev_int hs hy).1]
    rw [Sem.run_bind, this]; rfl
theorem op_add (hx : s.ev x = some (.b (.one (.int k a)))) (hy : s.ev y = some (.b (.one (.int k b)))) : Op1 P E n ⟨dst, .binOp .add t x y yt, ty, pos, after, g⟩ s (s.put n dst (.b (.one (.int k (k.wrap (a + b)))))) :=
  op_arith (f := (· + ·)) (.inl ⟨rfl, rfl⟩) hx hy
theorem op_sub (hx : s.ev x = some (.b (.one (.int k a)))) (hy : s.ev y = some (.b (.one (.int k b)))) : Op1 P E n ⟨dst, .binOp .sub t x y yt, ty, pos, after, g⟩ s (s.put n dst (.b (.one (.int k (k.wrap (a - b)))))) :=
  op_arith (f := (· - ·)) (.inr (.inl ⟨rfl, rfl⟩)) hx hy
theorem op_mul (hx : s.ev x = some (.b (.one (.int k a)))) (hy : s.ev y = some (.b (.one (.int k b)))) : Op1 P E n ⟨dst, .binOp .mul t x y yt, ty, pos, after, g⟩ s (s.put n dst (.b (.one (.int k (k.wrap (a * b)))))) :=
  op_arith (f := (· * ·)) (.inr (.inr ⟨rfl, rfl⟩)) hx hy
/- without a wrap -/
theorem op_add' (hr : inR k (a + b)) (hx : s.ev x = some (.b (.one (.int k a)))) (hy : s.ev y = some (.b (.one (.int k b)))) : Op1 P E n ⟨dst, .binOp .add t x y yt, ty, pos, after, g⟩ s (s.put n dst (.b (.one (.int k (a + b))))) := by
  have := op_add (P := P) (E := E) (n := n) (dst := dst) (t := t) (yt := yt) (ty := ty) (pos := pos) (after := after) (g := g) hx hy
  rwa [wrap_of_inR hr] at this
theorem op_sub' (hr : inR k (a - b)) (hx : s.ev x = some (.b (.one (.int k a)))) (hy : s.ev y = some (.b (.one (.int k b)))) : Op1 P E n ⟨dst, .binOp .sub t x y yt, ty, pos, after, g⟩ s (s.put n dst (.b (.one (.int k (a - b))))) := by
  have := op_sub (P := P) (E := E) (n := n) (dst := dst) (t := t) (yt := yt) (ty := ty) (pos := pos) (after := after) (g := g) hx hy
  rwa [wrap_of_inR hr] at this
theorem op_mul' (hr : inR k (a * b)) (hx : s.ev x = some (.b (.one (.int k a)))) (hy : s.ev y = some (.b (.one (.int k b)))) : Op1 P E n ⟨dst, .binOp .mul t x y yt, ty, pos, after, g⟩ s (s.put n dst (.b (.one (.int k (a * b))))) := by
  have := op_mul (P := P) (E := E) (n := n) (dst := dst) (t := t) (yt := yt) (ty := ty) (pos := pos) (after := after) (g := g) hx hy
  rwa [wrap_of_inR hr] at this

theorem op_cmp {op : BinOp} {f : Int → Int → Bool} (hop : (do eqGuard op t x y (.int k a) (.int k b); binOp op t (.int k a) (.int k b) : Sem Value) = (pure (.bool (f a b)) : Sem Value))
    (hx : s.ev x = some (.b (.one (.int k a)))) (hy : s.ev y = some (.b (.one (.int k b)))) :
    Op1 P E n ⟨dst, .binOp op t x y yt, ty, pos, after, g⟩ s (s.put n dst (B (f a b))) :=
  Op1.val (o := ⟨dst, .binOp op t x y yt, ty, pos, after, g⟩) fun ac w h ρ hw hs => by
    refine ⟨.bool (f a b), ?_, rfl⟩
    simp only [execOp, (ev_int hs hx).1, (ev_int hs hy).1]
    rw [Sem.run_bind, hop]; rfl
theorem op_lss (hx : s.ev x = some (.b (.one (.int k a)))) (hy : s.ev y = some (.b (.one (.int k b)))) : Op1 P E n ⟨dst, .binOp .lss t x y yt, ty, pos, after, g⟩ s (s.put n dst (B (decide (a < b)))) :=
  op_cmp (f := fun a b => decide (a < b)) (by simp [eqGuard, binOp, Op.intCmp]) hx hy
theorem op_leq (hx : s.ev x = some (.b (.one (.int k a)))) (hy : s.ev y = some (.b (.one (.int k b)))) : Op1 P E n ⟨dst, .binOp .leq t x y yt, ty, pos, after, g⟩ s (s.put n dst (B (decide (a ≤ b)))) :=
  op_cmp (f := fun a b => decide (a ≤ b)) (by simp [eqGuard, binOp, Op.intCmp]) hx hy
theorem op_gtr (hx : s.ev x = some (.b (.one (.int k a)))) (hy : s.ev y = some (.b (.one (.int k b)))) : Op1 P E n ⟨dst, .binOp .gtr t x y yt, ty, pos, after, g⟩ s (s.put n dst (B (decide (b < a)))) :=
  op_cmp (f := fun a b => decide (b < a)) (by simp [eqGuard, binOp, Op.intCmp]) hx hy
theorem op_geq (hx : s.ev x = some (.b (.one (.int k a)))) (hy : s.ev y = some (.b (.one (.int k b)))) : Op1 P E n ⟨dst, .binOp .geq t x y yt, ty, pos, after, g⟩ s (s.put n dst (B (decide (b ≤ a)))) :=
  op_cmp (f := fun a b => decide (b ≤ a)) (by simp [eqGuard, binOp, Op.intCmp]) hx hy
theorem op_eql (hx : s.ev x = some (.b (.one (.int k a)))) (hy : s.ev y = some (.b (.one (.int k b)))) : Op1 P E n ⟨dst, .binOp .eql t x y yt, ty, pos, after, g⟩ s (s.put n dst (B (decide (a = b)))) :=
  op_cmp (f := fun a b => decide (a = b)) (by simp [eqGuard, binOp, Op.intCmp, int_beq]) hx hy
theorem op_neq (hx : s.ev x = some (.b (.one (.int k a)))) (hy : s.ev y = some (.b (.one (.int k b)))) : Op1 P E n ⟨dst, .binOp .neq t x y yt, ty, pos, after, g⟩ s (s.put n dst (B (decide (a ≠ b)))) :=
  op_cmp (f := fun a b => decide (a ≠ b)) (by simp [eqGuard, binOp, Op.intCmp, bne, int_beq]) hx hy

theorem op_not {b : Bool} (hx : s.ev x = some (B b)) : Op1 P E n ⟨dst, .unOp .not t x, ty, pos, after, g⟩ s (s.put n dst (B (!b))) :=
  Op1.val (o := ⟨dst, .unOp .not t x, ty, pos, after, g⟩) fun ac w h ρ hw hs => ⟨.bool (!b), by simp [execOp, ev_bool hs hx, Op.unary], rfl⟩
theorem op_neg (hx : s.ev x = some (.b (.one (.int k a)))) : Op1 P E n ⟨dst, .unOp .neg t x, ty, pos, after, g⟩ s (s.put n dst (.b (.one (.int k (k.wrap (-a)))))) :=
  Op1.val (o := ⟨dst, .unOp .neg t x, ty, pos, after, g⟩) fun ac w h ρ hw hs => ⟨.int k (k.wrap (-a)), by simp [execOp, (ev_int hs hx).1, Op.unary, Op.intArith], rfl, wrap_inR _ _⟩

/-- what && and || pick -/
theorem op_pick_and {b z gd : Bool} {d : SV} (hg : b = true → gd = true) (hx : s.ev x = some (B b)) (hy : s.ev y = some (.opt gd (.one (.bool z)))) (hc : s.ev c = some d) (hd : d = B false := by rfl) :
    Op1 P E n ⟨dst, .pick x y c, ty, pos, after, g⟩ s (s.put n dst (B (b && z))) :=
  Op1.val (o := ⟨dst, .pick x y c, ty, pos, after, g⟩) fun ac w h ρ hw hs => by
    subst hd
    refine ⟨.bool (b && z), ?_, rfl⟩
    have h2 : gd = true → ac.eval y = .bool z := (ev_rel hs hy).1
    have h3 : ac.eval c = .bool false := ev_rel hs hc
    cases b
    · simp [execOp, ev_bool hs hx, asBool, h3]
    · simp [execOp, ev_bool hs hx, asBool, h2 (hg rfl)]
theorem op_pick_or {b z gd : Bool} {d : SV} (hg : b = false → gd = true) (hx : s.ev x = some (B b)) (hy : s.ev y = some d) (hc : s.ev c = some (.opt gd (.one (.bool z)))) (hd : d = B true := by rfl) :
    Op1 P E n ⟨dst, .pick x y c, ty, pos, after, g⟩ s (s.put n dst (B (b || z))) :=
  Op1.val (o := ⟨dst, .pick x y c, ty, pos, after, g⟩) fun ac w h ρ hw hs => by
    subst hd
    refine ⟨.bool (b || z), ?_, rfl⟩
    have h2 : gd = true → ac.eval c = .bool z := (ev_rel hs hc).1
    have h3 : ac.eval y = .bool true := ev_rel hs hy
    cases b
    · simp [execOp, ev_bool hs hx, asBool, h2 (hg rfl)]
    · simp [execOp, ev_bool hs hx, asBool, h3]

/-! ## strings, bools -/
theorem op_eql_bool {b d : Bool} (ht : P.underlying t = some .bool) (hx : s.ev x = some (B b)) (hy : s.ev y = some (B d)) : Op1 P E n ⟨dst, .binOp .eql t x y yt, ty, pos, after, g⟩ s (s.put n dst (B (b == d))) :=
  Op1.val (o := ⟨dst, .binOp .eql t x y yt, ty, pos, after, g⟩) fun ac w h ρ hw hs => by
    refine ⟨.bool (b == d), ?_, rfl⟩
    simp only [execOp, ev_bool hs hx, ev_bool hs hy]
    simp [eqGuard, binOp, run_equal_bool _ _ _ _ ht]
theorem op_neq_bool {b d : Bool} (ht : P.underlying t = some .bool) (hx : s.ev x = some (B b)) (hy : s.ev y = some (B d)) : Op1 P E n ⟨dst, .binOp .neq t x y yt, ty, pos, after, g⟩ s (s.put n dst (B (b != d))) :=
  Op1.val (o := ⟨dst, .binOp .neq t x y yt, ty, pos, after, g⟩) fun ac w h ρ hw hs => by
    refine ⟨.bool (b != d), ?_, rfl⟩
    simp only [execOp, ev_bool hs hx, ev_bool hs hy]
    simp [eqGuard, binOp, bne, run_equal_bool _ _ _ _ ht]
theorem op_eql_str {u v : Str} (hx : s.ev x = some (.b (.one (.str u)))) (hy : s.ev y = some (.b (.one (.str v)))) : Op1 P E n ⟨dst, .binOp .eql t x y yt, ty, pos, after, g⟩ s (s.put n dst (B (decide (u = v)))) :=
  Op1.val (o := ⟨dst, .binOp .eql t x y yt, ty, pos, after, g⟩) fun ac w h ρ hw hs => by
    refine ⟨.bool (decide (u = v)), ?_, rfl⟩
    simp only [execOp, (ev_str hs hx).1, (ev_str hs hy).1]
    simp [eqGuard, binOp, Op.stringOp, ← str_beq]
theorem op_neq_str {u v : Str} (hx : s.ev x = some (.b (.one (.str u)))) (hy : s.ev y = some (.b (.one (.str v)))) : Op1 P E n ⟨dst, .binOp .neq t x y yt, ty, pos, after, g⟩ s (s.put n dst (B (decide (u ≠ v)))) :=
  Op1.val (o := ⟨dst, .binOp .neq t x y yt, ty, pos, after, g⟩) fun ac w h ρ hw hs => by
    refine ⟨.bool (decide (u ≠ v)), ?_, rfl⟩
    simp only [execOp, (ev_str hs hx).1, (ev_str hs hy).1]
    simp [eqGuard, binOp, Op.stringOp, ← str_beq]
end
end Go.Sk
