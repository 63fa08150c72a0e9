/- The framework, part S: operations as the printed functions have them. -/
import Derived.Test.YtipepglcceogiaaSkR
namespace Go.Sk
set_option linter.unusedSimpArgs false
set_option linter.unusedVariables false
open Go
section
variable {P : Program} {E : Env} {n : Sh} {s s' : St} {dst : Option Nat} {t ty yt : TypeId} {pos : String} {after : Array Edge} {g : Option (Nat × Bool)} {x y c : Operand} {k : IntKind} {a b : Int} {ops : Array Oper} {l : List Oper} {Q : Post} {cd : Code}
theorem op_rem2 {z : Int} (h : rem? a b = some z) (hx : s.ev x = some (.b (.one (.int k a)))) (hy : s.ev y = some (.b (.one (.int k b)))) : Op1 P E n ⟨dst, .binOp .rem t x y yt, ty, pos, after, g⟩ s (s.put n dst (.b (.one (.int k z)))) := by
  obtain ⟨h1, rfl⟩ := rem_ok h
  exact op_rem h1 hx hy
theorem op_quo2 {z : Int} (h : quo? k a b = some z) (hx : s.ev x = some (.b (.one (.int k a)))) (hy : s.ev y = some (.b (.one (.int k b)))) : Op1 P E n ⟨dst, .binOp .quo t x y yt, ty, pos, after, g⟩ s (s.put n dst (.b (.one (.int k z)))) := by
  obtain ⟨h1, rfl⟩ := quo_ok h
  exact Op1.val (o := ⟨dst, .binOp .quo t x y yt, ty, pos, after, g⟩) fun ac w h' ρ hw hs => by
    refine ⟨.int k (k.wrap (a.tdiv b)), ?_, rfl, wrap_inR _ _⟩
    simp only [execOp, (ev_int hs hx).1, (ev_int hs hy).1]
    simp [eqGuard, binOp, Op.intDiv, h1]
theorem op_add_str2 {u v z : Str} (h : app? u v = some z) (hx : s.ev x = some (.b (.one (.str u)))) (hy : s.ev y = some (.b (.one (.str v)))) : Op1 P E n ⟨dst, .binOp .add t x y yt, ty, pos, after, g⟩ s (s.put n dst (.b (.one (.str z)))) := by
  have h1 := app_len h
  have h2 := app_eq h
  subst h2
  exact op_add_str (by omega) hx hy
theorem op_conv_wrap {src d : TypeId} {k k0 : IntKind} {a : Int} (hsrc : P.underlying src = some (.int k0)) (ht : P.underlying d = some (.int k)) (hx : s.ev x = some (.b (.one (.int k0 a)))) :
    Op1 P E n ⟨dst, .convert src d x, ty, pos, after, g⟩ s (s.put n dst (.b (.one (.int k (k.wrap a))))) :=
  Op1.val (o := ⟨dst, .convert src d x, ty, pos, after, g⟩) fun ac w h' ρ hw hs => by
    refine ⟨.int k (k.wrap a), ?_, rfl, wrap_inR _ _⟩
    simp only [execOp, (ev_int hs hx).1]
    simp [convert, run_underlying hsrc, run_underlying ht, Conv.intToInt]
theorem op_shr2 {k2 : IntKind} {m : Nat} (hm : m ≤ k.bits) (hx : s.ev x = some (.b (.one (.int k a)))) (hy : s.ev y = some (.b (.one (.int k2 (m : Int))))) {q : Int} (hq : a / 2 ^ m = q) :
    Op1 P E n ⟨dst, .binOp .shr t x y yt, ty, pos, after, g⟩ s (s.put n dst (.b (.one (.int k q)))) :=
  Op1.val (o := ⟨dst, .binOp .shr t x y yt, ty, pos, after, g⟩) fun ac w h' ρ hw hs => by
    have hra := (ev_int hs hx).2
    have hpos : (0 : Int) < 2 ^ m := Int.pow_pos (by decide)
    refine ⟨.int k q, ?_, rfl, ?_⟩
    · have hmin : min m k.bits = m := Nat.min_eq_left hm
      have hd : a.fdiv (2 ^ m) = q := by rw [← hq, Int.fdiv_eq_ediv_of_nonneg _ (Int.pow_nonneg (by decide))]
      simp only [execOp, (ev_int hs hx).1, (ev_int hs hy).1]
      have hneg : ¬ ((m : Int) < 0) := by omega
      simp [eqGuard, binOp, Op.shift, hmin, hd, hneg]
    · unfold inR at hra ⊢
      have h5 : k.min ≤ 0 := by cases k <;> simp [IntKind.min, IntKind.signed, IntKind.bits]
      have h6 : 0 ≤ k.max := by cases k <;> simp [IntKind.max, IntKind.signed, IntKind.bits]
      subst hq
      by_cases h0 : 0 ≤ a
      · have h1 : 0 ≤ a / 2 ^ m := Int.ediv_nonneg h0 (Int.le_of_lt hpos)
        have h2 : a / 2 ^ m ≤ a := Int.ediv_le_self _ h0
        omega
      · have h1 : a / 2 ^ m ≤ 0 := by
          have := Int.ediv_neg_of_neg_of_pos (by omega : a < 0) hpos; omega
        have h2 : a ≤ a / 2 ^ m := by
          rw [Int.le_ediv_iff_mul_le hpos]
          have h3 : (1 : Int) ≤ 2 ^ m := by omega
          have h4 : a * 2 ^ m ≤ a * 1 := Int.mul_le_mul_of_nonpos_left (by omega) h3
          omega
        omega

/-! ## another key for a row -/
def BV.renA (k k' : Nat) : BV → BV
  | .row j => if j == k then .row k' else .row j
  | .ptr j o => if j == k then .ptr k' o else .ptr j o
  | .rptr j o => if j == k then .rptr k' o else .rptr j o
  | .part j a b c d => if j == k then .part k' a b c d else .part j a b c d
  | z => z
def SV.renA (k k' : Nat) : SV → SV
  | .b z => .b (z.renA k k')
  | .tup l => .tup (l.map (·.renA k k'))
  | .xagg l => .xagg (l.map (·.renA k k'))
  | .opt c z => .opt c (z.renA k k')
def renS (k k' : Nat) (l : List (Nat × SV)) : List (Nat × SV) := l.map fun p => (p.1, p.2.renA k k')
theorem BV.renA_rel {h : PH} {ρ ρ' : RM} {k k' : Nat} (hk : ρ' k' = ρ k) {z : BV} (ho : ∀ j, j ≠ k → z.uses j = true → ρ' j = ρ j) {v : Value} (hz : z.rel h ρ v) : (z.renA k k').rel h ρ' v := by
  cases z with
  | row j =>
    by_cases e : j = k
    · subst e; simpa [BV.renA, BV.rel, hk] using hz
    · have := ho j e (by simp [BV.uses]); simpa [BV.renA, BV.rel, e, this] using hz
  | ptr j o =>
    by_cases e : j = k
    · subst e; simpa [BV.renA, BV.rel, hk] using hz
    · have := ho j e (by simp [BV.uses]); simpa [BV.renA, BV.rel, e, this] using hz
  | rptr j o =>
    by_cases e : j = k
    · subst e; simpa [BV.renA, BV.rel, hk] using hz
    · have := ho j e (by simp [BV.uses]); simpa [BV.renA, BV.rel, e, this] using hz
  | part j a b c d =>
    by_cases e : j = k
    · subst e; simpa [BV.renA, BV.rel, hk] using hz
    · have := ho j e (by simp [BV.uses]); simpa [BV.renA, BV.rel, e, this] using hz
  | one p => exact hz
  | agg ps => exact hz
  | eptr ps => exact hz
theorem SV.renA_rel {h : PH} {ρ ρ' : RM} {k k' : Nat} (hk : ρ' k' = ρ k) {z : SV} (ho : ∀ j, j ≠ k → z.uses j = true → ρ' j = ρ j) {v : Value} (hz : z.rel h ρ v) : (z.renA k k').rel h ρ' v := by
  cases z with
  | b z => exact BV.renA_rel hk ho hz
  | opt c z => exact ⟨fun e => BV.renA_rel hk ho (hz.1 e), hz.2⟩
  | tup zs =>
    obtain ⟨vs, e, ha⟩ := hz
    refine ⟨vs, e, ?_⟩
    clear e
    have ho' : ∀ j, j ≠ k → zs.any (·.uses j) = true → ρ' j = ρ j := ho
    clear ho
    generalize vs.toList = vl at ha
    induction ha with
    | nil => exact .nil
    | cons h1 t ih =>
      refine .cons (BV.renA_rel hk (fun j hj hu => ho' j hj (by simp [hu])) h1) (ih fun j hj hu => ho' j hj (by simp only [List.any_cons, hu, Bool.or_true]))
  | xagg zs =>
    obtain ⟨vs, e, ha⟩ := hz
    refine ⟨vs, e, ?_⟩
    clear e
    have ho' : ∀ j, j ≠ k → zs.any (·.uses j) = true → ρ' j = ρ j := ho
    clear ho
    generalize vs.toList = vl at ha
    induction ha with
    | nil => exact .nil
    | cons h1 t ih =>
      refine .cons ⟨BV.renA_rel hk (fun j hj hu => ho' j hj (by simp [hu])) h1.1, h1.2⟩ (ih fun j hj hu => ho' j hj (by simp only [List.any_cons, hu, Bool.or_true]))
def OC.renA (k k' : Nat) : OC → OC
  | .xbox T cs => .xbox T (cs.map (·.renA k k'))
  | c => c
def renO (k k' : Nat) (l : List (Nat × OC)) : List (Nat × OC) := l.map fun p => (p.1, p.2.renA k k')
theorem OC.renA_ok {h : PH} {ρ ρ' : RM} {k k' : Nat} (hk : ρ' k' = ρ k) {c : OC} (ho : ∀ j, j ≠ k → c.uses j = true → ρ' j = ρ j) {v : Value} {w : World} (hc : c.ok h ρ v w) : (c.renA k k').ok h ρ' v w := by
  cases c with
  | box T ps => exact hc
  | row T size es => exact hc
  | xbox T cs =>
    obtain ⟨b, cur, e1, e2, ha⟩ := hc
    refine ⟨b, cur, e1, e2, ?_⟩
    clear e2
    have ho' : ∀ j, j ≠ k → (cs.any (·.uses j)) = true → ρ' j = ρ j := ho
    clear ho
    generalize cur.toList = l at ha
    induction ha with
    | nil => exact .nil
    | cons h1 t ih => exact .cons ⟨BV.renA_rel hk (fun j hj hu => ho' j hj (by simp [hu])) h1.1, h1.2⟩ (ih fun j hj hu => ho' j hj (by simp only [List.any_cons, hu, Bool.or_true]))
theorem R.rename {a : Act} {w : World} {c : OC} (hr : R E n s a w) (k k' : Nat) (hk : lk s.own k = some c) (hne : k' ≠ k) (hfx : n.fix.contains k' = false) (hnu : noUse k' s.own = true) : R E n ⟨renS k k' (dropU k' s.slots), ins k' (c.renA k k') (renO k k' (del k s.own))⟩ a w := by
  obtain ⟨hd, hn, h, ρ, hw, hs⟩ := hr
  have hfx' : k' ∉ n.fix := by simpa using hfx
  refine ⟨hd, hn, h, upd ρ k' (ρ k), ⟨hw.agree, hw.le, hw.fresh, hw.size, hw.same, fun j hj => ?_, hw.os, hw.out, ?_⟩, ?_⟩
  · have hjk : j ≠ k' := fun e => by subst e; exact hfx' hj
    rw [upd_other _ _ hjk]; exact hw.fixed j hj
  · have hkm := lk_mem hk
    have old : ∀ j x, (j, x) ∈ ins k' (c.renA k k') (renO k k' (del k s.own)) → ∃ i y, (i, y) ∈ s.own ∧ x = y.renA k k' ∧ upd ρ k' (ρ k) j = ρ i ∧ (j = k' → i = k) ∧ (j ≠ k' → i = j ∧ j ≠ k) := fun j x hj => by
      rcases mem_ins hj with ⟨rfl, rfl⟩ | ⟨h1, h2⟩
      · exact ⟨k, c, hkm, rfl, upd_same _ _ _, fun _ => rfl, fun e => absurd rfl e⟩
      · obtain ⟨⟨j0, y⟩, h3, he⟩ := List.mem_map.1 h2
        obtain ⟨rfl, rfl⟩ := Prod.mk.inj he
        obtain ⟨h4, h5⟩ := mem_del h3
        exact ⟨_, y, h4, rfl, upd_other _ _ h1, fun e => absurd e h1, fun _ => ⟨rfl, h5⟩⟩
    intro j x hj
    obtain ⟨i, y, hi, rfl, hρ, hi1, hi2⟩ := old j x hj
    obtain ⟨e1, e2, e3⟩ := hw.owned i y hi
    rw [hρ]
    refine ⟨OC.renA_ok (upd_same _ _ _) (fun q _ hu => upd_other _ _ fun e => ?_) e1, e2, fun j' x' hj' hne' b hb => ?_⟩
    · subst e
      rw [noUse_mem hnu hi] at hu
      simp at hu
    obtain ⟨i', y', hi', _, hρ', hi1', hi2'⟩ := old j' x' hj'
    rw [hρ']
    refine e3 i' y' hi' (fun e => hne' ?_) b hb
    by_cases h1 : j = k'
    · by_cases h2 : j' = k'
      · rw [h1, h2]
      · have := hi1 h1; have h3 := hi2' h2; omega
    · have h3 := hi2 h1
      by_cases h2 : j' = k'
      · have := hi1' h2; omega
      · have := hi2' h2; omega
  · intro i z hz
    obtain ⟨⟨i0, z0⟩, hm, he⟩ := List.mem_map.1 hz
    obtain ⟨rfl, rfl⟩ := Prod.mk.inj he
    obtain ⟨hm1, hm2⟩ := mem_dropU hm
    obtain ⟨v, hv, hrel⟩ := hs _ _ hm1
    refine ⟨v, hv, SV.renA_rel (upd_same _ _ _) (fun j _ hu => upd_other _ _ fun e => ?_) hrel⟩
    subst e
    rw [hm2] at hu
    simp at hu
theorem Fin.rename {e : Exit} (k k' : Nat) {c : OC} (hk : lk s.own k = some c) (hne : k' ≠ k) (hfx : n.fix.contains k' = false) (h : Fin E n e ⟨renS k k' (dropU k' s.slots), ins k' (c.renA k k') (renO k k' (del k s.own))⟩ Q) (hnu : noUse k' s.own = true := by rfl) : Fin E n e s Q := fun a w hr => h a w (hr.rename k k' hk hne hfx hnu)
theorem Tri.rename (k k' : Nat) {c : OC} (hk : lk s.own k = some c) (hne : k' ≠ k) (hfx : n.fix.contains k' = false) (h : Tri P E n cd ⟨renS k k' (dropU k' s.slots), ins k' (c.renA k k') (renO k k' (del k s.own))⟩ Q) (hnu : noUse k' s.own = true := by rfl) : Tri P E n cd s Q := fun a w hr => h a w (hr.rename k k' hk hne hfx hnu)
end
end Go.Sk
