/- The framework, part A: what a walk knows of memory (a persistent view, owned blocks, slots), and the rules for control. -/
import Derived.WalkKit
import Derived.ProofKit
import Derived.BigCall
namespace Go.Sk
set_option linter.unusedSimpArgs false
set_option linter.unusedVariables false
open Go

/-! ## the persistent view of memory -/
abbrev PH := Nat → Nat → Option Value
def PH.le (h h' : PH) : Prop := ∀ b o v, h b o = some v → h' b o = some v
theorem PH.le_refl (h : PH) : h.le h := fun _ _ _ x => x
theorem PH.le_trans {a b c : PH} (x : a.le b) (y : b.le c) : a.le c := fun _ _ _ z => y _ _ _ (x _ _ _ z)
def Agree (h : PH) (w : World) : Prop := ∀ b o v, h b o = some v → w.cell? ⟨b, o, none⟩ = some v

def inR (k : IntKind) (n : Int) : Prop := k.min ≤ n ∧ n ≤ k.max

/-- what is known of a value of one cell -/
structure CP where
  rel : PH → Value → Prop
  mono : ∀ {h h' : PH} {v : Value}, h.le h' → rel h v → rel h' v
  one : ∀ {h : PH} {v : Value}, rel h v → v.oneCell' = true

def CP.int (k : IntKind) (n : Int) : CP := ⟨fun _ v => v = .int k n ∧ inR k n, fun _ x => x, fun x => by rw [x.1]; rfl⟩
def CP.bool (b : Bool) : CP := ⟨fun _ v => v = .bool b, fun _ x => x, fun x => by rw [x]; rfl⟩
abbrev Str := List UInt8
def CP.str (s : Str) : CP := ⟨fun _ v => v = .string ⟨⟨s⟩⟩ ∧ s.length ≤ maxLen, fun _ x => x, fun x => by rw [x.1]; rfl⟩
def CP.raw (u : Value) : CP := ⟨fun _ v => v = u ∧ u.oneCell' = true, fun _ x => x, fun x => by rw [x.1]; exact x.2⟩
def CP.any : CP := ⟨fun _ v => v.oneCell' = true, fun _ x => x, fun x => x⟩

/-- the cells from o on in block b read as ps -/
def Reads (h : PH) (b o : Nat) (ps : List CP) : Prop := ∀ (j : Nat) (c : CP), ps[j]? = some c → ∃ u, h b (o + j) = some u ∧ c.rel h u
theorem Reads.mono {h h' : PH} {b o : Nat} {ps : List CP} (hl : h.le h') (x : Reads h b o ps) : Reads h' b o ps :=
  fun j c hc => let ⟨u, hu, hr⟩ := x j c hc; ⟨u, hl _ _ _ hu, c.mono hl hr⟩
theorem Reads.drop {h : PH} {b o : Nat} {ps : List CP} (x : Reads h b o ps) (n : Nat) : Reads h b (o + n) (ps.drop n) := by
  intro j c hc
  rw [List.getElem?_drop] at hc
  obtain ⟨u, hu, hr⟩ := x _ _ hc
  exact ⟨u, by rw [Nat.add_assoc]; exact hu, hr⟩

def Uniform (size : Nat) (es : List (List CP)) : Prop := ∀ ps ∈ es, ps.length = size
/-- a slice that is only read -/
def CP.sl (size : Nat) (es : List (List CP)) : CP :=
  ⟨fun h v => Uniform size es ∧ 0 < size ∧ ((v = .slice none 0 0 ∧ es = []) ∨
      ∃ b o c, v = .slice (some ⟨b, o, none⟩) es.length c ∧ es.length ≤ c ∧ c ≤ maxLen ∧ Reads h b o es.flatten),
   fun hl x => ⟨x.1, x.2.1, x.2.2.imp id fun ⟨b, o, c, h1, h2, h3, h4⟩ => ⟨b, o, c, h1, h2, h3, h4.mono hl⟩⟩,
   fun x => by rcases x.2.2 with ⟨h, _⟩ | ⟨_, _, _, h, _⟩ <;> rw [h] <;> rfl⟩
def CP.nil : CP := CP.raw (.slice none 0 0)

theorem flatten_get {size : Nat} : ∀ {es : List (List CP)}, Uniform size es → ∀ (i : Nat) (ps : List CP), es[i]? = some ps → ∀ j, j < size → es.flatten[i * size + j]? = ps[j]?
  | [], _, i, ps, hi, _, _ => by simp at hi
  | p :: es, hu, 0, ps, hi, j, hj => by
    have hp : p.length = size := hu p (by simp)
    simp at hi; subst hi
    simp only [List.flatten_cons, Nat.zero_mul, Nat.zero_add]
    rw [List.getElem?_append_left (by omega)]
  | p :: es, hu, i + 1, ps, hi, j, hj => by
    have hp : p.length = size := hu p (by simp)
    have ih := flatten_get (es := es) (fun q hq => hu q (by simp [hq])) i ps (by simpa using hi) j hj
    have e : (i + 1) * size + j = size + (i * size + j) := by rw [Nat.add_mul]; omega
    rw [List.flatten_cons, List.getElem?_append_right (by omega), hp, e, Nat.add_sub_cancel_left, ih]
theorem flatten_len {size : Nat} : ∀ {es : List (List CP)}, Uniform size es → es.flatten.length = es.length * size
  | [], _ => by simp
  | p :: es, hu => by
    have hp : p.length = size := hu p (by simp)
    rw [List.flatten_cons, List.length_append, flatten_len (es := es) (fun q hq => hu q (by simp [hq])), hp, List.length_cons, Nat.add_mul]; omega
theorem Reads.elem {h : PH} {b o size : Nat} {es : List (List CP)} (hu : Uniform size es) (x : Reads h b o es.flatten) (i : Nat) (ps : List CP) (hi : es[i]? = some ps) :
    Reads h b (o + i * size) ps := by
  intro j c hc
  have hl : ps.length = size := hu ps (List.mem_of_getElem? hi)
  have hj : j < size := by rw [← hl]; exact (List.getElem?_eq_some_iff.1 hc).1
  have := flatten_get hu i ps hi j hj
  obtain ⟨u, hu', hr⟩ := x (i * size + j) c (by rw [this]; exact hc)
  exact ⟨u, by rw [Nat.add_assoc]; exact hu', hr⟩

/-! ## values in slots -/
inductive BV where
  | one (p : CP)
  | agg (ps : List CP)
  | ptr (k off : Nat)
  | row (k : Nat)
  | rptr (k off : Nat)
  | part (k size lo len c : Nat)
  | eptr (ps : List CP)
inductive SV where
  | b (x : BV)
  | tup (l : List BV)
  | opt (c : Bool) (x : BV)
  | xagg (l : List BV)

/-- two lists, side by side -/
inductive All2 {α β : Type} (r : α → β → Prop) : List α → List β → Prop
  | nil : All2 r [] []
  | cons {a : α} {b : β} {as : List α} {bs : List β} (h : r a b) (t : All2 r as bs) : All2 r (a :: as) (b :: bs)
namespace All2
variable {α β : Type} {r r' : α → β → Prop} {as : List α} {bs : List β}
theorem length (h : All2 r as bs) : as.length = bs.length := by induction h <;> simp_all
theorem mono (h : All2 r as bs) (hr : ∀ a b, r a b → r' a b) : All2 r' as bs := by
  induction h with
  | nil => exact .nil
  | cons h _ ih => exact .cons (hr _ _ h) ih
theorem get (h : All2 r as bs) : ∀ (i : Nat) (a : α), as[i]? = some a → ∃ b, bs[i]? = some b ∧ r a b := by
  induction h with
  | nil => intro i a hi; simp at hi
  | cons h _ ih =>
    intro i a hi
    cases i with
    | zero => simp at hi; subst hi; exact ⟨_, by simp, h⟩
    | succ i => simpa using ih i a (by simpa using hi)
theorem of_get : ∀ {as : List α} {bs : List β}, as.length = bs.length → (∀ (i : Nat) (a : α) (b : β), as[i]? = some a → bs[i]? = some b → r a b) → All2 r as bs
  | [], [], _, _ => .nil
  | [], _ :: _, h, _ => by simp at h
  | _ :: _, [], h, _ => by simp at h
  | a :: as, b :: bs, h, hr => .cons (hr 0 a b (by simp) (by simp)) (of_get (by simpa using h) fun i x y hx hy => hr (i + 1) x y (by simpa using hx) (by simpa using hy))
theorem append {as' : List α} {bs' : List β} (h : All2 r as bs) (h' : All2 r as' bs') : All2 r (as ++ as') (bs ++ bs') := by
  induction h with
  | nil => exact h'
  | cons h _ ih => exact .cons h ih
theorem take (h : All2 r as bs) (n : Nat) : All2 r (as.take n) (bs.take n) := by
  induction h generalizing n with
  | nil => simp; exact .nil
  | cons h _ ih => cases n with
    | zero => simp; exact .nil
    | succ n => simp; exact .cons h (ih n)
theorem drop (h : All2 r as bs) (n : Nat) : All2 r (as.drop n) (bs.drop n) := by
  induction h generalizing n with
  | nil => simp; exact .nil
  | cons h t ih => cases n with
    | zero => simp; exact .cons h t
    | succ n => simpa using ih n
theorem set (h : All2 r as bs) (i : Nat) {a : α} {b : β} (hr : r a b) : All2 r (as.set i a) (bs.set i b) := by
  induction h generalizing i with
  | nil => simp; exact .nil
  | cons h t ih => cases i with
    | zero => simp; exact .cons hr t
    | succ i => simp; exact .cons h (ih i)
theorem mem_right (h : All2 r as bs) {b : β} (hb : b ∈ bs) : ∃ a, a ∈ as ∧ r a b := by
  induction h with
  | nil => simp at hb
  | cons h _ ih =>
    cases List.mem_cons.1 hb with
    | inl e => subst e; exact ⟨_, by simp, h⟩
    | inr e => obtain ⟨a, ha, hr⟩ := ih e; exact ⟨a, by simp [ha], hr⟩
end All2

def cellsRel (h : PH) (ps : List CP) (cs : List Value) : Prop := All2 (fun (c : CP) v => c.rel h v) ps cs
theorem cellsRel.mono {h h' : PH} {ps : List CP} {cs : List Value} (hl : h.le h') (x : cellsRel h ps cs) : cellsRel h' ps cs := All2.mono x fun c _ => c.mono hl
theorem cellsRel.one {h : PH} {ps : List CP} {cs : List Value} (x : cellsRel h ps cs) : ∀ u ∈ cs, u.oneCell' = true := fun _ hv => let ⟨c, _, hc⟩ := All2.mem_right x hv; c.one hc

abbrev RM := Nat → Value
def BV.rel (h : PH) (ρ : RM) : BV → Value → Prop
  | .one p, v => p.rel h v
  | .agg ps, v => ∃ cs, v = .agg cs ∧ cellsRel h ps cs.toList
  | .ptr k off, v => ∃ b, ρ k = .pointer (some ⟨b, 0, none⟩) ∧ v = .pointer (some ⟨b, off, none⟩)
  | .row k, v => v = ρ k
  | .rptr k off, v => ∃ b n c, ρ k = .slice (some ⟨b, 0, none⟩) n c ∧ v = .pointer (some ⟨b, off, none⟩)
  | .part k size lo len c, v => ∃ b n, ρ k = .slice (some ⟨b, 0, none⟩) n c ∧ v = .slice (some ⟨b, lo * size, none⟩) len (c - lo) ∧ lo + len ≤ c
  | .eptr ps, v => ∃ b o, v = .pointer (some ⟨b, o, none⟩) ∧ Reads h b o ps
def SV.rel (h : PH) (ρ : RM) : SV → Value → Prop
  | .b x, v => x.rel h ρ v
  | .tup l, v => ∃ vs, v = .tuple vs ∧ All2 (fun (x : BV) u => x.rel h ρ u) l vs.toList
  | .opt c x, v => (c = true → x.rel h ρ v) ∧ (c = false → v = undef)
  | .xagg l, v => ∃ vs, v = .agg vs ∧ All2 (fun (x : BV) u => x.rel h ρ u ∧ u.oneCell' = true) l vs.toList

def BV.uses (k : Nat) : BV → Bool
  | .ptr j _ | .row j | .rptr j _ | .part j _ _ _ _ => j == k
  | _ => false
def SV.uses (k : Nat) : SV → Bool
  | .b x => x.uses k
  | .tup l => l.any (·.uses k)
  | .xagg l => l.any (·.uses k)
  | .opt _ x => x.uses k

theorem BV.mono {h h' : PH} {ρ ρ' : RM} (hl : h.le h') {x : BV} (hρ : ∀ k, x.uses k = true → ρ' k = ρ k) {v : Value} (hx : x.rel h ρ v) : x.rel h' ρ' v := by
  cases x with
  | one p => exact p.mono hl hx
  | agg ps => obtain ⟨cs, e, hc⟩ := hx; exact ⟨cs, e, hc.mono hl⟩
  | ptr k off => have := hρ k (by simp [BV.uses]); simpa [BV.rel, this] using hx
  | row k => have := hρ k (by simp [BV.uses]); simpa [BV.rel, this] using hx
  | rptr k off => have := hρ k (by simp [BV.uses]); simpa [BV.rel, this] using hx
  | part k _ _ _ _ => have := hρ k (by simp [BV.uses]); simpa [BV.rel, this] using hx
  | eptr ps => obtain ⟨b, o, e, hr⟩ := hx; exact ⟨b, o, e, hr.mono hl⟩
theorem SV.mono {h h' : PH} {ρ ρ' : RM} (hl : h.le h') {x : SV} (hρ : ∀ k, x.uses k = true → ρ' k = ρ k) {v : Value} (hx : x.rel h ρ v) : x.rel h' ρ' v := by
  cases x with
  | b x => exact BV.mono hl hρ hx
  | opt c x => exact ⟨fun hc => BV.mono hl hρ (hx.1 hc), hx.2⟩
  | tup l =>
    obtain ⟨vs, e, ha⟩ := hx
    refine ⟨vs, e, ?_⟩
    have hρ' : ∀ k, (l.any (·.uses k)) = true → ρ' k = ρ k := hρ
    clear hρ e
    generalize vs.toList = vl at ha
    induction ha with
    | nil => exact .nil
    | cons h' t ih =>
      refine .cons (BV.mono hl (fun k hk => hρ' k (by simp [hk])) h') (ih fun k hk => hρ' k (by simp only [List.any_cons, hk, Bool.or_true]))
  | xagg l =>
    obtain ⟨vs, e, ha⟩ := hx
    refine ⟨vs, e, ?_⟩
    have hρ' : ∀ k, (l.any (·.uses k)) = true → ρ' k = ρ k := hρ
    clear hρ e
    generalize vs.toList = vl at ha
    induction ha with
    | nil => exact .nil
    | cons h' t ih =>
      refine .cons ⟨BV.mono hl (fun k hk => hρ' k (by simp [hk])) h'.1, h'.2⟩ (ih fun k hk => hρ' k (by simp only [List.any_cons, hk, Bool.or_true]))

/-! ## owned blocks -/
inductive OC where
  | box (T : TypeId) (ps : List CP)
  | row (T : TypeId) (size : Nat) (es : List (List CP))
  | xbox (T : TypeId) (cs : List BV)
def blkOf : Value → Option Nat
  | .pointer (some a) => some a.block
  | .slice (some a) _ _ => some a.block
  | _ => none
def OC.isBox : OC → Bool
  | .box _ _ => true
  | .xbox _ _ => true
  | _ => false
/-- what is owned speaks of the key k -/
def OC.uses (k : Nat) : OC → Bool
  | .xbox _ cs => cs.any (·.uses k)
  | _ => false
def noUse (k : Nat) (own : List (Nat × OC)) : Bool := own.all fun p => !p.2.uses k
theorem noUse_mem {k : Nat} {own : List (Nat × OC)} (h : noUse k own = true) {j : Nat} {c : OC} (hm : (j, c) ∈ own) : c.uses k = false := by
  have := List.all_eq_true.1 h _ hm
  simpa using this
def OC.ok (h : PH) (ρ : RM) (v : Value) (w : World) : OC → Prop
  | .box T ps => ∃ b cur, v = .pointer (some ⟨b, 0, none⟩) ∧ w.heap[b]? = some (.cells cur T (0, 0)) ∧ cellsRel h ps cur.toList
  | .row T size es => Uniform size es ∧ 0 < size ∧ ∃ xs, w.ownsRow 0 T size v es.length xs ∧ cellsRel h es.flatten xs
  | .xbox T cs => ∃ b cur, v = .pointer (some ⟨b, 0, none⟩) ∧ w.heap[b]? = some (.cells cur T (0, 0)) ∧ All2 (fun (z : BV) u => z.rel h ρ u ∧ u.oneCell' = true) cs cur.toList
theorem OC.ok.ren {c : OC} {h : PH} {ρ ρ' : RM} {v : Value} {w : World} (hc : c.ok h ρ v w) (hu : ∀ j, c.uses j = true → ρ' j = ρ j) : c.ok h ρ' v w := by
  cases c with
  | box T ps => exact hc
  | row T size es => exact hc
  | xbox T cs =>
    obtain ⟨b, cur, e1, e2, ha⟩ := hc
    refine ⟨b, cur, e1, e2, ?_⟩
    clear e2
    have hu' : ∀ j, (cs.any (·.uses j)) = true → ρ' j = ρ j := hu
    clear hu
    generalize cur.toList = l at ha
    induction ha with
    | nil => exact .nil
    | cons h1 t ih => exact .cons ⟨BV.mono (PH.le_refl _) (fun k hk => hu' k (by simp [hk])) h1.1, h1.2⟩ (ih fun k hk => hu' k (by simp only [List.any_cons, hk, Bool.or_true]))

def lk {α : Type} : List (Nat × α) → Nat → Option α
  | [], _ => none
  | (j, x) :: l, k => if k == j then some x else lk l k
def del {α : Type} (k : Nat) : List (Nat × α) → List (Nat × α)
  | [] => []
  | (j, x) :: l => if k == j then del k l else (j, x) :: del k l
theorem lk_mem {α : Type} {k : Nat} {x : α} : ∀ {l : List (Nat × α)}, lk l k = some x → (k, x) ∈ l
  | [], h => by simp [lk] at h
  | (j, y) :: l, h => by
    unfold lk at h
    split at h
    · rename_i e
      have e' : k = j := by simpa using e
      subst e'
      cases h
      exact List.mem_cons_self
    · exact List.mem_cons_of_mem _ (lk_mem h)
theorem mem_del {α : Type} {k : Nat} : ∀ {l : List (Nat × α)} {p : Nat × α}, p ∈ del k l → p ∈ l ∧ p.1 ≠ k
  | [], p, h => by simp [del] at h
  | (j, y) :: l, p, h => by
    unfold del at h
    split at h
    · exact ⟨List.mem_cons_of_mem _ (mem_del h).1, (mem_del h).2⟩
    · rename_i e
      cases List.mem_cons.1 h with
      | inl e' => subst e'; exact ⟨List.mem_cons_self, fun h' => e (by simp [← h'])⟩
      | inr e' => exact ⟨List.mem_cons_of_mem _ (mem_del e').1, (mem_del e').2⟩
theorem del_of_mem {α : Type} {k : Nat} : ∀ {l : List (Nat × α)} {p : Nat × α}, p ∈ l → p.1 ≠ k → p ∈ del k l
  | (j, y) :: l, p, h, hk => by
    unfold del
    cases List.mem_cons.1 h with
    | inl e =>
      subst e
      have : (k == j) = false := by
        cases h' : k == j with
        | false => rfl
        | true => exact absurd (by simpa using h' : k = j).symm hk
      rw [this]
      exact List.mem_cons_self
    | inr e =>
      split
      · exact del_of_mem e hk
      · exact List.mem_cons_of_mem _ (del_of_mem e hk)

structure St where
  slots : List (Nat × SV)
  own : List (Nat × OC)

/-- what came in: the world, the view, where the lent boxes lie -/
structure Env where
  w0 : World
  h0 : PH
  ρ0 : RM
/-- the frame: how many slots, the keys of the boxes that came in, the keys of all blocks that came in -/
structure Sh where
  n : Nat
  fix : List Nat
  lnd : List Nat := []
def lent (E : Env) (n : Sh) (b : Nat) : Prop := ∃ k, k ∈ n.lnd ∧ blkOf (E.ρ0 k) = some b

/-- the owned blocks, each its own, none of them in the view -/
def OwnOk (E : Env) (n : Sh) (own : List (Nat × OC)) (h : PH) (ρ : RM) (w : World) : Prop :=
  ∀ k c, (k, c) ∈ own → c.ok h ρ (ρ k) w ∧ (∀ b, blkOf (ρ k) = some b → (E.w0.heap.size ≤ b ∨ lent E n b) ∧ ∀ o, h b o = none) ∧
    ∀ k' c', (k', c') ∈ own → k' ≠ k → ∀ b, blkOf (ρ k) = some b → blkOf (ρ k') ≠ some b
structure WR (E : Env) (n : Sh) (own : List (Nat × OC)) (h : PH) (ρ : RM) (w : World) : Prop where
  agree : Agree h w
  le : E.h0.le h
  fresh : ∀ b, b < E.w0.heap.size → ¬ lent E n b → h b = E.h0 b
  size : E.w0.heap.size ≤ w.heap.size
  same : ∀ b, b < E.w0.heap.size → ¬ lent E n b → w.heap[b]? = E.w0.heap[b]?
  fixed : ∀ k, k ∈ n.fix → ρ k = E.ρ0 k
  os : w.os = E.w0.os
  out : w.output = E.w0.output
  owned : OwnOk E n own h ρ w
def SlotsRel (h : PH) (ρ : RM) (slots : List (Nat × SV)) (tmps : Array Value) : Prop := ∀ k x, (k, x) ∈ slots → ∃ v, tmps[k]? = some v ∧ x.rel h ρ v
structure R (E : Env) (n : Sh) (s : St) (a : Act) (w : World) : Prop where
  defers : a.defers = []
  size : a.tmps.size = n.n
  rest : ∃ h ρ, WR E n s.own h ρ w ∧ SlotsRel h ρ s.slots a.tmps

def St.get (s : St) (k : Nat) : Option SV := lk s.slots k
def St.set (n d : Nat) (x : SV) (s : St) : St := if d < n then ⟨(d, x) :: del d s.slots, s.own⟩ else s
def St.put (n : Sh) (dst : Option Nat) (x : SV) (s : St) : St := match dst with | some d => s.set n.n d x | none => s
def keepL {α : Type} : List Nat → List (Nat × α) → List (Nat × α)
  | [], _ => []
  | k :: ks, l => match lk l k with
    | some x => (k, x) :: keepL ks l
    | none => keepL ks l
def St.keep (ks kos : List Nat) (s : St) : St := ⟨keepL ks s.slots, keepL kos s.own⟩
theorem mem_keepL {α : Type} {l : List (Nat × α)} {p : Nat × α} : ∀ {ks : List Nat}, p ∈ keepL ks l → p ∈ l
  | [], h => by simp [keepL] at h
  | k :: ks, h => by
    unfold keepL at h
    split at h
    · rename_i x hx
      cases List.mem_cons.1 h with
      | inl e => subst e; exact lk_mem hx
      | inr e => exact mem_keepL e
    · exact mem_keepL h
theorem WR.sub {E : Env} {n : Sh} {own own' : List (Nat × OC)} {h : PH} {ρ : RM} {w : World} (hw : WR E n own h ρ w) (hs : ∀ p, p ∈ own' → p ∈ own) : WR E n own' h ρ w :=
  ⟨hw.agree, hw.le, hw.fresh, hw.size, hw.same, hw.fixed, hw.os, hw.out, fun j c hj => by
    obtain ⟨h1, h2, h3⟩ := hw.owned j c (hs _ hj)
    exact ⟨h1, h2, fun j' c' hj' => h3 j' c' (hs _ hj')⟩⟩

theorem SlotsRel.set {h : PH} {ρ : RM} {slots : List (Nat × SV)} {tmps : Array Value} {n d : Nat} {x : SV} {v : Value} (hs : SlotsRel h ρ slots tmps) (hn : tmps.size = n) (hd : d < n) (hx : x.rel h ρ v) :
    SlotsRel h ρ ((d, x) :: del d slots) (tmps.setIfInBounds d v) := by
  intro k y hy
  cases List.mem_cons.1 hy with
  | inl e =>
    obtain ⟨rfl, rfl⟩ := Prod.mk.inj e
    exact ⟨v, by simp [hn, hd], hx⟩
  | inr e =>
    obtain ⟨h1, h2⟩ := mem_del e
    obtain ⟨u, hu, hr⟩ := hs k y h1
    refine ⟨u, ?_, hr⟩
    rw [Array.getElem?_setIfInBounds_ne (fun e => h2 e.symm)]
    exact hu

theorem R.put {E : Env} {n : Sh} {s : St} {a : Act} {w' : World} {own : List (Nat × OC)} {h : PH} {ρ : RM} {x : SV} {v : Value} {dst : Option Nat}
    (hd : a.defers = []) (hn : a.tmps.size = n.n) (hw : WR E n own h ρ w') (hs : SlotsRel h ρ s.slots a.tmps) (hx : x.rel h ρ v) :
    R E n (({ s with own := own } : St).put n dst x) (a.put dst v) w' := by
  cases dst with
  | none => exact ⟨hd, hn, h, ρ, hw, hs⟩
  | some d =>
    by_cases hdn : d < n.n
    · refine ⟨hd, by simp [Act.put, hn], h, ρ, ?_, ?_⟩
      · simpa [St.put, St.set, hdn] using hw
      · simpa [St.put, St.set, hdn, Act.put] using hs.set hn hdn hx
    · refine ⟨hd, by simp [Act.put, hn], h, ρ, ?_, ?_⟩
      · simpa [St.put, St.set, hdn] using hw
      · have : a.tmps.setIfInBounds d v = a.tmps := by
          apply Array.ext_getElem?
          intro i
          by_cases hi : d = i
          · subst hi; simp [hn, hdn]
          · rw [Array.getElem?_setIfInBounds_ne hi]
        simpa [St.put, St.set, hdn, Act.put, this] using hs

theorem R.keep {E : Env} {n : Sh} {s : St} {a : Act} {w : World} (ks kos : List Nat) (hr : R E n s a w) : R E n (s.keep ks kos) a w := by
  obtain ⟨hd, hn, h, ρ, hw, hs⟩ := hr
  exact ⟨hd, hn, h, ρ, hw.sub fun _ hp => mem_keepL hp, fun _ _ hx => hs _ _ (mem_keepL hx)⟩

/-! ## operands -/
def cst : Value → Option CP
  | .int k n => if k.min ≤ n ∧ n ≤ k.max then some (.int k n) else none
  | .bool b => some (.bool b)
  | .string s => if s.data.toList.length ≤ maxLen then some (.str s.data.toList) else none
  | .slice none 0 0 => some .nil
  | .func f a b => some (.raw (.func f a b))
  | .nilFunc => some (.raw .nilFunc)
  | .pointer none => some (.raw (.pointer none))
  | _ => none
def cvs : List Value → Option (List CP)
  | [] => some []
  | v :: l => (cst v).bind fun c => (cvs l).map (c :: ·)
def St.ev (s : St) : Operand → Option SV
  | .tmp t => s.get t
  | .const (.agg cs) => (cvs cs.toList).map fun ps => .b (.agg ps)
  | .const v => (cst v).map fun c => .b (.one c)
  | .func f => some (.b (.one (.raw (.func (.func f) #[] #[]))))
  | .global _ => none
theorem cst_rel {v : Value} {c : CP} (hc : cst v = some c) (h : PH) : c.rel h v := by
  unfold cst at hc
  split at hc <;> first | (split at hc <;> simp at hc <;> subst hc <;> simp_all [CP.int, CP.str, inR]; done) | (simp at hc; subst hc; simp [CP.bool, CP.nil, CP.raw, Value.oneCell']; done) | simp at hc
theorem cvs_rel (h : PH) : ∀ {l : List Value} {ps : List CP}, cvs l = some ps → cellsRel h ps l
  | [], ps, e => by simp [cvs] at e; subst e; exact .nil
  | v :: l, ps, e => by
    unfold cvs at e
    cases hc : cst v with
    | none => simp [hc] at e
    | some c =>
      cases hl : cvs l with
      | none => simp [hc, hl] at e
      | some q =>
        simp [hc, hl] at e
        subst e
        exact .cons (cst_rel hc h) (cvs_rel h hl)
theorem ev_rel {h : PH} {ρ : RM} {s : St} {a : Act} (hs : SlotsRel h ρ s.slots a.tmps) {o : Operand} {x : SV} (he : s.ev o = some x) : x.rel h ρ (a.eval o) := by
  cases o with
  | tmp t =>
    obtain ⟨v, hv, hr⟩ := hs _ _ (lk_mem (show lk s.slots t = some x from he))
    have : a.eval (.tmp t) = v := by simp [Act.eval, Array.getD_eq_getD_getElem?, hv]
    rw [this]; exact hr
  | const v =>
    cases v with
    | agg cs =>
      simp only [St.ev, Option.map_eq_some_iff] at he
      obtain ⟨ps, hps, rfl⟩ := he
      exact ⟨cs, rfl, cvs_rel h hps⟩
    | _ =>
      simp only [St.ev, Option.map_eq_some_iff] at he
      obtain ⟨c, hc, rfl⟩ := he
      exact cst_rel hc h
  | global g => simp [St.ev] at he
  | func f => simp only [St.ev, Option.some.injEq] at he; subst he; exact ⟨rfl, rfl⟩

/-! ## operations, regions -/
abbrev Post := Exit → Act → World → Prop
/-- one operation leads from what s says to what s' says -/
def Op1 (P : Program) (E : Env) (n : Sh) (o : Oper) (s s' : St) : Prop :=
  ∀ a w, R E n s a w → ∀ (next : Act → World → Prop) (Q : Post), (∀ a' w', R E n s' a' w' → next a' w') → o.wp P a w next Q
def Ops (P : Program) (E : Env) (n : Sh) (ops : Array Oper) (is : List Nat) (s : St) (Q : Post) : Prop := ∀ a w, R E n s a w → wpOps P ops Q is a w
def Tri (P : Program) (E : Env) (n : Sh) (c : Code) (s : St) (Q : Post) : Prop := ∀ a w, R E n s a w → c.wp P Q a w
/-- what s says suffices for Q at the exit e -/
def Fin (E : Env) (n : Sh) (e : Exit) (s : St) (Q : Post) : Prop := ∀ a w, R E n s a w → Q e a w

section
variable {P : Program} {E : Env} {n : Sh} {ops : Array Oper} {is : List Nat} {s s' : St} {Q : Post} {i : Nat} {o : Oper} {c x y : Code}

theorem Ops.nil (h : Fin E n .normal s Q) : Ops P E n ops [] s Q := fun a w hr => h a w hr
theorem Ops.keep (ks kos : List Nat) (hs : s.keep ks kos = s') (h : Ops P E n ops is s' Q) : Ops P E n ops is s Q := fun a w hr => h a w (hs ▸ hr.keep ks kos)
theorem Tri.keep (ks kos : List Nat) (hs : s.keep ks kos = s') (h : Tri P E n c s' Q) : Tri P E n c s Q := fun a w hr => h a w (hs ▸ hr.keep ks kos)
theorem Fin.keep {e : Exit} (ks kos : List Nat) (hs : s.keep ks kos = s') (h : Fin E n e s' Q) : Fin E n e s Q := fun a w hr => h a w (hs ▸ hr.keep ks kos)

theorem Tri.region {id : Nat} (h : Ops P E n ops (List.range ops.size) s Q) : Tri P E n (.region id ops false) s Q := fun a w hr => wp_region (h a w hr)
theorem Tri.seq (h : Tri P E n x s (Exit.then (y.wp P Q) Q)) : Tri P E n (.seq x y) s Q := fun a w hr => wp_seq (h a w hr)
theorem Tri.skip (h : Fin E n .normal s Q) : Tri P E n .skip s Q := fun a w hr => wp_skip (h a w hr)
theorem Tri.ret (h : Fin E n .ret s Q) : Tri P E n .ret s Q := fun a w hr => wp_ret (h a w hr)
theorem Tri.exit {id : Nat} (h : Fin E n (.exit id) s Q) : Tri P E n (.exit id) s Q := fun a w hr => wp_exit (h a w hr)
theorem Tri.block {id : Nat} (h : Tri P E n c s (Exit.inBlock id Q)) : Tri P E n (.block id c) s Q := fun a w hr => wp_block (h a w hr)
theorem Tri.cond {t : Nat} {b : Bool} (hs : s.get t = some (.b (.one (.bool b)))) (h1 : b = true → Tri P E n x s Q) (h2 : b = false → Tri P E n y s Q) : Tri P E n (.cond (.tmp t) x y) s Q := by
  intro a w hr
  obtain ⟨hdf, hn, h, ρ, hw, hsl⟩ := id hr
  have : a.eval (.tmp t) = .bool b := ev_rel hsl (o := .tmp t) hs
  exact wp_cond_split this (fun e => h1 e a w hr) (fun e => h2 e a w hr)
theorem Fin.then (h : Tri P E n y s Q) : Fin E n .normal s (Exit.then (y.wp P Q) Q) := fun a w hr => h a w hr
theorem Fin.then_ret {K : Act → World → Prop} (h : Fin E n .ret s Q) : Fin E n .ret s (Exit.then K Q) := fun a w hr => h a w hr
theorem Fin.then_exit {K : Act → World → Prop} {id : Nat} (h : Fin E n (.exit id) s Q) : Fin E n (.exit id) s (Exit.then K Q) := fun a w hr => h a w hr
theorem Fin.block_normal {id : Nat} (h : Fin E n .normal s Q) : Fin E n .normal s (Exit.inBlock id Q) := fun a w hr => h a w hr
theorem Fin.block_ret {id : Nat} (h : Fin E n .ret s Q) : Fin E n .ret s (Exit.inBlock id Q) := fun a w hr => h a w hr
theorem Fin.block_exit {id : Nat} (h : Fin E n .normal s Q) : Fin E n (.exit id) s (Exit.inBlock id Q) := fun a w hr => by simp only [Exit.inBlock, if_true]; exact h a w hr
theorem Fin.block_exit_other {id id' : Nat} (hne : id' ≠ id) (h : Fin E n (.exit id') s Q) : Fin E n (.exit id') s (Exit.inBlock id Q) := fun a w hr => by simp only [Exit.inBlock, hne, if_false]; exact h a w hr

/-- a round's end: what the next round begins with -/
def Again {ι : Type} (E : Env) (n : Sh) (S : ι → St) (I : ι → Prop) (μ : ι → Nat) (m : Nat) (a : Act) (w : World) : Prop := ∃ j, I j ∧ μ j < m ∧ R E n (S j) a w
theorem Tri.loop {ι : Type} (S : ι → St) (I : ι → Prop) (μ : ι → Nat) (j₀ : ι) (h₀ : I j₀) (hs : s = S j₀)
    (round : ∀ j, I j → Tri P E n c (S j) (Exit.then (Again E n S I μ (μ j)) Q)) : Tri P E n (.loop c) s Q := by
  intro a w hr b k cs
  have key : ∀ m j a w, μ j = m → I j → R E n (S j) a w → ∃ e a' w', Q e a' w' ∧ Arrives P (lone (b.at a (.code c :: .inLoop c :: k)) cs w) b k cs e a' w' := by
    intro m
    induction m using Nat.strongRecOn with
    | _ m ih =>
      intro j a w hm hI hr
      obtain ⟨e, a₁, w₁, hq, harr⟩ := round j hI a w hr b (.inLoop c :: k) cs
      cases e with
      | normal =>
        obtain ⟨j', hI', hlt, hr'⟩ := hq
        obtain ⟨e₂, a₂, w₂, hq₂, harr₂⟩ := ih (μ j') (hm ▸ hlt) j' a₁ w₁ rfl hI' hr'
        exact ⟨e₂, a₂, w₂, hq₂, .of_steps (Steps.trans harr (.one step_inLoop)) harr₂⟩
      | exit id => exact ⟨_, a₁, w₁, hq, .pass (x := .inLoop c) rfl (fun _ _ => .inl (by simp)) harr⟩
      | goto l => exact ⟨_, a₁, w₁, hq, .pass (x := .inLoop c) rfl (fun _ _ => .inl (by simp)) harr⟩
      | ret => exact ⟨_, a₁, w₁, hq, .pass (x := .inLoop c) rfl (fun _ _ => .inl (by simp)) harr⟩
      | panic ch => exact ⟨_, a₁, w₁, hq, .pass (x := .inLoop c) rfl (fun _ _ => .inl (by simp)) harr⟩
      | outgrown => exact ⟨_, a₁, w₁, hq, .pass (x := .inLoop c) rfl (fun _ _ => .inl (by simp)) harr⟩
  obtain ⟨e, a', w', hq, harr⟩ := key _ j₀ a w rfl h₀ (hs ▸ hr)
  exact ⟨e, a', w', hq, .of_steps (.one step_loop) harr⟩
theorem Fin.again {ι : Type} {S : ι → St} {I : ι → Prop} {μ : ι → Nat} {m : Nat} (j : ι) (hj : I j) (hm : μ j < m) (hs : s = S j) : Fin E n .normal s (Exit.then (Again E n S I μ m) Q) :=
  fun _ _ hr => ⟨j, hj, hm, hs ▸ hr⟩
end
end Go.Sk
