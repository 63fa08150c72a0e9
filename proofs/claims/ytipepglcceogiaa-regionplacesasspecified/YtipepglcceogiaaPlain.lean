/- What the functions of chapter 41 compute, in plain terms. -/
import Derived.Test.YtipepglcceogiaaSkK
namespace Go.Sk
structure Holding where
  Body : Int
  Epoch : Int
  Phase : Int
  Peer : Int
  Data : Str
  deriving DecidableEq, Inhabited
structure Parcel where
  From : Int
  To : Int
  Kind : Int
  Body : Int
  Epoch : Int
  Data : Str
  deriving DecidableEq, Inhabited
def eHolding (x : Holding) : List CP := [.i x.Body, .i x.Epoch, .i x.Phase, .i x.Peer, .str x.Data]
def eParcel (x : Parcel) : List CP := [.i x.From, .i x.To, .i x.Kind, .i x.Body, .i x.Epoch, .str x.Data]
def knownS (b : Int) : Bool := decide (1 ≤ b) && decide (b ≤ 400)
def nodeS (b : Int) : Bool := decide (0 ≤ b) && decide (b < 16)
def rightS (h : Holding) : Bool :=
  if !knownS h.Body || decide (h.Epoch < 0) || decide (1099511627776 < h.Epoch) then false
  else if h.Phase = 0 then decide (h.Peer = 0) && decide (h.Data = [])
  else if h.Phase = 1 then decide (h.Peer = 0)
  else if h.Phase = 2 ∨ h.Phase = 3 ∨ h.Phase = 4 then nodeS h.Peer && decide (1 ≤ h.Epoch)
  else false
end Go.Sk
namespace Go.Sk
/-! ## lists by an index -/
theorem idx_cons_zero {α : Type} [Inhabited α] (a : α) (l : List α) : idx (a :: l) 0 = a := rfl
theorem idx_cons_pos {α : Type} [Inhabited α] (a : α) (l : List α) {i : Int} (h : 1 ≤ i) : idx (a :: l) i = idx l (i - 1) := by
  have e : i.toNat = (i - 1).toNat + 1 := by omega
  unfold idx
  rw [e]
  rfl
def allB (n : Int) (p : Int → Bool) : Bool := (List.range n.toNat).all fun i => p i
theorem allB_iff {n : Int} {p : Int → Bool} : allB n p = true ↔ ∀ j, 0 ≤ j → j < n → p j = true := by
  simp only [allB, List.all_eq_true, List.mem_range]
  constructor
  · intro h j h0 h1
    have := h j.toNat (by omega)
    have e : ((j.toNat : Nat) : Int) = j := by omega
    rwa [e] at this
  · intro h i hi
    exact h i (by omega) (by omega)

/-! ## borders -/
def ascS (l : List Int) : Bool := allB l.length fun j => decide (j = 0) || decide (idx l (j - 1) < idx l j)
def checkS (l : List Int) : Int := if 16 ≤ l.length then 2 else if ascS l then 0 else 1
theorem ascS_iff {l : List Int} : ascS l = true ↔ ∀ j : Int, 1 ≤ j → j < (l.length : Int) → idx l (j - 1) < idx l j := by
  rw [ascS, allB_iff]
  constructor
  · intro h j h1 h2
    have := h j (by omega) h2
    simp at this
    rcases this with h | h
    · omega
    · exact h
  · intro h j h1 h2
    by_cases e : j = 0
    · simp [e]
    · simp [h j (by omega) h2]
theorem check_long {l : List Int} (h : 16 ≤ (l.length : Int)) : checkS l = 2 := by unfold checkS; rw [if_pos (by omega)]
theorem check_bad {l : List Int} {k : Int} (hs : (l.length : Int) ≤ 15) (h1 : 1 ≤ k) (h2 : k < l.length) (h3 : idx l k ≤ idx l (k - 1)) : checkS l = 1 := by
  unfold checkS
  rw [if_neg (by omega), if_neg]
  intro h
  have := ascS_iff.1 h k h1 h2
  omega
theorem check_ok {l : List Int} (hs : (l.length : Int) ≤ 15) (h : ∀ j : Int, 1 ≤ j → j < (l.length : Int) → idx l (j - 1) < idx l j) : checkS l = 0 := by
  unfold checkS
  rw [if_neg (by omega), if_pos (ascS_iff.2 h)]
theorem asc_step {l : List Int} {k : Int} (h : ∀ j, 1 ≤ j → j < k → idx l (j - 1) < idx l j) (hk : 1 ≤ k → idx l (k - 1) < idx l k) : ∀ j, 1 ≤ j → j < k + 1 → idx l (j - 1) < idx l j := fun j h1 h2 => by
  by_cases e : j = k
  · subst e; exact hk h1
  · exact h j h1 (by omega)

/-! ## binary search -/
def bs (p : Int → Bool) : Nat → Int → Int → Int
  | 0, i, _ => i
  | f + 1, i, j => if i < j then (if p ((i + j) / 2) then bs p f ((i + j) / 2 + 1) j else bs p f i ((i + j) / 2)) else i
def bsr (p : Int → Bool) (i j : Int) : Int := bs p ((j - i).toNat + 1) i j
theorem bs_fuel (p : Int → Bool) : ∀ (f g : Nat) (i j : Int), (j - i).toNat < f → (j - i).toNat < g → bs p f i j = bs p g i j
  | 0, g, i, j, h, _ => by omega
  | f + 1, 0, i, j, _, h => by omega
  | f + 1, g + 1, i, j, h1, h2 => by
    simp only [bs]
    split
    · split
      · exact bs_fuel p f g _ _ (by omega) (by omega)
      · exact bs_fuel p f g _ _ (by omega) (by omega)
    · rfl
theorem bsr_up {p : Int → Bool} {i j : Int} (h : i < j) (hp : p ((i + j) / 2) = true) : bsr p i j = bsr p ((i + j) / 2 + 1) j := by
  unfold bsr
  rw [bs, if_pos h, if_pos hp]
  exact bs_fuel p _ _ _ _ (by omega) (by omega)
theorem bsr_down {p : Int → Bool} {i j : Int} (h : i < j) (hp : p ((i + j) / 2) = false) : bsr p i j = bsr p i ((i + j) / 2) := by
  unfold bsr
  rw [bs, if_pos h, if_neg (by simp [hp])]
  exact bs_fuel p _ _ _ _ (by omega) (by omega)
theorem bsr_end {p : Int → Bool} {i j : Int} (h : j ≤ i) : bsr p i j = i := by
  unfold bsr
  rw [bs, if_neg (by omega)]
theorem bsr_bound (p : Int → Bool) : ∀ (n : Nat) (i j : Int), (j - i).toNat = n → i ≤ j → i ≤ bsr p i j ∧ bsr p i j ≤ j := by
  intro n
  induction n using Nat.strongRecOn with
  | _ n ih =>
    intro i j hn hij
    by_cases h : i < j
    · cases hp : p ((i + j) / 2) with
      | true =>
        rw [bsr_up h hp]
        have := ih ((j - ((i + j) / 2 + 1)).toNat) (by omega) ((i + j) / 2 + 1) j rfl (by omega)
        omega
      | false =>
        rw [bsr_down h hp]
        have := ih ((((i + j) / 2) - i).toNat) (by omega) i ((i + j) / 2) rfl (by omega)
        omega
    · rw [bsr_end (by omega)]; omega
def bsS (x : List Int) (t : Int) : Int := bsr (fun h => decide (idx x h < t)) 0 x.length
def bsF (x : List Int) (t : Int) : Bool := decide (bsS x t < x.length) && decide (idx x (bsS x t) = t)
theorem bsS_bound (x : List Int) (t : Int) : 0 ≤ bsS x t ∧ bsS x t ≤ x.length := bsr_bound _ _ 0 x.length rfl (by omega)
def regionP (l : List Int) (x : Int) : Int := if bsF l x then bsS l x + 1 else bsS l x
def cntS (x : Int) : List Int → Int
  | [] => 0
  | a :: l => (if a ≤ x then 1 else 0) + cntS x l
theorem cntS_append (x : Int) : ∀ (l m : List Int), cntS x (l ++ m) = cntS x l + cntS x m
  | [], m => by simp [cntS]
  | a :: l, m => by simp only [List.cons_append, cntS, cntS_append x l m]; omega
theorem take_idx {α : Type} [Inhabited α] {l : List α} {k : Int} (h0 : 0 ≤ k) (h1 : k < l.length) : l.take (k + 1).toNat = l.take k.toNat ++ [idx l k] := by
  have e : (k + 1).toNat = k.toNat + 1 := by omega
  have hk : k.toNat < l.length := by omega
  rw [e, List.take_add_one, idx_eq h0 h1]
  rfl
theorem cnt_step {x : Int} {l : List Int} {k : Int} (h0 : 0 ≤ k) (h1 : k < l.length) : cntS x (l.take (k + 1).toNat) = cntS x (l.take k.toNat) + if idx l k ≤ x then 1 else 0 := by
  rw [take_idx h0 h1, cntS_append]
  simp [cntS]
theorem bsS_end {x : List Int} {t a z : Int} (hb : bsr (fun h => decide (idx x h < t)) a z = bsr (fun h => decide (idx x h < t)) 0 x.length) (h : z ≤ a) : bsS x t = a := by
  unfold bsS; rw [← hb, bsr_end h]
theorem bsF_end {x : List Int} {t a z : Int} (hb : bsr (fun h => decide (idx x h < t)) a z = bsr (fun h => decide (idx x h < t)) 0 x.length) (h : z ≤ a) :
    bsF x t = (decide (a < x.length) && (decide (idx x a = t) || (false && false))) := by
  unfold bsF; rw [bsS_end hb h]; simp
end Go.Sk

namespace Go.Sk
theorem neg_dec {p : Prop} [Decidable p] : (!decide p) = decide (¬ p) := by simp
end Go.Sk
namespace Go.Sk
/-! ## holdings -/
def cmpP (l : List Holding) (c : Int) : Int → Bool := fun h => decide (IntKind.i64.wrap ((idx l h).Body - c) < 0)
def placeS (l : List Holding) (c : Int) : Int := bsr (cmpP l c) 0 l.length
def placeF (l : List Holding) (c : Int) : Bool := decide (placeS l c < l.length) && decide (IntKind.i64.wrap ((idx l (placeS l c)).Body - c) = 0)
theorem placeS_bound (l : List Holding) (c : Int) : 0 ≤ placeS l c ∧ placeS l c ≤ l.length := bsr_bound _ _ 0 l.length rfl (by omega)
theorem placeF_bound {l : List Holding} {c : Int} (h : placeF l c = true) : 0 ≤ placeS l c ∧ placeS l c < l.length := by
  have := placeS_bound l c
  simp [placeF] at h
  omega
theorem placeS_end {l : List Holding} {c a z : Int} (hb : bsr (cmpP l c) a z = bsr (cmpP l c) 0 l.length) (h : z ≤ a) : placeS l c = a := by
  unfold placeS; rw [← hb, bsr_end h]
theorem placeF_end {l : List Holding} {c a z : Int} (hb : bsr (cmpP l c) a z = bsr (cmpP l c) 0 l.length) (h : z ≤ a) :
    placeF l c = (decide (a < l.length) && decide (IntKind.i64.wrap ((idx l a).Body - c) = 0)) := by
  unfold placeF; rw [placeS_end hb h]
def noHold (c : Int) : Holding := ⟨c, 0, 0, 0, []⟩
def getP (l : List Holding) (c : Int) : Holding := if placeF l c then idx l (placeS l c) else ⟨c, 0, 0, 0, []⟩
def getS (l : List Holding) (c : Int) : Holding := match l.find? (fun h => decide (h.Body = c)) with
  | some h => h
  | none => ⟨c, 0, 0, 0, []⟩
theorem getS_none {l : List Holding} {c : Int} (h : ∀ j, 0 ≤ j → j < (l.length : Int) → (idx l j).Body ≠ c) : getS l c = ⟨c, 0, 0, 0, []⟩ := by
  have : l.find? (fun h => decide (h.Body = c)) = none := by
    rw [List.find?_eq_none]
    intro x hx
    obtain ⟨i, hi, rfl⟩ := List.getElem_of_mem hx
    have := h i (by omega) (by omega)
    have e : idx l (i : Int) = l[i] := by simp [idx, List.getD, List.getElem?_eq_getElem hi]
    rw [e] at this
    simpa using this
  simp [getS, this]
theorem idx_nat {α : Type} [Inhabited α] (l : List α) (i : Nat) (hi : i < l.length) : idx l (i : Int) = l[i] := by simp [idx, List.getD, List.getElem?_eq_getElem hi]
theorem getS_at {l : List Holding} {c k : Int} (h0 : 0 ≤ k) (h1 : k < l.length) (hk : (idx l k).Body = c) (h : ∀ j, 0 ≤ j → j < k → (idx l j).Body ≠ c) : getS l c = idx l k := by
  have hkn : k.toNat < l.length := by omega
  have e : ((k.toNat : Nat) : Int) = k := by omega
  have hk' : idx l k = l[k.toNat] := by have h := idx_nat l k.toNat hkn; rwa [e] at h
  have : l.find? (fun h => decide (h.Body = c)) = some l[k.toNat] := by
    rw [List.find?_eq_some_iff_getElem]
    refine ⟨by rw [← hk']; simpa using hk, k.toNat, hkn, rfl, fun j hj => ?_⟩
    have := h j (by omega) (by omega)
    rw [idx_nat l j (by omega)] at this
    simpa using this
  simp [getS, this, hk']
end Go.Sk
namespace Go.Sk
def setOk (l : List Holding) (c : Int) : Prop := placeF l c = true ∨ placeS l c = l.length
def setP (l : List Holding) (h : Holding) : List Holding := if placeF l h.Body then l.set (placeS l h.Body).toNat h else l ++ [h]
theorem setP_in {l : List Holding} {h : Holding} (hp : placeF l h.Body = true) : setP l h = l.set (placeS l h.Body).toNat h := by rw [setP, if_pos hp]
theorem setP_out {l : List Holding} {h : Holding} (hp : placeF l h.Body = false) : setP l h = l ++ [h] := by rw [setP, if_neg (by simp [hp])]
theorem setOk_out {l : List Holding} {c : Int} (hs : setOk l c) (hp : placeF l c = false) : placeS l c = l.length := by
  rcases hs with h | h
  · rw [hp] at h; simp at h
  · exact h
def beginE (l : List Holding) (c : Int) : Int := if !knownS c then 1 else if placeF l c then 6 else 0
def beginL (l : List Holding) (c : Int) (d : Str) : List Holding := if !knownS c then [] else if placeF l c then [] else setP l ⟨c, 0, 1, 0, d⟩
def putE (l : List Holding) (c : Int) : Int := if (getP l c).Phase ≠ 1 then 4 else 0
def putL (l : List Holding) (c : Int) (d : Str) : List Holding := if (getP l c).Phase ≠ 1 then [] else setP l ⟨(getP l c).Body, (getP l c).Epoch, (getP l c).Phase, (getP l c).Peer, d⟩
def offerE (l : List Holding) (f c t : Int) : Int :=
  if !nodeS f || !nodeS t || decide (f = t) then 1 else if (getP l c).Phase ≠ 1 then 4 else if (getP l c).Epoch = 1099511627776 then 2 else 0
def offerL (l : List Holding) (f c t : Int) : List Holding :=
  if !nodeS f || !nodeS t || decide (f = t) then [] else if (getP l c).Phase ≠ 1 then [] else if (getP l c).Epoch = 1099511627776 then [] else setP l ⟨(getP l c).Body, (getP l c).Epoch + 1, 2, t, (getP l c).Data⟩
def cancelE (l : List Holding) (c : Int) : Int := if (getP l c).Phase ≠ 2 then 4 else 0
def cancelL (l : List Holding) (c : Int) : List Holding := if (getP l c).Phase ≠ 2 then [] else setP l ⟨(getP l c).Body, (getP l c).Epoch, 1, 0, (getP l c).Data⟩
def letterOf (f : Int) (h : Holding) : List Parcel :=
  if h.Phase = 2 then [⟨f, h.Peer, 1, h.Body, h.Epoch, h.Data⟩] else if h.Phase = 3 then [⟨f, h.Peer, 3, h.Body, h.Epoch, []⟩] else []
def lettersS (f : Int) (l : List Holding) : List Parcel := l.flatMap (letterOf f)
theorem letters_step {f : Int} {l : List Holding} {k : Int} (h0 : 0 ≤ k) (h1 : k < l.length) : lettersS f (l.take (k + 1).toNat) = lettersS f (l.take k.toNat) ++ letterOf f (idx l k) := by
  rw [take_idx h0 h1]; simp [lettersS]
def activeS (l : List Holding) : List Int := (l.filter fun h => decide (h.Phase = 1)).map (·.Body)
theorem active_step {l : List Holding} {k : Int} (h0 : 0 ≤ k) (h1 : k < l.length) : activeS (l.take (k + 1).toNat) = activeS (l.take k.toNat) ++ if (idx l k).Phase = 1 then [(idx l k).Body] else [] := by
  rw [take_idx h0 h1]
  simp only [activeS, List.filter_append, List.map_append]
  congr 1
  by_cases h : (idx l k).Phase = 1 <;> simp [h]
structure Rule where
  kind : Int
  next : Nat
  deriving DecidableEq, Inhabited
def eRule (r : Rule) : List CP := [.i r.kind, .raw (.func (.func r.next) #[] #[])]
def ruleH (q : Nat) (h : Holding) (x : Parcel) (m : Bool) : Holding :=
  match q with
  | 1 => if h.Epoch < x.Epoch ∧ (h.Phase = 0 ∨ h.Phase = 4 ∨ h.Phase = 3) then ⟨x.Body, x.Epoch, 4, x.From, x.Data⟩ else h
  | 2 => if h.Phase = 2 ∧ m = true then ⟨h.Body, h.Epoch, 3, h.Peer, h.Data⟩ else h
  | 3 => if h.Phase = 4 ∧ m = true then ⟨h.Body, h.Epoch, 1, 0, h.Data⟩ else h
  | _ => if h.Phase = 3 ∧ m = true then ⟨h.Body, h.Epoch, 0, 0, []⟩ else h
def ruleK (q : Nat) (h : Holding) (x : Parcel) (m : Bool) : Int :=
  match q with
  | 1 => if h.Epoch < x.Epoch ∧ (h.Phase = 0 ∨ h.Phase = 4 ∨ h.Phase = 3) then 2 else if h.Phase = 4 ∧ m = true then 2 else 0
  | 2 => if h.Phase = 2 ∧ m = true then 3 else 0
  | 3 => if h.Phase = 4 ∧ m = true then 4 else if x.Epoch < h.Epoch ∨ (h.Epoch = x.Epoch ∧ h.Phase ≠ 4) then 4 else 0
  | _ => 0
end Go.Sk
namespace Go.Sk
def recvBad (a : Int) (x : Parcel) : Bool := decide (x.To ≠ a) || !nodeS x.From || decide (x.From = a) || !knownS x.Body || decide (x.Epoch < 1) || decide (1099511627776 < x.Epoch)
def recvM (l : List Holding) (x : Parcel) : Bool := decide ((getP l x.Body).Epoch = x.Epoch) && decide ((getP l x.Body).Peer = x.From)
def recvH (l : List Holding) (x : Parcel) : Holding := ruleH x.Kind.toNat (getP l x.Body) x (recvM l x)
def recvK (l : List Holding) (x : Parcel) : Int := ruleK x.Kind.toNat (getP l x.Body) x (recvM l x)
def kindS (k : Int) : Bool := decide (1 ≤ k) && decide (k ≤ 4)
def recvL (l : List Holding) (a : Int) (x : Parcel) : List Holding :=
  if recvBad a x || !kindS x.Kind then l else if recvH l x = getP l x.Body then l else setP l (recvH l x)
def recvP (l : List Holding) (a : Int) (x : Parcel) : List Parcel :=
  if recvBad a x || !kindS x.Kind then [] else if recvK l x = 0 then [] else [⟨a, x.From, recvK l x, x.Body, x.Epoch, []⟩]
theorem setOk_rule {l : List Holding} {x : Parcel} {m : Bool} {q : Nat} (h1 : setOk l x.Body) (h2 : setOk l (getP l x.Body).Body) : setOk l (ruleH q (getP l x.Body) x m).Body := by
  unfold ruleH
  split <;> split <;> assumption
theorem kindS_end {k : Int} (h : ∀ j, 1 ≤ j → j ≤ 4 → k ≠ j) : kindS k = false := by
  rw [Bool.eq_false_iff]
  intro h1
  simp [kindS] at h1
  exact h k h1.1 h1.2 rfl
theorem kinds_step {k j0 : Int} (h : ∀ j, 1 ≤ j → j ≤ j0 → k ≠ j) (hk : j0 + 1 ≠ k) : ∀ j, 1 ≤ j → j ≤ j0 + 1 → k ≠ j := fun j h1 h2 => by
  by_cases e : j = j0 + 1
  · subst e; exact fun h => hk h.symm
  · exact h j h1 (by omega)
end Go.Sk
namespace Go.Sk
section
variable {l : List Holding} {a : Int} {x : Parcel}
theorem recvL_bad (hb : recvBad a x = true) : recvL l a x = l := by simp [recvL, hb]
theorem recvP_bad (hb : recvBad a x = true) : recvP l a x = [] := by simp [recvP, hb]
theorem recvL_kind (hb : kindS x.Kind = false) : recvL l a x = l := by simp [recvL, hb]
theorem recvP_kind (hb : kindS x.Kind = false) : recvP l a x = [] := by simp [recvP, hb]
theorem recvL_new (q : Nat) (k : Int) (hb : recvBad a x = false) (hk : k = x.Kind) (hq : k.toNat = q) (hs : kindS k = true) (h : ¬ ruleH q (getP l x.Body) x (recvM l x) = getP l x.Body) : recvL l a x = setP l (ruleH q (getP l x.Body) x (recvM l x)) := by
  subst hk hq; simp [recvL, recvH, hb, hs, h]
theorem recvL_old (q : Nat) (k : Int) (hb : recvBad a x = false) (hk : k = x.Kind) (hq : k.toNat = q) (hs : kindS k = true) (h : ruleH q (getP l x.Body) x (recvM l x) = getP l x.Body) : recvL l a x = l := by
  subst hk hq; simp [recvL, recvH, hb, hs, h]
theorem recvP_none (q : Nat) (k : Int) (hb : recvBad a x = false) (hk : k = x.Kind) (hq : k.toNat = q) (hs : kindS k = true) (h : ruleK q (getP l x.Body) x (recvM l x) = 0) : recvP l a x = [] := by
  subst hk hq; simp [recvP, recvK, hb, hs, h]
theorem recvP_one (q : Nat) (k : Int) (hb : recvBad a x = false) (hk : k = x.Kind) (hq : k.toNat = q) (hs : kindS k = true) (h : ¬ ruleK q (getP l x.Body) x (recvM l x) = 0) : recvP l a x = [⟨a, x.From, ruleK q (getP l x.Body) x (recvM l x), x.Body, x.Epoch, []⟩] := by
  subst hk hq; simp [recvP, recvK, hb, hs, h]
end
end Go.Sk
namespace Go.Sk
def holdSkip (h : Holding) : Bool := decide (h.Phase = 0) || decide (h.Phase = 4)
def holdTake (b : Int) (t h : Holding) : Bool := decide (b < 0) || decide (t.Epoch < h.Epoch) || (decide (h.Epoch = t.Epoch) && decide (h.Phase = 1) && decide (t.Phase ≠ 1))
def holdGo (c : Int) : List (List Holding) → Int → Int → Holding → Int
  | [], _, b, _ => b
  | l :: r, i, b, t => if holdSkip (getP l c) then holdGo c r (i + 1) b t else if holdTake b t (getP l c) then holdGo c r (i + 1) i (getP l c) else holdGo c r (i + 1) b t
def noH : Holding := ⟨0, 0, 0, 0, []⟩
def holdS (all : List (List Holding)) (c : Int) : Int := holdGo c all 0 (-1) noH
theorem drop_idx {α : Type} [Inhabited α] {l : List α} {k : Int} (h0 : 0 ≤ k) (h1 : k < l.length) : l.drop k.toNat = idx l k :: l.drop (k + 1).toNat := by
  have e : (k + 1).toNat = k.toNat + 1 := by omega
  have hk : k.toNat < l.length := by omega
  have hn := idx_nat l k.toNat hk
  have e2 : ((k.toNat : Nat) : Int) = k := by omega
  rw [e2] at hn
  rw [List.drop_eq_getElem_cons hk, e, hn]
section
variable {all : List (List Holding)} {c k b z : Int} {t : Holding}
theorem hold_skip (h : holdGo c (all.drop k.toNat) k b t = z) (h0 : 0 ≤ k) (h1 : k < all.length) (hs : holdSkip (getP (idx all k) c) = true) : holdGo c (all.drop (k + 1).toNat) (k + 1) b t = z := by
  rw [drop_idx h0 h1, holdGo, if_pos hs] at h; exact h
theorem hold_take (h : holdGo c (all.drop k.toNat) k b t = z) (h0 : 0 ≤ k) (h1 : k < all.length) (hs : holdSkip (getP (idx all k) c) = false) (ht : holdTake b t (getP (idx all k) c) = true) : holdGo c (all.drop (k + 1).toNat) (k + 1) k (getP (idx all k) c) = z := by
  rw [drop_idx h0 h1, holdGo, if_neg (by simp [hs]), if_pos ht] at h; exact h
theorem hold_keep (h : holdGo c (all.drop k.toNat) k b t = z) (h0 : 0 ≤ k) (h1 : k < all.length) (hs : holdSkip (getP (idx all k) c) = false) (ht : holdTake b t (getP (idx all k) c) = false) : holdGo c (all.drop (k + 1).toNat) (k + 1) b t = z := by
  rw [drop_idx h0 h1, holdGo, if_neg (by simp [hs]), if_neg (by simp [ht])] at h; exact h
theorem hold_end (h : holdGo c (all.drop k.toNat) k b t = z) (h1 : (all.length : Int) ≤ k) : z = b := by
  rw [List.drop_of_length_le (by omega), holdGo] at h; exact h.symm
end
end Go.Sk
namespace Go.Sk
instance (l : List Holding) (c : Int) : Decidable (setOk l c) := inferInstanceAs (Decidable (_ ∨ _))
theorem hall_of {all : List (List Holding)} {n : Nat} (h : (all.all fun l => decide (l.length ≤ n)) = true) : ∀ j, 0 ≤ j → j < (all.length : Int) → (idx all j).length ≤ n := fun j h0 h1 => by
  have hm := idx_eq h0 h1
  have := List.all_eq_true.1 h _ (List.mem_of_getElem? hm)
  simpa using this
end Go.Sk
/-! ## the law of borders -/
namespace Go.Sk
def Asc (l : List Int) : Prop := ∀ i j : Int, 0 ≤ i → i < j → j < (l.length : Int) → idx l i < idx l j
theorem asc_of {l : List Int} (h : ascS l = true) : Asc l := by
  have h1 := ascS_iff.1 h
  intro i j h0 hij hj
  have : ∀ n : Nat, i + n + 1 < (l.length : Int) → idx l i < idx l (i + n + 1) := by
    intro n
    induction n with
    | zero => intro hn; have := h1 (i + 1) (by omega) (by omega); simpa using this
    | succ n ih =>
      intro hn
      have h2 := ih (by omega)
      have h3 := h1 (i + (n + 1 : Nat) + 1) (by omega) (by omega)
      have e : i + (n + 1 : Nat) + 1 - 1 = i + n + 1 := by omega
      rw [e] at h3
      omega
  have := this (j - i - 1).toNat (by omega)
  have e : i + ((j - i - 1).toNat : Int) + 1 = j := by omega
  rwa [e] at this
theorem asc_of_check {l : List Int} (h : checkS l = 0) : Asc l := by
  unfold checkS at h
  split at h
  · simp at h
  · split at h
    · exact asc_of (by assumption)
    · simp at h
theorem bsr_spec (p : Int → Bool) (z : Int) (hm : ∀ a b : Int, 0 ≤ a → a ≤ b → b < z → p b = true → p a = true) : ∀ (n : Nat) (i j : Int), (j - i).toNat = n → 0 ≤ i → i ≤ j → j ≤ z → (∀ h, 0 ≤ h → h < i → p h = true) → (∀ h, j ≤ h → h < z → p h = false) →
    (∀ h, 0 ≤ h → h < bsr p i j → p h = true) ∧ (∀ h, bsr p i j ≤ h → h < z → p h = false) := by
  intro n
  induction n using Nat.strongRecOn with
  | _ n ih =>
    intro i j hn h0 hij hz hi hj
    by_cases h : i < j
    · cases hp : p ((i + j) / 2) with
      | true =>
        rw [bsr_up h hp]
        exact ih ((j - ((i + j) / 2 + 1)).toNat) (by omega) ((i + j) / 2 + 1) j rfl (by omega) (by omega) hz (fun a h1 h2 => hm a ((i + j) / 2) h1 (by omega) (by omega) hp) hj
      | false =>
        rw [bsr_down h hp]
        refine ih ((((i + j) / 2) - i).toNat) (by omega) i ((i + j) / 2) rfl h0 (by omega) (by omega) hi (fun a h1 h2 => ?_)
        cases ha : p a with
        | false => rfl
        | true => rw [hm ((i + j) / 2) a (by omega) h1 h2 ha] at hp; exact hp
    · rw [bsr_end (by omega)]
      exact ⟨hi, fun a h1 h2 => hj a (by omega) h2⟩
theorem cnt_split {x : Int} : ∀ (l : List Int) (m : Int), 0 ≤ m → m ≤ l.length → (∀ j, 0 ≤ j → j < m → idx l j ≤ x) → (∀ j, m ≤ j → j < (l.length : Int) → x < idx l j) → cntS x l = m
  | [], m, h0, h1, _, _ => by simp [cntS] at *; omega
  | a :: l, m, h0, h1, h2, h3 => by
    simp only [List.length_cons] at h1 h3
    by_cases hm : m = 0
    · subst hm
      have ha := h3 0 (by omega) (by omega)
      rw [idx_cons_zero] at ha
      have := cnt_split l 0 (by omega) (by omega) (fun j _ _ => by omega) (fun j h4 h5 => by
        have := h3 (j + 1) (by omega) (by omega)
        rw [idx_cons_pos _ _ (by omega)] at this
        have e : j + 1 - 1 = j := by omega
        rwa [e] at this)
      rw [cntS, if_neg (by omega), this]; rfl
    · have ha := h2 0 (by omega) (by omega)
      rw [idx_cons_zero] at ha
      have := cnt_split l (m - 1) (by omega) (by omega) (fun j h4 h5 => by
        have := h2 (j + 1) (by omega) (by omega)
        rw [idx_cons_pos _ _ (by omega)] at this
        have e : j + 1 - 1 = j := by omega
        rwa [e] at this) (fun j h4 h5 => by
        have := h3 (j + 1) (by omega) (by omega)
        rw [idx_cons_pos _ _ (by omega)] at this
        have e : j + 1 - 1 = j := by omega
        rwa [e] at this)
      rw [cntS, if_pos (by omega), this]; omega
theorem bsS_spec {l : List Int} (h : Asc l) (x : Int) : (∀ j, 0 ≤ j → j < bsS l x → idx l j < x) ∧ (∀ j, bsS l x ≤ j → j < (l.length : Int) → x ≤ idx l j) := by
  have := bsr_spec (fun j => decide (idx l j < x)) l.length (fun a b h0 h1 h2 h3 => by
    by_cases e : a = b
    · subst e; exact h3
    · have := h a b h0 (by omega) h2
      simp at h3 ⊢; omega) _ 0 l.length rfl (by omega) (by omega) (by omega) (fun a _ _ => by omega) (fun a _ _ => by omega)
  refine ⟨fun j h0 h1 => by simpa using this.1 j h0 h1, fun j h0 h1 => by simpa using this.2 j h0 h1⟩
theorem region_cnt {l : List Int} (h : Asc l) (x : Int) : regionP l x = cntS x l := by
  have hs := bsS_spec h x
  have hb := bsS_bound l x
  unfold regionP
  split
  · next hf =>
    simp [bsF] at hf
    refine (cnt_split l (bsS l x + 1) (by omega) (by omega) (fun j h0 h1 => ?_) (fun j h0 h1 => ?_)).symm
    · by_cases e : j = bsS l x
      · subst e; omega
      · have := hs.1 j h0 (by omega); omega
    · have := h (bsS l x) j hb.1 (by omega) h1; omega
  · next hf =>
    refine (cnt_split l (bsS l x) hb.1 hb.2 (fun j h0 h1 => by have := hs.1 j h0 h1; omega) (fun j h0 h1 => ?_)).symm
    have h2 := hs.2 j h0 h1
    by_cases e : j = bsS l x
    · subst e
      simp [bsF] at hf
      have := hf h1
      omega
    · have h3 := h (bsS l x) j hb.1 (by omega) h1
      have h4 := hs.2 (bsS l x) (by omega) (by omega)
      omega
theorem region_at {l : List Int} {k : Int} (h : Asc l) (h0 : 0 ≤ k) (h1 : k < l.length) : regionP l (idx l k) = k + 1 := by
  rw [region_cnt h]
  refine cnt_split l (k + 1) (by omega) (by omega) (fun j h2 h3 => ?_) (fun j h2 h3 => h k j h0 (by omega) h3)
  by_cases e : j = k
  · subst e; omega
  · have := h j k h2 (by omega) h1; omega
theorem cnt_mono {x y : Int} (h : x ≤ y) : ∀ l : List Int, cntS x l ≤ cntS y l
  | [] => by simp [cntS]
  | a :: l => by
    have := cnt_mono h l
    simp only [cntS]
    split <;> split <;> omega
theorem regions_ok {l : List Int} (h : Asc l) (x y : Int) : (true && decide (regionP l x = cntS x l) && decide (regionP l (min x y) ≤ regionP l (max x y))) = true := by
  have h1 := cnt_mono (x := min x y) (y := max x y) (by omega) l
  simp [region_cnt h, h1]
end Go.Sk
