/- part of the proof: the framework -/
import Derived.Test.YtbcdabflmkgkiaaGreatDoorF2
import Derived.Recover
import Derived.LoopN
import Derived.Laws.LoneSync
import Derived.Lib.AppendStr
namespace Go.Sk
set_option linter.unusedSimpArgs false
set_option linter.unusedVariables false
open Go Go.BigFrame
@[reducible] def un9 {A1 A2 A3 A4 A5 A6 A7 A8 A9 γ : Type} (f : A1 → A2 → A3 → A4 → A5 → A6 → A7 → A8 → A9 → γ) (z : A1 × A2 × A3 × A4 × A5 × A6 × A7 × A8 × A9) : γ := f z.1 z.2.1 z.2.2.1 z.2.2.2.1 z.2.2.2.2.1 z.2.2.2.2.2.1 z.2.2.2.2.2.2.1 z.2.2.2.2.2.2.2.1 z.2.2.2.2.2.2.2.2
@[reducible] def un10 {A1 A2 A3 A4 A5 A6 A7 A8 A9 A10 γ : Type} (f : A1 → A2 → A3 → A4 → A5 → A6 → A7 → A8 → A9 → A10 → γ) (z : A1 × A2 × A3 × A4 × A5 × A6 × A7 × A8 × A9 × A10) : γ := f z.1 z.2.1 z.2.2.1 z.2.2.2.1 z.2.2.2.2.1 z.2.2.2.2.2.1 z.2.2.2.2.2.2.1 z.2.2.2.2.2.2.2.1 z.2.2.2.2.2.2.2.2.1 z.2.2.2.2.2.2.2.2.2
@[reducible] def un11 {A1 A2 A3 A4 A5 A6 A7 A8 A9 A10 A11 γ : Type} (f : A1 → A2 → A3 → A4 → A5 → A6 → A7 → A8 → A9 → A10 → A11 → γ) (z : A1 × A2 × A3 × A4 × A5 × A6 × A7 × A8 × A9 × A10 × A11) : γ := f z.1 z.2.1 z.2.2.1 z.2.2.2.1 z.2.2.2.2.1 z.2.2.2.2.2.1 z.2.2.2.2.2.2.1 z.2.2.2.2.2.2.2.1 z.2.2.2.2.2.2.2.2.1 z.2.2.2.2.2.2.2.2.2.1 z.2.2.2.2.2.2.2.2.2.2
@[reducible] def un12 {A1 A2 A3 A4 A5 A6 A7 A8 A9 A10 A11 A12 γ : Type} (f : A1 → A2 → A3 → A4 → A5 → A6 → A7 → A8 → A9 → A10 → A11 → A12 → γ) (z : A1 × A2 × A3 × A4 × A5 × A6 × A7 × A8 × A9 × A10 × A11 × A12) : γ := f z.1 z.2.1 z.2.2.1 z.2.2.2.1 z.2.2.2.2.1 z.2.2.2.2.2.1 z.2.2.2.2.2.2.1 z.2.2.2.2.2.2.2.1 z.2.2.2.2.2.2.2.2.1 z.2.2.2.2.2.2.2.2.2.1 z.2.2.2.2.2.2.2.2.2.2.1 z.2.2.2.2.2.2.2.2.2.2.2
@[reducible] def un13 {A1 A2 A3 A4 A5 A6 A7 A8 A9 A10 A11 A12 A13 γ : Type} (f : A1 → A2 → A3 → A4 → A5 → A6 → A7 → A8 → A9 → A10 → A11 → A12 → A13 → γ) (z : A1 × A2 × A3 × A4 × A5 × A6 × A7 × A8 × A9 × A10 × A11 × A12 × A13) : γ := f z.1 z.2.1 z.2.2.1 z.2.2.2.1 z.2.2.2.2.1 z.2.2.2.2.2.1 z.2.2.2.2.2.2.1 z.2.2.2.2.2.2.2.1 z.2.2.2.2.2.2.2.2.1 z.2.2.2.2.2.2.2.2.2.1 z.2.2.2.2.2.2.2.2.2.2.1 z.2.2.2.2.2.2.2.2.2.2.2.1 z.2.2.2.2.2.2.2.2.2.2.2.2
@[reducible] def un14 {A1 A2 A3 A4 A5 A6 A7 A8 A9 A10 A11 A12 A13 A14 γ : Type} (f : A1 → A2 → A3 → A4 → A5 → A6 → A7 → A8 → A9 → A10 → A11 → A12 → A13 → A14 → γ) (z : A1 × A2 × A3 × A4 × A5 × A6 × A7 × A8 × A9 × A10 × A11 × A12 × A13 × A14) : γ := f z.1 z.2.1 z.2.2.1 z.2.2.2.1 z.2.2.2.2.1 z.2.2.2.2.2.1 z.2.2.2.2.2.2.1 z.2.2.2.2.2.2.2.1 z.2.2.2.2.2.2.2.2.1 z.2.2.2.2.2.2.2.2.2.1 z.2.2.2.2.2.2.2.2.2.2.1 z.2.2.2.2.2.2.2.2.2.2.2.1 z.2.2.2.2.2.2.2.2.2.2.2.2.1 z.2.2.2.2.2.2.2.2.2.2.2.2.2
@[reducible] def un15 {A1 A2 A3 A4 A5 A6 A7 A8 A9 A10 A11 A12 A13 A14 A15 γ : Type} (f : A1 → A2 → A3 → A4 → A5 → A6 → A7 → A8 → A9 → A10 → A11 → A12 → A13 → A14 → A15 → γ) (z : A1 × A2 × A3 × A4 × A5 × A6 × A7 × A8 × A9 × A10 × A11 × A12 × A13 × A14 × A15) : γ := f z.1 z.2.1 z.2.2.1 z.2.2.2.1 z.2.2.2.2.1 z.2.2.2.2.2.1 z.2.2.2.2.2.2.1 z.2.2.2.2.2.2.2.1 z.2.2.2.2.2.2.2.2.1 z.2.2.2.2.2.2.2.2.2.1 z.2.2.2.2.2.2.2.2.2.2.1 z.2.2.2.2.2.2.2.2.2.2.2.1 z.2.2.2.2.2.2.2.2.2.2.2.2.1 z.2.2.2.2.2.2.2.2.2.2.2.2.2.1 z.2.2.2.2.2.2.2.2.2.2.2.2.2.2
@[reducible] def un16 {A1 A2 A3 A4 A5 A6 A7 A8 A9 A10 A11 A12 A13 A14 A15 A16 γ : Type} (f : A1 → A2 → A3 → A4 → A5 → A6 → A7 → A8 → A9 → A10 → A11 → A12 → A13 → A14 → A15 → A16 → γ) (z : A1 × A2 × A3 × A4 × A5 × A6 × A7 × A8 × A9 × A10 × A11 × A12 × A13 × A14 × A15 × A16) : γ := f z.1 z.2.1 z.2.2.1 z.2.2.2.1 z.2.2.2.2.1 z.2.2.2.2.2.1 z.2.2.2.2.2.2.1 z.2.2.2.2.2.2.2.1 z.2.2.2.2.2.2.2.2.1 z.2.2.2.2.2.2.2.2.2.1 z.2.2.2.2.2.2.2.2.2.2.1 z.2.2.2.2.2.2.2.2.2.2.2.1 z.2.2.2.2.2.2.2.2.2.2.2.2.1 z.2.2.2.2.2.2.2.2.2.2.2.2.2.1 z.2.2.2.2.2.2.2.2.2.2.2.2.2.2.1 z.2.2.2.2.2.2.2.2.2.2.2.2.2.2.2
section
variable {P : Program} {TB : Tabs} {E : Env TB} {n : Sh} {s : St} {dst : Option Nat} {t ty yt : TypeId} {pos : String} {after : Array Edge} {g : Option (Nat × Bool)} {x y c : Operand} {Q : Post} {cd : Code} {ops : Array Oper} {l : List Oper} {o : Oper}
variable {k kp i size bytes : Nat} {T e : TypeId} {hole : Hole} {ess : List (List (List CP))} {q : List (List CP)}
theorem Meets.persL {P : Program} {TB : Tabs} {f : FuncId} {args : List BV} {own_a own' : List (Nat × OC)} {T : TypeId} {size : Nat} {es : List (List CP)} {res : SV} (h : Meets P TB f own_a args (Is own' res)) (k0 : Nat) (hk : lk own' k0 = some (.row T size es)) : Meets P TB f own_a args (Is (persO k0 (.sl size es) (del k0 own')) (res.pers k0 (.sl size es))) := by
 intro w hh ρ vals tb hag hl hargs
 refine (h w hh ρ vals tb hag hl hargs).mono ?_
 rintro e w' ⟨v, own', res, h', ρ', rfl, ⟨rfl, rfl⟩, hw, hres⟩
 have hR : R ⟨w, hh, ρ, tb⟩ ⟨1, boxKeys own_a, keysOf own_a, []⟩ ⟨[(0, res)], own'⟩ ⟨#[v], []⟩ w' := ⟨rfl, rfl, h', ρ', WR.sh (n := ⟨0, boxKeys own_a, keysOf own_a, []⟩) (n' := ⟨1, boxKeys own_a, keysOf own_a, []⟩) rfl rfl hw, fun k x hx => by
  simp only [List.mem_singleton, Prod.mk.injEq] at hx
  obtain ⟨rfl, rfl⟩ := hx
  exact ⟨v, by simp, hres⟩⟩
 obtain ⟨_, _, h'', ρ'', hw'', hs''⟩ := hR.persist (k := k0) hk
 obtain ⟨u, hu, hur⟩ := hs'' 0 (res.pers k0 (.sl size es)) (by simp [persS])
 have huv : u = v := by simpa using hu.symm
 subst huv
 exact ⟨u, _, _, h'', ρ'', rfl, ⟨rfl, rfl⟩, WR.sh (n := ⟨1, boxKeys own_a, keysOf own_a, []⟩) (n' := ⟨0, boxKeys own_a, keysOf own_a, []⟩) rfl rfl hw'', hur⟩
theorem Op1.then' {s1 s2 : St} (h1 : Op1 P E n o s s1) (h : ∀ a w, R E n s1 a w → R E n s2 a w) : Op1 P E n o s s2 := fun a w hr next Q hn => h1 a w hr next Q fun a' w' hr' => hn a' w' (h a' w' hr')
theorem Op1.toO (kos : List Nat) {s1 s2 : St} (h1 : Op1 P E n o s s1) (e : (⟨s1.slots, keepL kos s1.own⟩ : St) = s2) : Op1 P E n o s s2 := h1.then' fun a w hr => e ▸ (by
 obtain ⟨hd, hn, h, ρ, hw, hs⟩ := hr
 exact ⟨hd, hn, h, ρ, hw.sub fun _ hp => mem_keepL hp, hs⟩)
theorem Op1.pers (k : Nat) {s1 : St} {es : List (List CP)} (h1 : Op1 P E n o s s1) (hk : lk s1.own k = some (.row T size es)) : Op1 P E n o s ⟨persS k (.sl size es) s1.slots, persO k (.sl size es) (del k s1.own)⟩ := h1.then' fun a w hr => hr.persist hk
theorem Tri.nilbox (k i size : Nat) {T : TypeId} {ps : List CP} (hk : lk s.own k = some (.box T ps)) (hi : ps[i]? = some .nil) (hz : 0 < size) (h : Tri P E n cd ⟨s.slots, ins k (.box T (ps.set i (.sl size []))) s.own⟩ Q) : Tri P E n cd s Q := fun a w hr => h a w (hr.nilbox hk hi hz)
theorem OpsL.nilbox (k i size : Nat) {T : TypeId} {ps : List CP} (hk : lk s.own k = some (.box T ps)) (hi : ps[i]? = some .nil) (hz : 0 < size) (h : OpsL P E n ops l ⟨s.slots, ins k (.box T (ps.set i (.sl size []))) s.own⟩ Q) : OpsL P E n ops l s Q := fun a w hr => h a w (hr.nilbox hk hi hz)
inductive NilTo : List CP → List CP → Prop
 | nil : NilTo [] []
 | same {p : CP} {ps qs : List CP} : NilTo ps qs → NilTo (p :: ps) (p :: qs)
 | sl {size : Nat} {ps qs : List CP} : 0 < size → NilTo ps qs → NilTo (.nil :: ps) (.sl size [] :: qs)
inductive NilToX : List BV → List BV → Prop
 | nil : NilToX [] []
 | same {p : BV} {ps qs : List BV} : NilToX ps qs → NilToX (p :: ps) (p :: qs)
 | sl {size : Nat} {ps qs : List BV} : 0 < size → NilToX ps qs → NilToX (.one .nil :: ps) (.one (.sl size []) :: qs)
theorem nil_sl {h : PH} {size : Nat} {v : Value} (hz : 0 < size) (hr : CP.nil.rel h v) : (CP.sl size []).rel h v := ⟨fun ps hps => by simp at hps, hz, .inl ⟨hr.1, rfl⟩⟩
theorem NilTo.rel {h : PH} : ∀ {ps qs : List CP} {vs : List Value}, NilTo ps qs → cellsRel h ps vs → cellsRel h qs vs
 | _, _, _, .nil, hr => hr
 | _, _, _, .same hn, .cons a b => .cons a (NilTo.rel hn b)
 | _, _, _, .sl hz hn, .cons a b => .cons (nil_sl hz a) (NilTo.rel hn b)
theorem NilToX.rel {h : PH} {ρ : RM} : ∀ {ps qs : List BV} {vs : List Value}, NilToX ps qs → All2 (fun (x : BV) u => x.rel h ρ u ∧ u.oneCell' = true) ps vs → All2 (fun (x : BV) u => x.rel h ρ u ∧ u.oneCell' = true) qs vs
 | _, _, _, .nil, hr => hr
 | _, _, _, .same hn, .cons a b => .cons a (NilToX.rel hn b)
 | _, _, _, .sl hz hn, .cons a b => .cons ⟨nil_sl hz a.1, a.2⟩ (NilToX.rel hn b)
theorem Op1.weak {s1 : St} {x x' : SV} (h1 : Op1 P E n o s (s1.put n o.dst x)) (hx : ∀ (h : PH) (ρ : RM) (v : Value), x.rel h ρ v → x'.rel h ρ v) : Op1 P E n o s (s1.put n o.dst x') := h1.then' fun a w hr => by
 obtain ⟨hd, hn, h, ρ, hw, hs⟩ := hr
 have hown : ∀ (x : SV), (s1.put n o.dst x).own = s1.own := fun x => by
  unfold St.put; split
  ·unfold St.set; split <;> rfl
  ·rfl
 refine ⟨hd, hn, h, ρ, by rw [hown] at hw ⊢; exact hw, fun j y hy => ?_⟩
 cases hdst : o.dst with
 | none => rw [hdst] at hy hs; exact hs j y hy
 | some d =>
  rw [hdst] at hy hs
  simp only [St.put, St.set] at hy hs
  split at hy
  ·next hlt =>
   simp only [hlt, if_true] at hs
   cases List.mem_cons.1 hy with
   | inl e =>
    obtain ⟨rfl, rfl⟩ := Prod.mk.inj e
    obtain ⟨v, hv, hrel⟩ := hs j x List.mem_cons_self
    exact ⟨v, hv, hx h ρ v hrel⟩
   | inr e => exact hs j y (List.mem_cons_of_mem _ e)
  ·next hlt =>
   simp only [hlt, if_false] at hs
   exact hs j y hy
end
section
variable {P : Program} {TB : Tabs} {E : Env TB} {n : Sh} {s : St} {Q : Post} {cd : Code} {ops : Array Oper} {l : List Oper}
end
section
variable {P : Program} {TB : Tabs} {E : Env TB} {n : Sh} {s : St} {dst : Option Nat} {t ty yt : TypeId} {pos : String} {after : Array Edge} {g : Option (Nat × Bool)} {x y c : Operand}
end
section
open Go Go.BigFrame Go.RowKit Go.Proofs Go.Shelf
variable {P : Program} {TB : Tabs} {ρ : Ren}
end
end Go.Sk

namespace Go.Sk
set_option linter.unusedSimpArgs false
set_option linter.unusedVariables false
open Go Go.ChangeShapes Go.WideShapes Go.ChangeAt Go.RowKit Go.Deep
theorem TyRead.sl {P : Program} {t el : TypeId} {α : Type} {e : α → List CP} {size : Nat} (ht : P.underlying t = some (.slice el)) (hc : P.cellsOf t = 1) (hr : TyRead P el e) (hs : P.cellsOf el = size) (hpos : 0 < size) : TyRead P t (eL size e) where
 len _ := by simp [hc, eL]
 op {H enc W sp held fuel cs x} hsp hf := by
  subst hs
  have hu : ∀ l : List α, Uniform (P.cellsOf el) (l.map e) := fun l => uni_map fun x => hr.len x
  rcases open_slice ht hf with ⟨h1, hx0⟩ | ⟨a, len, cap, m, n, D, Pl, h1, hb, hl, hm, hmm, hx, hi⟩
  ·subst h1
   exact ⟨[], .cons ⟨hu [], hpos, .inl ⟨rfl, rfl⟩⟩ .nil⟩
  ·subst h1
   rw [hsp, if_pos rfl] at hmm
   subst hmm
   by_cases hm0 : m = 0
   ·subst hm0
    have : len = 0 := by omega
    subst this
    exact ⟨[], .cons ⟨hu [], hpos, .inr (.inr ⟨a, rfl, rfl⟩)⟩ .nil⟩
   ·obtain ⟨l, hll, hp⟩ := forall_choose (p := fun i a' => cellsRel (full W) (e a') ((W.cells? 0 (a.add (i * P.cellsOf el)) (P.cellsOf el)).getD [])) len fun i hil => by
     obtain ⟨cs', h2, h3⟩ := hi i (by omega)
     obtain ⟨a', ha'⟩ := hr.op hsp h3
     exact ⟨a', by rw [h2]; exact ha'⟩
    have hspot : a.spot = none := by
     obtain ⟨cs', h2, _⟩ := hi 0 (by omega)
     obtain ⟨_, hcl, hcell⟩ := World.cells?_some h2
     have h3 := hcell 0 hpos
     rw [Nat.zero_mul] at h3
     have e0 : (a.add 0).add 0 = a := by simp [Addr.add]
     rw [e0] at h3
     have hlt : 0 < cs'.length := by omega
     rw [List.getElem?_eq_getElem hlt] at h3
     unfold World.cell? at h3
     split at h3
     ·split at h3
      ·cases h3
      ·next hns => simpa using hns
     ·cases h3
    obtain ⟨b, o, s⟩ := a
    simp only at hspot
    subst hspot
    refine ⟨l, .cons ⟨hu l, hpos, .inr (.inl ⟨b, o, m, by simp [hll], by simp [hll]; omega, hm, ?_⟩)⟩ .nil⟩
    intro j c hj
    have hjl : j < (l.map e).flatten.length := (List.getElem?_eq_some_iff.1 hj).1
    rw [flatten_len (hu l), List.length_map, hll] at hjl
    have hi' : j / P.cellsOf el < len := by
     rw [Nat.div_lt_iff_lt_mul hpos]; exact hjl
    have hj' : j % P.cellsOf el < P.cellsOf el := Nat.mod_lt _ hpos
    have hdm := Nat.div_add_mod j (P.cellsOf el)
    obtain ⟨cs', h2, h3⟩ := hi (j / P.cellsOf el) (by omega)
    have hli : l[j / P.cellsOf el]? = some (l[j / P.cellsOf el]'(by omega)) := List.getElem?_eq_getElem (by omega)
    have hrel := hp _ _ hli
    rw [h2] at hrel
    have hget := flatten_get (hu l) (j / P.cellsOf el) (e (l[j / P.cellsOf el]'(by omega))) (by rw [List.getElem?_map, hli]; rfl) (j % P.cellsOf el) hj'
    have ej : j / P.cellsOf el * P.cellsOf el + j % P.cellsOf el = j := by rw [Nat.mul_comm]; omega
    rw [ej, hj] at hget
    obtain ⟨u, hu1, hu2⟩ := All2.get hrel _ _ hget.symm
    refine ⟨u, ?_, hu2⟩
    obtain ⟨_, hcl, hcell⟩ := World.cells?_some h2
    have := hcell _ hj'
    simp only [Option.getD_some] at hu1
    have ea : ((⟨b, o, none⟩ : Addr).add (j / P.cellsOf el * P.cellsOf el)).add (j % P.cellsOf el) = ⟨b, o + j, none⟩ := by
     rw [add_none, add_none, Nat.add_assoc, ej]
    rw [hu1, ea] at this
    exact look_of_cell this (CP.one _ hu2)
end Go.Sk

namespace Go.Sk
set_option linter.unusedSimpArgs false
set_option linter.unusedVariables false
open Go
end Go.Sk

namespace Go.Sk
set_option linter.unusedSimpArgs false
set_option linter.unusedVariables false
open Go Go.ChangeShapes Go.WideShapes Go.ChangeAt Go.RowKit Go.Deep
structure BkOk {H : Type} (bk : DataW H → Nat) : Prop where
 len : ∀ els sp, els.length ≤ bk (.slice els sp)
 sl : ∀ els sp d, d ∈ els → bk d ≤ bk (.slice els sp)
 agg : ∀ ps d, d ∈ ps → bk d ≤ bk (.agg ps)
 str : ∀ b : List UInt8, b.length ≤ bk (.lit (.string b))
structure TyReadB (P : Program) (t : TypeId) {α : Type} (e : α → List CP) (B : α → Nat → Prop) : Prop where
 len : ∀ a, (e a).length = P.cellsOf t
 mono : ∀ a n m, B a n → n ≤ m → B a m
 op : ∀ {H : Type} {enc : TypeId × Value → H} {W : World} {sp : Nat → Bool} {held : Bool} {fuel : Nat} {cs : List Value} {x : DataW H × List MemPlace}, (∀ b, sp b = true) → DataW.trod enc P W 0 sp held fuel t cs = some x → ∃ a, cellsRel (full W) (e a) cs ∧ ∀ bk : DataW H → Nat, BkOk bk → B a (bk x.1)
theorem TyReadB.sl {P : Program} {t el : TypeId} {α : Type} {e : α → List CP} {B : α → Nat → Prop} {size : Nat} (ht : P.underlying t = some (.slice el)) (hc : P.cellsOf t = 1) (hr : TyReadB P el e B) (hs : P.cellsOf el = size) (hpos : 0 < size) : TyReadB P t (eL size e) (fun l n => l.length ≤ n ∧ ∀ a ∈ l, B a n) where
 len _ := by simp [hc, eL]
 mono l n m h hnm := ⟨by have := h.1; omega, fun a ha => hr.mono a n m (h.2 a ha) hnm⟩
 op {H enc W sp held fuel cs x} hsp hf := by
  subst hs
  have hu : ∀ l : List α, Uniform (P.cellsOf el) (l.map e) := fun l => uni_map fun x => hr.len x
  rcases open_slice ht hf with ⟨h1, hx0⟩ | ⟨a, len, cap, m, n, D, Pl, h1, hb, hl, hm, hmm, hx, hi⟩
  ·subst h1
   exact ⟨[], .cons ⟨hu [], hpos, .inl ⟨rfl, rfl⟩⟩ .nil, fun bk hbk => ⟨Nat.zero_le _, by simp⟩⟩
  ·subst h1
   rw [hsp, if_pos rfl] at hmm
   subst hmm
   by_cases hm0 : m = 0
   ·subst hm0
    have : len = 0 := by omega
    subst this
    exact ⟨[], .cons ⟨hu [], hpos, .inr (.inr ⟨a, rfl, rfl⟩)⟩ .nil, fun bk hbk => ⟨Nat.zero_le _, by simp⟩⟩
   ·obtain ⟨l, hll, hp⟩ := forall_choose (p := fun i a' => cellsRel (full W) (e a') ((W.cells? 0 (a.add (i * P.cellsOf el)) (P.cellsOf el)).getD []) ∧ ∀ bk : DataW H → Nat, BkOk bk → B a' (bk (D i))) len fun i hil => by
     obtain ⟨cs', h2, h3⟩ := hi i (by omega)
     obtain ⟨a', ha', hB⟩ := hr.op hsp h3
     exact ⟨a', by rw [h2]; exact ha', hB⟩
    have hspot : a.spot = none := by
     obtain ⟨cs', h2, _⟩ := hi 0 (by omega)
     obtain ⟨_, hcl, hcell⟩ := World.cells?_some h2
     have h3 := hcell 0 hpos
     rw [Nat.zero_mul] at h3
     have e0 : (a.add 0).add 0 = a := by simp [Addr.add]
     rw [e0] at h3
     have hlt : 0 < cs'.length := by omega
     rw [List.getElem?_eq_getElem hlt] at h3
     unfold World.cell? at h3
     split at h3
     ·split at h3
      ·cases h3
      ·next hns => simpa using hns
     ·cases h3
    obtain ⟨b, o, s⟩ := a
    simp only at hspot
    subst hspot
    refine ⟨l, .cons ⟨hu l, hpos, .inr (.inl ⟨b, o, m, by simp [hll], by simp [hll]; omega, hm, ?_⟩)⟩ .nil, fun bk hbk => ?_⟩
    ·intro j c hj
     have hjl : j < (l.map e).flatten.length := (List.getElem?_eq_some_iff.1 hj).1
     rw [flatten_len (hu l), List.length_map, hll] at hjl
     have hi' : j / P.cellsOf el < len := by
      rw [Nat.div_lt_iff_lt_mul hpos]; exact hjl
     have hj' : j % P.cellsOf el < P.cellsOf el := Nat.mod_lt _ hpos
     have hdm := Nat.div_add_mod j (P.cellsOf el)
     obtain ⟨cs', h2, h3⟩ := hi (j / P.cellsOf el) (by omega)
     have hli : l[j / P.cellsOf el]? = some (l[j / P.cellsOf el]'(by omega)) := List.getElem?_eq_getElem (by omega)
     have hrel := (hp _ _ hli).1
     rw [h2] at hrel
     have hget := flatten_get (hu l) (j / P.cellsOf el) (e (l[j / P.cellsOf el]'(by omega))) (by rw [List.getElem?_map, hli]; rfl) (j % P.cellsOf el) hj'
     have ej : j / P.cellsOf el * P.cellsOf el + j % P.cellsOf el = j := by rw [Nat.mul_comm]; omega
     rw [ej, hj] at hget
     obtain ⟨u, hu1, hu2⟩ := All2.get hrel _ _ hget.symm
     refine ⟨u, ?_, hu2⟩
     obtain ⟨_, hcl, hcell⟩ := World.cells?_some h2
     have := hcell _ hj'
     simp only [Option.getD_some] at hu1
     have ea : ((⟨b, o, none⟩ : Addr).add (j / P.cellsOf el * P.cellsOf el)).add (j % P.cellsOf el) = ⟨b, o + j, none⟩ := by
      rw [add_none, add_none, Nat.add_assoc, ej]
     rw [hu1, ea] at this
     exact look_of_cell this (CP.one _ hu2)
    ·subst hx
     refine ⟨?_, fun a' ha' => ?_⟩
     ·show l.length ≤ bk (.slice ((List.range len).map D) ((List.range (m - len)).map fun j => D (len + j)))
      have := hbk.len ((List.range len).map D) ((List.range (m - len)).map fun j => D (len + j))
      simp only [List.length_map, List.length_range] at this
      omega
     ·obtain ⟨i, hil, rfl⟩ := List.getElem_of_mem ha'
      have h6 := (hp i _ (List.getElem?_eq_getElem hil)).2 bk hbk
      exact hr.mono _ _ _ h6 (hbk.sl _ _ _ (List.mem_map.2 ⟨i, List.mem_range.2 (by omega), rfl⟩))
inductive TyFldsB (P : Program) (fs : Array Field) (T : Nat) : Nat → Nat → {β : Type} → (β → List CP) → (β → Nat → Prop) → Prop where
 | nil {i : Nat} (hi : fs.size ≤ i) : TyFldsB P fs T i T (fun _ : Unit => []) (fun _ _ => True)
 | cons {i o : Nat} {α β : Type} {e : α → List CP} {B : α → Nat → Prop} {es : β → List CP} {Bs : β → Nat → Prop} {f : Field} (hf : fs[i]? = some f) (ho : f.offset = o) (hr : TyReadB P f.type e B) (h : TyFldsB P fs T (i + 1) (o + P.cellsOf f.type) es Bs) : TyFldsB P fs T i o (fun x : α × β => e x.1 ++ es x.2) (fun x n => B x.1 n ∧ Bs x.2 n)
theorem TyFldsB.op {P : Program} {fs : Array Field} {T i o : Nat} {β : Type} {es : β → List CP} {Bs : β → Nat → Prop} (h : TyFldsB P fs T i o es Bs) {H : Type} {enc : TypeId × Value → H} {W : World} {sp : Nat → Bool} {held : Bool} {n : Nat} {cs : List Value} {xs : List (DataW H × List MemPlace)} (hsp : ∀ b, sp b = true) (hl : cs.length = T)
  (hx : xs.length = fs.size) (hv : ∀ (j : Nat) (f : Field), fs[j]? = some f → DataW.trod enc P W 0 sp held n f.type ((cs.drop f.offset).take (P.cellsOf f.type)) = xs[j]?) : ∃ b, cellsRel (full W) (es b) (cs.drop o) ∧ ∀ bk : DataW H → Nat, BkOk bk → Bs b (bk (.agg (xs.map (·.1)))) := by
 induction h with
 | nil hi => exact ⟨(), by rw [List.drop_of_length_le (by omega)]; exact .nil, fun _ _ => trivial⟩
 | @cons i o α β e B es Bs f hf ho hr h ih =>
  obtain ⟨b, hb, hB⟩ := ih
  have hi : i < xs.length := by
   rw [hx]
   exact (Array.getElem?_eq_some_iff.1 hf).1
  have h1 := hv i f hf
  rw [List.getElem?_eq_getElem hi] at h1
  obtain ⟨a, ha, hA⟩ := hr.op hsp h1
  refine ⟨(a, b), ?_, fun bk hbk => ⟨hr.mono _ _ _ (hA bk hbk) (hbk.agg _ _ (List.mem_map.2 ⟨xs[i], List.getElem_mem hi, rfl⟩)), hB bk hbk⟩⟩
  have e1 : cs.drop o = (cs.drop o).take (P.cellsOf f.type) ++ cs.drop (o + P.cellsOf f.type) := by
   rw [← List.drop_drop, List.take_append_drop]
  rw [e1]
  subst ho
  exact All2.append ha hb
theorem TyReadB.struct {P : Program} {t : TypeId} {fs : Array Field} {α β : Type} {e : α → List CP} {es : β → List CP} {B : α → Nat → Prop} {Bs : β → Nat → Prop} (g : β → α) (ht : P.underlying t = some (.struct fs)) (h : TyFldsB P fs (P.cellsOf t) 0 0 es Bs) (hl : ∀ a, (e a).length = P.cellsOf t) (he : ∀ b, e (g b) = es b) (hB : ∀ b n, Bs b n → B (g b) n) (hm : ∀ a n m, B a n → n ≤ m → B a m) : TyReadB P t e B where
 len := hl
 mono := hm
 op hsp hh := by
  obtain ⟨xs, n, _, hx, hcl, hxl, hv⟩ := DataW.trod_struct ht hh
  obtain ⟨b, hb, hB'⟩ := h.op hsp hcl hxl hv
  refine ⟨g b, by rw [he]; exact hb, fun bk hbk => ?_⟩
  rw [hx]
  exact hB _ _ (hB' bk hbk)
theorem open_slB {P : Program} {H : Type} {enc : TypeId × Value → H} {W : World} {base : Nat} {sp : Nat → Bool} {held : Bool} {t el : TypeId} {α : Type} {e : α → List CP} {B : α → Nat → Prop} {v : Value} {d : DataW H} {ps : List MemPlace} (ht : P.underlying t = some (.slice el)) (hr : TyReadB P el e B) {size : Nat} (hs : P.cellsOf el = size) (hpos : 0 < size) (hct : P.cellsOf t = 1)
  (hval : Value.okWide P W .any base t v) (h : DataW.Trod enc P W 0 sp held t v d ps) (hsp : ∀ b, sp b = true := by intro _; rfl) : ∃ l : List α, (CP.sl size (l.map e)).rel (full W) v ∧ ∀ bk : DataW H → Nat, BkOk bk → (l.length ≤ bk d ∧ ∀ a ∈ l, B a (bk d)) := by
 obtain ⟨fuel, hf⟩ := h
 have hc : v.cells.toList = [v] := by
  rcases okWide_cells_slice ht hval with rfl | ⟨b, o, len, cap, rfl⟩ <;> rfl
 rw [hc] at hf
 obtain ⟨l, hl, hB⟩ := (TyReadB.sl ht hct hr hs hpos).op hsp hf
 cases hl with
 | cons h1 h2 => exact ⟨l, h1, hB⟩
theorem TyReadB.str {P : Program} {t : TypeId} (ht : P.underlying t = some .string) (hc : P.cellsOf t = 1) : TyReadB P t eS (fun x n => x.length ≤ n) where
 len _ := by simp [hc, eS]
 mono _ _ _ h hnm := Nat.le_trans h hnm
 op _ h := by
  obtain ⟨s, rfl, rfl, hs⟩ := DataW.trod_string ht h
  refine ⟨s.data.toList, .cons ⟨?_, ?_⟩ .nil, fun bk hbk => hbk.str _⟩
  ·cases s with | mk d => cases d; rfl
  ·simpa using hs
theorem open_strB {P : Program} {H : Type} {enc : TypeId × Value → H} {W : World} {base : Nat} {sp : Nat → Bool} {held : Bool} {t : TypeId} {v : Value} {d : DataW H} {ps : List MemPlace} (ht : P.underlying t = some .string) (hct : P.cellsOf t = 1)
  (hval : Value.okWide P W .any base t v) (h : DataW.Trod enc P W 0 sp held t v d ps) (hsp : ∀ b, sp b = true := by intro _; rfl) : ∃ s : Str, (CP.str s).rel (full W) v ∧ ∀ bk : DataW H → Nat, BkOk bk → s.length ≤ bk d := by
 obtain ⟨fuel, hf⟩ := h
 obtain ⟨s, rfl⟩ := okWide_string ht hval
 have hc : (Value.string s).cells.toList = [Value.string s] := rfl
 rw [hc] at hf
 obtain ⟨l, hl, hB⟩ := (TyReadB.str ht hct).op hsp hf
 cases hl with
 | cons h1 h2 => exact ⟨l, h1, hB⟩
end Go.Sk

namespace Go.Sk
set_option linter.unusedSimpArgs false
set_option linter.unusedVariables false
open Go Go.ChangeShapes Go.WideShapes Go.ChangeAt Go.RowKit Go.Deep
section
variable {P : Program} {TB : Tabs} {E : Env TB} {n : Sh} {s s' : St}
inductive ResOkX (P : Program) (s : St) : ResultVar → BV → Prop
 | old {rv : ResultVar} {z : BV} (h : ResOk P s rv z) : ResOkX P s rv z
 | xa {t k off m : Nat} {T T' : TypeId} {cs zs : List BV} {qs : List CV} (ht : TyAgg P T m) (h : s.get t = some (.b (.ptr k off))) (hk : lk s.own k = some (.xbox T' cs)) (hp : (cs.drop off).take m = zs) (hq : zs.length = m) (hc : xcv zs = some qs) : ResOkX P s (.cell t T) (.xa qs)
 | x1 {t k off : Nat} {T T' : TypeId} {cs : List BV} {z : BV} (ht : TyOne P T) (h : s.get t = some (.b (.ptr k off))) (hk : lk s.own k = some (.xbox T' cs)) (hp : cs[off]? = some z) : ResOkX P s (.cell t T) z
theorem ResOkX.run {rv : ResultVar} {z : BV} (hr : ResOkX P s rv z) {a : Act} {w : World} {h : PH} {ρ : RM} (hw : WR E n s.own h ρ w) (hs : SlotsRel h ρ s.slots a.tmps) :
  ∃ v, (∀ w₂, CellsLe w w₂ → (resStep a.tmps rv).run P w₂ = .ok v w₂) ∧ z.rel h ρ v := by
 cases hr with
 | old h => exact h.run hw hs
 | @xa t' k off m T T' cs zs qs ht h' hk hp hq hc =>
  obtain ⟨v, hv, b, he, hv'⟩ := hs _ _ (lk_mem (show lk s.slots _ = some _ from h'))
  obtain ⟨b', cur, hb1, hb2, hb3⟩ := xbox_cells hw hk
  have : b' = b := by rw [hb1] at he; simpa using he
  subst this
  have hcr : All2 (CR h ρ) zs ((cur.toList.drop off).take m) := by rw [← hp]; exact All2.take (All2.drop hb3 off) m
  have hrun := fun w₂ (hle : CellsLe w w₂) => run_load_agg ht (w := w₂) (b := b') (o := off) (cs := (cur.toList.drop off).take m) (by rw [← hcr.length, hq]) (fun j v hv => by
   refine hle _ _ _ ?_
   rw [cell_row hb2]
   rw [List.getElem?_take] at hv
   split at hv
   ·simpa using hv
   ·simp at hv)
  have hg : a.tmps.getD t' undef = .pointer (some ⟨b', off, none⟩) := by simp [Array.getD_eq_getD_getElem?, hv, hv']
  refine ⟨.agg ((cur.toList.drop off).take m).toArray, fun w₂ hle => ?_, _, rfl, xcv_rel hc (by rw [show (List.take m (List.drop off cur.toList)).toArray.toList = _ from rfl]; exact hcr)⟩
  simp only [resStep, hg]
  simp [asAddr, hrun w₂ hle]
 | @x1 t' k off T T' cs z ht h' hk hp =>
  obtain ⟨v, hv, b, he, hv'⟩ := hs _ _ (lk_mem (show lk s.slots _ = some _ from h'))
  obtain ⟨b', cur, hb1, hb2, hb3⟩ := xbox_cells hw hk
  have : b' = b := by rw [hb1] at he; simpa using he
  subst this
  obtain ⟨u, hu, hpu⟩ := hb3.get off z hp
  have hrun := fun w₂ (hle : CellsLe w w₂) => run_load_one ht (w := w₂) (b := b') (o := off) (v := u) (hle _ _ _ (by rw [cell_row hb2]; simpa using hu))
  have hg : a.tmps.getD t' undef = .pointer (some ⟨b', off, none⟩) := by simp [Array.getD_eq_getD_getElem?, hv, hv']
  refine ⟨u, fun w₂ hle => ?_, hpu.1⟩
  simp only [resStep, hg]
  simp [asAddr, hrun w₂ hle]
theorem results_runX {fn : Func} {zs : List BV} (hr : All2 (ResOkX P s) fn.results.toList zs) {a : Act} {w : World} {h : PH} {ρ : RM} (hw : WR E n s.own h ρ w) (hs : SlotsRel h ρ s.slots a.tmps) :
  ∃ v, (∀ w₂, CellsLe w w₂ → (results fn a.tmps).run P w₂ = .ok v w₂) ∧ (resSV zs).rel h ρ v := by
 have key : ∀ (rs : List ResultVar) (zs : List BV), All2 (ResOkX P s) rs zs → ∃ vs, (∀ w₂, CellsLe w w₂ → (rs.mapM (resStep a.tmps)).run P w₂ = .ok vs w₂) ∧ All2 (fun (x : BV) u => x.rel h ρ u) zs vs := by
  intro rs zs hh
  induction hh with
  | nil => exact ⟨[], fun _ _ => by simp, .nil⟩
  | cons h' _ ih =>
   obtain ⟨v, hv, hrel⟩ := h'.run hw hs
   obtain ⟨vs, hvs, hall⟩ := ih
   refine ⟨v :: vs, fun w₂ hle => ?_, .cons hrel hall⟩
   rw [List.mapM_cons, Sem.run_bind, hv w₂ hle, Result.andThen, Sem.run_bind, hvs w₂ hle]
   rfl
 obtain ⟨vs, hvs, hall⟩ := key _ _ hr
 have hm : ∀ w₂, CellsLe w w₂ → (fn.results.mapM (resStep a.tmps)).run P w₂ = .ok vs.toArray w₂ := fun w₂ hle => by
  rw [Array.mapM_eq_mapM_toList]
  simp [hvs w₂ hle]
 cases hall with
 | nil => exact ⟨.tuple #[], fun w₂ hle => by rw [results_eq, Sem.run_bind, hm w₂ hle, Result.andThen]; simp, _, rfl, .nil⟩
 | @cons z v zs' vs' h1 h2 =>
  cases h2 with
  | nil => exact ⟨v, fun w₂ hle => by rw [results_eq, Sem.run_bind, hm w₂ hle, Result.andThen]; simp, h1⟩
  | @cons z2 v2 zs2 vs2 h3 h4 =>
   exact ⟨.tuple (v :: v2 :: vs2).toArray, fun w₂ hle => by rw [results_eq, Sem.run_bind, hm w₂ hle, Result.andThen]; simp, _, rfl, by simpa using .cons h1 (.cons h3 h4)⟩
theorem Fin.resultX {fn : Func} {post : SPost} {e : Exit} {rs : List ResultVar} (ks : List Nat) (zs : List BV) (he : e = .ret ∨ e = .normal) (hrs : fn.results.toList = rs) (hr : All2 (ResOkX P s) rs zs) (hp : post (keepL ks s.own) (resSV zs)) : Fin E n e s (Ret P fn E n post) := by
 intro a w ⟨h1, h2, h, ρ, hw, hs⟩
 obtain ⟨v, hv, hrel⟩ := results_runX (fn := fn) (hrs ▸ hr) hw hs
 have : a.defers = n.dfs ∧ ∃ v, (∀ w₂, CellsLe w w₂ → (results fn a.tmps).run P w₂ = .ok v w₂) ∧ SEnd E n post (.returned v) w := ⟨h1, v, hv, v, keepL ks s.own, _, h, ρ, rfl, hp, hw.sub fun _ hp => mem_keepL hp, hrel⟩
 rcases he with rfl | rfl <;> exact this
end
end Go.Sk

namespace Go.Sk
set_option linter.unusedSimpArgs false
set_option linter.unusedVariables false
open Go Go.ChangeShapes Go.WideShapes Go.ChangeAt Go.RowKit Go.Deep Go.BigFrame
section
variable {P : Program} {TB : Tabs} {E : Env TB} {n : Sh} {s s' : St} {dst : Option Nat} {t ty yt : TypeId} {pos : String} {after : Array Edge} {g : Option (Nat × Bool)} {x y c : Operand} {ops : Array Oper} {l : List Oper} {Q : Post} {cd : Code}
end
section
variable {P : Program} {TB : Tabs} {E : Env TB} {n : Sh} {s s' : St} {dst : Option Nat} {t ty yt : TypeId} {pos : String} {after : Array Edge} {g : Option (Nat × Bool)} {x y c : Operand} {ops : Array Oper} {l : List Oper} {Q : Post} {cd : Code}
variable {own : List (Nat × OC)} {h : PH} {ρ : RM} {w : World} {k kp i size bytes : Nat} {T e : TypeId} {ess : List (List (List CP))} {us : List Value} {v : Value}
end
end Go.Sk

namespace Go.Sk
set_option linter.unusedSimpArgs false
set_option linter.unusedVariables false
open Go Go.ChangeShapes Go.WideShapes Go.ChangeAt Go.RowKit Go.Deep Go.BigFrame
section
variable {P : Program} {TB : Tabs} {E : Env TB} {n : Sh} {s s' : St} {dst : Option Nat} {t ty yt : TypeId} {pos : String} {after : Array Edge} {g : Option (Nat × Bool)} {x y c : Operand} {ops : Array Oper} {l : List Oper} {Q : Post} {cd : Code}
theorem iteBy {α : Type} {c : Bool} {A B : Option α} {r : α} {G : Prop} (h : (if c = true then A else B) = some r) (h1 : c = true → A = some r → G) (h2 : c = false → B = some r → G) : G := by
 cases c
 ·exact h2 rfl h
 ·exact h1 rfl h
theorem Meets.cast {f : FuncId} {own own2 own' own2' : List (Nat × OC)} {args args2 : List BV} {res res2 : SV} (h : Meets P TB f own args (Is own' res)) (h1 : own = own2) (h2 : args = args2) (h3 : own' = own2') (h4 : res = res2) : Meets P TB f own2 args2 (Is own2' res2) := by
 subst h1 h2 h3 h4; exact h
end
end Go.Sk

namespace Go.Sk
set_option linter.unusedSimpArgs false
set_option linter.unusedVariables false
open Go Go.BigFrame
inductive Tre (α : Type) where
 | leaf
 | node (a : α) (l r : Tre α)
 deriving DecidableEq
instance {α : Type} : Inhabited (Tre α) := ⟨.leaf⟩
section
variable {α : Type} {P : Program} {TB : Tabs} {E : Env TB} {n : Sh} {s s' : St} {ops : Array Oper} {l : List Oper} {Q : Post} {cd : Code} {enc : α → List CP} {dst : Option Nat} {t ty yt : TypeId} {pos : String} {after : Array Edge} {g : Option (Nat × Bool)} {x y : Operand}
end
end Go.Sk

namespace Go.Sk
set_option linter.unusedSimpArgs false
set_option linter.unusedVariables false
open Go Go.BigFrame
section
variable {P : Program} {TB : Tabs} {E : Env TB} {n : Sh} {s s' : St} {ops : Array Oper} {l : List Oper} {Q : Post} {cd : Code} {dst : Option Nat} {t ty yt : TypeId} {pos : String} {after : Array Edge} {g : Option (Nat × Bool)} {x y : Operand}
end
end Go.Sk

namespace Go.Sk
set_option linter.unusedSimpArgs false
set_option linter.unusedVariables false
open Go Go.BigFrame
section
variable {P : Program} {TB : Tabs} {E : Env TB} {n : Sh} {s s' : St} {ops : Array Oper} {l : List Oper} {Q : Post} {cd : Code} {dst : Option Nat} {t ty yt : TypeId} {pos : String} {after : Array Edge} {g : Option (Nat × Bool)} {x y : Operand}
end
end Go.Sk

namespace Go.Sk
open Go Go.BigFrame Go.RowKit
section
variable {P : Program} {TB : Tabs} {E : Env TB} {n : Sh} {F : Fence} {s s' : St} {Q : Post} {x y c : Code}
theorem TriR.seqJ {σ τ : Type} {v : τ} (S : σ → St) (al : σ → τ) (h1 : TriR P E n F x s (Exit.then (fun a w => ∃ z, v = al z ∧ R E n (S z) a w) Q)) (h2 : ∀ z, v = al z → TriR P E n F y (S z) Q) : TriR P E n F (.seq x y) s Q := by
 refine TriR.seq fun hq a w hr => ?_
 have hq' : ¬ LetsOut Q := fun ⟨a, w, h⟩ => hq ⟨a, w, h⟩
 refine wpIn_mono (h1 (letsThen hq') a w hr) ?_
 intro e a' w' he
 cases e with
 | normal => obtain ⟨z, hz, hr'⟩ := he; exact h2 z hz hq' a' w' hr'
 | _ => exact he
theorem TriR.loopJ {σ τ : Type} {fuel : Nat} {body : σ → Option (σ ⊕ τ)} {s0 : σ} {v : τ} (h : iter fuel body s0 = some v) (S : σ → St) (ks kos : List Nat) (hs : s.keep ks kos = S s0)
  (round : ∀ z o, body z = some o → (∀ y, o = .inr y → y = v) → TriR P E n F c (S z) (Exit.then (fun a w => ∃ z', o = .inl z' ∧ R E n (S z') a w) Q)) : TriR P E n F (.loop c) s Q := by
 refine TriR.keep ks kos hs ?_
 intro hq a w hr
 refine wpIn_loop_rounds fuel ?_
 clear hs
 induction fuel generalizing s0 a w with
 | zero => simp [iter_zero] at h
 | succ m ih =>
 rw [iter_succ] at h
 obtain ⟨o, ho, hj⟩ := bnd h
 rw [roundsIn_succ]
 refine wpIn_mono (round s0 o ho (fun y hy => by subst hy; exact Option.some.inj hj) (letsThen hq) a w hr) ?_
 intro e a' w' he
 cases e with
 | normal =>
  obtain ⟨z', hz', hr'⟩ := he
  subst hz'
  exact ih hj a' w' hr'
 | _ => exact he
end
end Go.Sk

namespace Go.Sk
set_option linter.unusedSimpArgs false
set_option linter.unusedVariables false
open Go Go.BigFrame
def chn (pv : Value) : List PanicEntry := [{ v := pv, recovered := false }]
def PEnd {TB : Tabs} (E : Env TB) (n : Sh) (post : SPost) (pan : Value → Prop) (e : Ending) (w' : World) : Prop :=
 SEnd E n post e w' ∨ ∃ pv, e = .panicked (chn pv) ∧ pan pv ∧ ∃ h' ρ', WR E n [] h' ρ' w'
def MeetsP (P : Program) (TB : Tabs) (f : FuncId) (own : List (Nat × OC)) (args : List BV) (post : SPost) (pan : Value → Prop) : Prop :=
 ∀ (w : World) (h : PH) (ρ : RM) (vals : List Value) (tb : TabsOk TB h w), Agree h w → Lent own h ρ w → All2 (fun (x : BV) v => x.rel h ρ v) args vals →
  Calls P f vals.toArray w (PEnd ⟨w, h, ρ, tb⟩ ⟨0, boxKeys own, keysOf own, []⟩ post pan)
def Panics (P : Program) (TB : Tabs) (f : FuncId) (own : List (Nat × OC)) (args : List BV) (pv : Value) (ok : Prop) : Prop := MeetsP P TB f own args (fun _ _ => False) (fun v => v = pv ∧ ok)
def RetP (P : Program) (fn : Func) {TB : Tabs} (E : Env TB) (n : Sh) (post : SPost) (pan : Value → Prop) : Post
 | .normal, a, w => a.defers = n.dfs ∧ ∃ v, (∀ w₂, CellsLe w w₂ → (results fn a.tmps).run P w₂ = .ok v w₂) ∧ SEnd E n post (.returned v) w
 | .ret, a, w => a.defers = n.dfs ∧ ∃ v, (∀ w₂, CellsLe w w₂ → (results fn a.tmps).run P w₂ = .ok v w₂) ∧ SEnd E n post (.returned v) w
 | .panic ch, a, w => a.defers = n.dfs ∧ ∃ pv, ch = chn pv ∧ pan pv ∧ ∃ h ρ, WR E n [] h ρ w
 | _, _, _ => False
theorem RetP.body {P : Program} {fn : Func} {TB : Tabs} {E : Env TB} {n : Sh} {post : SPost} {pan : Value → Prop} (hd : n.dfs = []) : ∀ e a w, RetP P fn E n post pan e a w → bodyPost P fn (PEnd E n post pan) e a w
 | .normal, a, w, ⟨h1, v, h2, h3⟩ => ⟨h1.trans hd, v, h2 w (CellsLe.refl w), .inl h3⟩
 | .ret, a, w, ⟨h1, v, h2, h3⟩ => ⟨h1.trans hd, v, h2 w (CellsLe.refl w), .inl h3⟩
 | .exit _, _, _, h => h.elim
 | .goto _, _, _, h => h.elim
 | .panic _, _, _, ⟨h1, pv, h2, h3, h4⟩ => ⟨h1.trans hd, .inr ⟨pv, by rw [h2], h3, h4⟩⟩
 | .outgrown, _, _, h => h.elim
theorem MeetsP.intro {P : Program} {TB : Tabs} {f : FuncId} {fn : Func} {c : Code} {own : List (Nat × OC)} {args : List BV} {post : SPost} {pan : Value → Prop} (m : Nat) (hf : P.funcs[f]? = some fn) (hm : fn.ntmps = m) (hb : fn.body = some c) (hl : args.length ≤ m)
  (hbody : ∀ E : Env TB, Tri P E ⟨m, boxKeys own, keysOf own, []⟩ c ⟨argSlots 0 args, own⟩ (RetP P fn E ⟨m, boxKeys own, keysOf own, []⟩ post pan)) : MeetsP P TB f own args post pan := by
 intro w h ρ vals tb hag hlent hargs
 have hlen := hargs.length
 refine (calls_of_wp (R := PEnd ⟨w, h, ρ, tb⟩ ⟨m, boxKeys own, keysOf own, []⟩ post pan) hf hb (wp_mono (hbody ⟨w, h, ρ, tb⟩ _ w ⟨rfl, ?_, h, ρ, ⟨hag, PH.le_refl h, fun _ _ _ => rfl, Nat.le_refl _, fun _ _ _ => rfl, fun _ _ => rfl, rfl, rfl, ?_, ?_⟩, ?_⟩) (RetP.body rfl))).mono ?_
 ·simp [hm]; omega
 ·rintro b ⟨k, hk, hb⟩ o
  obtain ⟨⟨k', c⟩, hm', rfl⟩ := List.mem_map.1 hk
  exact ((hlent k' c hm').2.1 b (.inl hb)).2 o
 ·intro k c hc
  obtain ⟨h1, h3, h4⟩ := hlent k c hc
  exact ⟨h1, fun b hb => ⟨.inr ⟨k, List.mem_map.2 ⟨(k, c), hc, rfl⟩, (h3 b hb).1⟩, (h3 b hb).2⟩, h4⟩
 ·intro k x hx
  obtain ⟨j, z, rfl, hz, rfl⟩ := mem_argSlots hx
  obtain ⟨v, hv, hr⟩ := hargs.get j z hz
  refine ⟨v, ?_, hr⟩
  have hj := (List.getElem?_eq_some_iff.1 hv).1
  rw [Nat.zero_add, Array.getElem?_append_left (by simpa using hj)]
  simpa using hv
 ·rintro e w' (⟨v, own', res, h', ρ', e1, e2, e3, e4⟩ | ⟨pv, e1, e2, h', ρ', e3⟩)
  ·exact .inl ⟨v, own', res, h', ρ', e1, e2, WR.sh (n := ⟨m, boxKeys own, keysOf own, []⟩) (n' := ⟨0, boxKeys own, keysOf own, []⟩) rfl rfl e3, e4⟩
  ·exact .inr ⟨pv, e1, e2, h', ρ', WR.sh (n := ⟨m, boxKeys own, keysOf own, []⟩) (n' := ⟨0, boxKeys own, keysOf own, []⟩) rfl rfl e3⟩
theorem MeetsP.mono {P : Program} {TB : Tabs} {f : FuncId} {own : List (Nat × OC)} {args : List BV} {post post' : SPost} {pan pan' : Value → Prop} (hs : MeetsP P TB f own args post pan) (h1 : ∀ o r, post o r → post' o r) (h2 : ∀ v, pan v → pan' v) : MeetsP P TB f own args post' pan' :=
 fun w h ρ vals tb g1 g2 g3 => (hs w h ρ vals tb g1 g2 g3).mono fun _ _ => fun
  | .inl ⟨v, own', res, h', ρ', e1, e2, e3, e4⟩ => .inl ⟨v, own', res, h', ρ', e1, h1 _ _ e2, e3, e4⟩
  | .inr ⟨pv, e1, e2, e3⟩ => .inr ⟨pv, e1, h2 _ e2, e3⟩
theorem MeetsP.ret {P : Program} {TB : Tabs} {f : FuncId} {own : List (Nat × OC)} {args : List BV} {post post' : SPost} {pan : Value → Prop} (hs : MeetsP P TB f own args post pan) (h1 : ∀ o r, post o r → post' o r) (h2 : ∀ v, ¬ pan v) : Meets P TB f own args post' :=
 fun w h ρ vals tb g1 g2 g3 => (hs w h ρ vals tb g1 g2 g3).mono fun _ _ => fun
  | .inl ⟨v, own', res, h', ρ', e1, e2, e3, e4⟩ => ⟨v, own', res, h', ρ', e1, h1 _ _ e2, e3, e4⟩
  | .inr ⟨pv, e1, e2, e3⟩ => absurd e2 (h2 pv)
theorem MeetsP.pan {P : Program} {TB : Tabs} {f : FuncId} {own : List (Nat × OC)} {args : List BV} {post : SPost} {pan : Value → Prop} {pv : Value} {ok : Prop} (hs : MeetsP P TB f own args post pan) (h1 : ∀ o r, ¬ post o r) (h2 : ∀ v, pan v → v = pv ∧ ok) : Panics P TB f own args pv ok :=
 hs.mono (fun o r hp => (h1 o r hp).elim) h2
def IsP {ρ π : Type} (r : ρ ⊕ π) (own : ρ → List (Nat × OC)) (res : ρ → SV) : SPost := fun o z => ∃ x, r = .inl x ∧ o = own x ∧ z = res x
def PanP {ρ π : Type} (r : ρ ⊕ π) (pv : π → Value) (ok : π → Prop) : Value → Prop := fun v => ∃ p, r = .inr p ∧ v = pv p ∧ ok p
theorem MeetsP.spec {P : Program} {TB : Tabs} {f : FuncId} {own : List (Nat × OC)} {args : List BV} {ρ π : Type} {x : ρ} {o : ρ → List (Nat × OC)} {res : ρ → SV} {pv : π → Value} {ok : π → Prop} (hs : MeetsP P TB f own args (IsP (.inl x : ρ ⊕ π) o res) (PanP (.inl x : ρ ⊕ π) pv ok)) : Meets P TB f own args (Is (o x) (res x)) :=
 hs.ret (fun o r ⟨y, e, h1, h2⟩ => by cases e; exact ⟨h1, h2⟩) (fun v ⟨p, e, _⟩ => by cases e)
theorem MeetsP.pspec {P : Program} {TB : Tabs} {f : FuncId} {own : List (Nat × OC)} {args : List BV} {ρ π : Type} {p : π} {o : ρ → List (Nat × OC)} {res : ρ → SV} {pv : π → Value} {ok : π → Prop} (hs : MeetsP P TB f own args (IsP (.inr p : ρ ⊕ π) o res) (PanP (.inr p : ρ ⊕ π) pv ok)) : Panics P TB f own args (pv p) (ok p) :=
 hs.pan (fun o r ⟨y, e, _⟩ => by cases e) (fun v ⟨q, e, h⟩ => by cases e; exact h)
def CP.ifv (T : TypeId) (ps : List CP) : CP := ⟨fun h v => ∃ cs, v = .iface T (.agg cs) ∧ cellsRel h ps cs.toList, fun hl ⟨cs, e, h⟩ => ⟨cs, e, cellsRel.mono hl h⟩, fun ⟨cs, e, _⟩ => by rw [e]; rfl⟩
theorem cells2 {h : PH} {k1 k2 : IntKind} {a b : Int} {cs : Array Value} (hc : cellsRel h [.int k1 a, .int k2 b] cs.toList) : cs = #[.int k1 a, .int k2 b] ∧ inR k1 a ∧ inR k2 b := by
 obtain ⟨l⟩ := cs
 cases hc with
 | cons h1 h2 =>
  cases h2 with
  | cons h3 h4 =>
   cases h4
   obtain ⟨rfl, e1⟩ := h1
   obtain ⟨rfl, e2⟩ := h3
   exact ⟨rfl, e1, e2⟩
section
variable {P : Program} {TB : Tabs} {E : Env TB} {n : Sh} {s s' : St} {dst : Option Nat} {t ty yt : TypeId} {pos : String} {after : Array Edge} {g : Option (Nat × Bool)} {x y c : Operand} {ops : Array Oper} {l : List Oper} {Q : Post} {cd : Code}
theorem Fin.retP {fn : Func} {post : SPost} {pan : Value → Prop} {e : Exit} (he : e = .ret ∨ e = .normal) (h : Fin E n e s (Ret P fn E n post)) : Fin E n e s (RetP P fn E n post pan) := by
 rcases he with rfl | rfl <;> exact fun a w hr => h a w hr
theorem Fin.panEnd {fn : Func} {post : SPost} {pan : Value → Prop} {pv : Value} (hp : pan pv) : Fin E n (.panic (chn pv)) s (RetP P fn E n post pan) :=
 fun a w ⟨h1, h2, h, ρ, hw, hs⟩ => ⟨h1, pv, rfl, hp, h, ρ, hw.sub fun p hp => by simp at hp⟩
theorem Fin.then_pan {K : Act → World → Prop} {ch : List PanicEntry} (h : Fin E n (.panic ch) s Q) : Fin E n (.panic ch) s (Exit.then K Q) := fun a w hr => h a w hr
theorem Fin.block_pan {id : Nat} {ch : List PanicEntry} (h : Fin E n (.panic ch) s Q) : Fin E n (.panic ch) s (Exit.inBlock id Q) := fun a w hr => h a w hr
theorem op_iface_agg {T : TypeId} {ps : List CP} (hc : P.concrete T = true) (hx : s.ev x = some (.b (.agg ps))) : Op1 P E n ⟨dst, .makeInterface T x, ty, pos, after, g⟩ s (s.put n dst (.b (.one (.ifv T ps)))) :=
 Op1.val (o := ⟨dst, .makeInterface T x, ty, pos, after, g⟩) fun ac w h ρ hw hs => by
  obtain ⟨cs, hv, hr⟩ := (ev_rel hs hx : BV.rel h ρ (.agg ps) _)
  refine ⟨.iface T (ac.eval x), ?_, cs, by rw [hv], hr⟩
  show (do let v ← Instr.makeInterface T (ac.eval x); pure (Next.value v) : Sem Next).run P w = _
  rw [Sem.run_bind, run_makeInterface _ _ _ hc]
  rfl
theorem OpsL.panic2 {T : TypeId} {k1 k2 : IntKind} {a b : Int} {dst : Option Nat} (hx : s.ev x = some (.b (.one (.ifv T [.int k1 a, .int k2 b])))) (h : inR k1 a ∧ inR k2 b → Fin E n (.panic (chn (.iface T (.agg #[.int k1 a, .int k2 b])))) s Q) : OpsL P E n ops (⟨dst, .panic x, ty, pos, after, none⟩ :: l) s Q := by
 intro ac w hr
 unfold wpL
 have : ∀ tmps, Region.wanted ⟨dst, .panic x, ty, pos, after, none⟩ (yielded ops tmps) = true := fun _ => rfl
 simp only [this, if_true]
 have hr0 := hr
 obtain ⟨_, _, h1, ρ, hw, hs⟩ := hr
 obtain ⟨cs, e, hc⟩ := (ev_rel hs hx : (CP.ifv _ _).rel h1 _)
 obtain ⟨e2, h2⟩ := cells2 hc
 unfold Oper.wp
 have hrun : (execOp ac.eval ⟨dst, .panic x, ty, pos, after, none⟩).run P w = .halt (.panic (.iface T (.agg #[.int k1 a, .int k2 b]))) w := by
  show (do let v ← Instr.panic (ac.eval x); pure (Next.value v) : Sem Next).run P w = _
  rw [e, e2]
  rfl
 rw [hrun]
 exact h h2 ac w hr0
theorem pan_core {o : Oper} {f : FuncId} {own_a : List (Nat × OC)} {args : List BV} {pv : Value} {ok : Prop} (hspec : Panics P TB f own_a args pv ok)
  (hrun : ∀ (a : Act) (w : World) (h : PH) (ρ : RM), WR E n s.own h ρ w → SlotsRel h ρ s.slots a.tmps → ∃ vals : List Value, (execOp a.eval o).run P w = .ok (.enter f vals.toArray) w ∧ All2 (fun (x : BV) v => x.rel h ρ v) args vals)
  (hl : lentOk s.own own_a) {a : Act} {w : World} (hr : R E n s a w) {next : Act → World → Prop} {Q : Post}
  (hq : ok → Fin E n (.panic (chn pv)) ⟨s.slots, delAll own_a s.own⟩ Q) : o.wp P a w next Q := by
 obtain ⟨hdf, hn, h, ρ, hw, hs⟩ := hr
 obtain ⟨vals, hr0, hra⟩ := hrun a w h ρ hw hs
 unfold Oper.wp
 rw [hr0]
 show Calls P f _ w _
 have hla := lentOk_spec hl
 refine (hspec w h ρ _ hw.tabs hw.agree (lent_of hw hla (lentOk_plain hl)) hra).mono ?_
 rintro e w' (⟨v, own', res, h', ρ', _, hp, _⟩ | ⟨pv', rfl, ⟨rfl, hok⟩, h', ρ', hc⟩)
 ·exact hp.elim
 ·have hwc := hw.call hla hc (by rfl) (by simp [okOwn, keysOf])
  refine hq hok a w' ⟨hdf, hn, h', _, hwc, fun k x hx => ?_⟩
  obtain ⟨u, hu, hrel⟩ := hs k x hx
  exact ⟨u, hu, SV.mono hc.le (fun j hj => comb_out (by simp [keysOf])) hrel⟩
theorem OpsL.callPan {f : FuncId} {own_a : List (Nat × OC)} {args : List BV} {xs : Array Operand} {ats : Array TypeId} {pv : Value} {ok : Prop} (hspec : Panics P TB f own_a args pv ok) (hf : Goes P f) (ha : evArgs s xs.toList = some args) (hl : lentOk s.own own_a)
  (hq : ok → Fin E n (.panic (chn pv)) ⟨s.slots, delAll own_a s.own⟩ Q) : OpsL P E n ops (⟨dst, .call ⟨.value (.func f), xs, ats⟩, ty, pos, after, none⟩ :: l) s Q := by
 intro a w hr
 unfold wpL
 have : ∀ tmps, Region.wanted ⟨dst, .call ⟨.value (.func f), xs, ats⟩, ty, pos, after, none⟩ (yielded ops tmps) = true := fun _ => rfl
 simp only [this, if_true]
 exact pan_core hspec (fun a w h ρ hw hs => ⟨_, call_run hf a w, evArgs_rel hs ha⟩) hl hr hq
theorem OpsL.callcPan {f : FuncId} {fs cs : List CV} {own_a : List (Nat × OC)} {args zs : List BV} {xs : Array Operand} {ats : Array TypeId} {pv : Value} {ok : Prop} (hspec : Panics P TB f own_a args pv ok) (hf : Goes P f) (hx : s.ev x = some (.b (.clo f fs cs))) (ha : evArgs s xs.toList = some zs)
  (hz : fs.map CV.bv ++ zs ++ cs.map CV.bv = args) (hl : lentOk s.own own_a)
  (hq : ok → Fin E n (.panic (chn pv)) ⟨s.slots, delAll own_a s.own⟩ Q) : OpsL P E n ops (⟨dst, .call ⟨.value x, xs, ats⟩, ty, pos, after, none⟩ :: l) s Q := by
 intro a w hr
 unfold wpL
 have : ∀ tmps, Region.wanted ⟨dst, .call ⟨.value x, xs, ats⟩, ty, pos, after, none⟩ (yielded ops tmps) = true := fun _ => rfl
 simp only [this, if_true]
 refine pan_core hspec (fun a w h ρ hw hs => ?_) hl hr hq
 obtain ⟨va, vb, hv, h1, h2⟩ := (ev_rel hs hx : BV.rel h ρ (.clo f fs cs) _)
 refine ⟨va.toList ++ xs.toList.map a.eval ++ vb.toList, ?_, ?_⟩
 ·have e1 : execOp a.eval ⟨dst, .call ⟨.value x, xs, ats⟩, ty, pos, after, none⟩ = (do let d ← Deferred.ofValue (a.eval x) (xs.map a.eval); invoke d.target d.args) := rfl
  rw [e1, hv]
  have e2 : (do let d ← Deferred.ofValue (.func (.func f) va vb) (xs.map a.eval); invoke d.target d.args : Sem Next) = callFunc f (va ++ xs.map a.eval ++ vb) := rfl
  rw [e2, hf.run]
  congr 2
  apply Array.ext'
  simp
 ·rw [← hz]
  exact all2_append (all2_append (CV.bvL h1) (evArgs_rel hs ha)) (CV.bvL h2)
end
@[reducible] def altP {π ρ γ : Type} (g : π → γ) (f : ρ → γ) (z : ρ ⊕ π) : γ := match z with | .inl x => f x | .inr y => g y
theorem altPR {π ρ γ : Type} {g : π → Option γ} {f : ρ → Option γ} {o : ρ ⊕ π} {r : γ} {C : Prop} (h : altP g f o = some r) (hp : ∀ p, o = .inr p → g p = some r → C) (hz : ∀ z, o = .inl z → f z = some r → C) : C := by
 cases o with
 | inl z => exact hz z rfl h
 | inr p => exact hp p rfl h
section
variable {P : Program} {TB : Tabs} {E : Env TB} {n : Sh} {s s' : St} {dst : Option Nat} {t ty yt : TypeId} {pos : String} {after : Array Edge} {g : Option (Nat × Bool)} {x y c : Operand}
theorem op_lss_str {u v : Str} (hx : s.ev x = some (.b (.one (.str u)))) (hy : s.ev y = some (.b (.one (.str v)))) : Op1 P E n ⟨dst, .binOp .lss t x y yt, ty, pos, after, g⟩ s (s.put n dst (B (Op.bytesLess u v))) :=
 Op1.val (o := ⟨dst, .binOp .lss t x y yt, ty, pos, after, g⟩) fun ac w h ρ hw hs => by
  refine ⟨.bool (Op.bytesLess u v), ?_, rfl⟩
  simp only [execOp, (ev_str hs hx).1, (ev_str hs hy).1]
  simp [eqGuard, binOp, Op.stringOp, mk_toList]
theorem eptr_g {gb : Nat} {cs : List Value} {ps : List CP} {h : PH} {ρ : RM} {own : List (Nat × OC)} {w : World} (hw : WR E n own h ρ w) (hm : (gb, cs) ∈ TB) (hr : ∀ h, cellsRel h ps cs) : BV.rel h ρ (.eptr ps) (.pointer (some ⟨gb, 0, none⟩)) := by
 refine ⟨gb, 0, rfl, fun j c hc => ?_⟩
 obtain ⟨u, hu, hrel⟩ := (hr h).get j c hc
 exact ⟨u, by rw [Nat.zero_add]; exact (hw.tabs gb cs hm).2.1 j u hu, hrel⟩
theorem op_slice_g {α : Type} {gb : Nat} {cs : List Value} {e : TypeId} {m : Nat} {ps : List CP} {xs : List α} {enc : α → List CP} (hm' : (gb, cs) ∈ TB) (hr' : ∀ h, cellsRel h ps cs) (ht : TyArr P t e m 1) (hp : ps = (xs.map enc).flatten) (hl : xs.length = m) (he : ∀ z, (enc z).length = 1) (hm : m ≤ maxLen) :
  Op1 P E n ⟨dst, .slice t (.global gb) none none none, ty, pos, after, g⟩ s (s.put n dst (.b (.one (.sl 1 (xs.map enc))))) :=
 Op1.val (o := ⟨dst, .slice t (.global gb) none none none, ty, pos, after, g⟩) fun ac w h ρ hw hs => by
  obtain ⟨b, o, hv, hr⟩ := eptr_g hw hm' hr'
  obtain ⟨i, hi, hsz⟩ := ht.info
  have e1 : P.arrayLen t = m := by simp [Program.arrayLen, ht.und]
  have e2 : P.elem t = e := by simp [Program.elem, ht.und]
  have hu : P.underlying t = some (.array (P.arrayLen t) (P.elem t)) := by rw [e1, e2]; exact ht.und
  refine ⟨.slice (some ⟨b, o, none⟩) m m, ?_, ?_⟩
  ·simp only [execOp, show ac.eval (.global gb) = .pointer (some ⟨gb, 0, none⟩) from rfl, hv, Option.map_none]
   rw [Sem.run_bind, run_sliceAt_array_all w t _ hu, e2, run_sizeOf hi, Result.andThen]
   simp [slicedAt, e1, add_none]
  ·refine ⟨fun qs hq => ?_, Nat.one_pos, .inr (.inl ⟨b, o, m, ?_, ?_, hm, hp ▸ hr⟩)⟩
   ·obtain ⟨z, _, rfl⟩ := List.mem_map.1 hq
    exact he z
   ·rw [List.length_map, hl]
   ·rw [List.length_map, hl]; exact Nat.le_refl _
theorem op_index_gv {gb : Nat} {cs : List Value} {e : TypeId} {m size : Nat} {ps qs : List CP} {k : IntKind} {i : Int} (hm' : (gb, cs) ∈ TB) (hr' : ∀ h, cellsRel h ps cs) (ht : TyArr P t e m size) (h0 : 0 ≤ i) (h1 : i < m) (hy : s.ev y = some (.b (.one (.int k i)))) (hq : (ps.drop (i.toNat * size)).take size = qs) :
  Op1 P E n ⟨dst, .indexAddr t (.global gb) y, ty, pos, after, g⟩ s (s.put n dst (.b (.eptr qs))) :=
 Op1.val (o := ⟨dst, .indexAddr t (.global gb) y, ty, pos, after, g⟩) fun ac w h ρ hw hs => by
  obtain ⟨b, o, hv, hr⟩ := eptr_g hw hm' hr'
  obtain ⟨inf, hi, hsz⟩ := ht.info
  refine ⟨.pointer (some ⟨b, o + i.toNat * size, none⟩), ?_, b, o + i.toNat * size, rfl, ?_⟩
  ·simp only [execOp, show ac.eval (.global gb) = .pointer (some ⟨gb, 0, none⟩) from rfl, hv, (ev_int hs hy).1]
   simp [run_indexAt_arr ht.und hi hsz w b o k i h0 h1]
  ·rw [← hq]; exact (hr.drop _).take _
def strV (l : List Str) : List Value := l.map fun s => Value.string ⟨⟨s⟩⟩
theorem strs_rel (h : PH) : ∀ {l : List Str}, l.all (fun s => decide (s.length ≤ maxLen)) = true → cellsRel h (l.map eS).flatten (strV l)
 | [], _ => .nil
 | x :: l, ok => by
  simp only [List.all_cons, Bool.and_eq_true, decide_eq_true_eq] at ok
  exact .cons ⟨rfl, ok.1⟩ (strs_rel h ok.2)
end
end Go.Sk

namespace Go.Sk
set_option linter.unusedSimpArgs false
set_option linter.unusedVariables false
open Go Go.BigFrame
def CP.never : CP := ⟨fun _ _ => False, fun _ x => x, fun x => x.elim⟩
def St.never : St := ⟨[(0, .b (.one .never))], []⟩
def Step1Q (P : Program) {TB : Tabs} (E : Env TB) (n : Sh) (Q : Post) (ops : Array Oper) (o : Oper) (s s' : St) : Prop :=
 ∀ a w, R E n s a w → ∀ (K : Act → World → Prop), (∀ a' w', R E n s' a' w' → K a' w') → if Region.wanted o (yielded ops a.tmps) then o.wp P a w K Q else K (a.put o.dst undef) w
def TailXQ (P : Program) {TB : Tabs} (E : Env TB) (n : Sh) (Q : Post) (ops : Array Oper) : List Oper → St → St → Prop
 | [], s, s' => s = s'
 | o :: r, s, s' => ∃ s1, Step1Q P E n Q ops o s s1 ∧ TailXQ P E n Q ops r s1 s'
section
variable {P : Program} {TB : Tabs} {E : Env TB} {n : Sh} {s s' s2 : St} {l : List Oper} {L : List Oper} {Q : Post} {o : Oper}
theorem Fin.never {e : Exit} : Fin E n e St.never Q := fun a w hr => by
 obtain ⟨_, _, h, ρ, _, hs⟩ := hr
 obtain ⟨v, _, hf⟩ := hs 0 _ List.mem_cons_self
 exact hf.elim
theorem Step1Q.of {ops : Array Oper} {o : Oper} (h : Step1 P E n ops o s s') : Step1Q P E n Q ops o s s' := fun a w hr K hk => h a w hr K Q hk
theorem Step1Q.pan {ops : Array Oper} {f : FuncId} {own_a : List (Nat × OC)} {args : List BV} {xs : Array Operand} {ats : Array TypeId} {pv : Value} {ok : Prop} {dst : Option Nat} {ty : TypeId} {pos : String} {after : Array Edge} (hspec : Panics P TB f own_a args pv ok) (hf : Goes P f) (ha : evArgs s xs.toList = some args) (hl : lentOk s.own own_a)
  (hq : ok → Fin E n (.panic (chn pv)) ⟨s.slots, delAll own_a s.own⟩ Q) : Step1Q P E n Q ops ⟨dst, .call ⟨.value (.func f), xs, ats⟩, ty, pos, after, none⟩ s St.never := by
 intro a w hr K hk
 have : Region.wanted ⟨dst, .call ⟨.value (.func f), xs, ats⟩, ty, pos, after, none⟩ (yielded ops a.tmps) = true := rfl
 simp only [this, if_true]
 exact pan_core hspec (fun a w h ρ hw hs => ⟨_, call_run hf a w, evArgs_rel hs ha⟩) hl hr hq
def InvXQ (P : Program) {TB : Tabs} (E : Env TB) (n : Sh) (Q : Post) (ops : Array Oper) (s : St) (l tl : List Oper) (Fs : List SV) (s2 : St) (listed : Array Bool) (a : Act) (w : World) : Prop :=
 ((∀ j, l.length ≤ j → listed.getD j false = false) ∧ R E n (stE s l Fs listed) a w) ∨
 ∃ k sk, k < tl.length ∧ (∀ j, j ≤ l.length + k → listed.getD j false = true) ∧ (∀ j, l.length + k < j → listed.getD j false = false) ∧ TailXQ P E n Q ops (tl.drop (k + 1)) sk s2 ∧ R E n sk a w
theorem RegA.XQ {ops : List Oper} (l tl : List Oper) (hops : l ++ tl = ops) (Fs : List SV) (ks kos : List Nat) (hok : okX l tl n.n = true) (hst : StepsE P E n ops.toArray s l Fs 0 l Fs)
  (htl : TailXQ P E n Q ops.toArray tl ⟨(s.slots.filter fun p => !(dsts l).contains p.1) ++ factsFrom (fun _ => true) 0 l Fs, s.own⟩ s2) (hs : s2.keep ks kos = s') (h : Fin E n .normal s' Q) : RegA P E n ops.toArray s Q := by
 subst hops
 simp only [okX, Bool.and_eq_true, List.all_eq_true, List.mem_range] at hok
 obtain ⟨⟨⟨hedges, hnd⟩, hlt⟩, hcov⟩ := hok
 obtain ⟨hlen, hsteps⟩ := stepsE_get (Fs := Fs) hst
 intro a w hr
 have hgetl : ∀ {i : Nat} {o : Oper}, (l ++ tl)[i]? = some o → i < l.length → l[i]? = some o := fun h hi => by rwa [List.getElem?_append_left hi] at h
 have hS0 : ∀ {listed : Array Bool} {a : Act} {w : World}, (∀ j, j < l.length → listed.getD j false = true) → R E n (stE s l Fs listed) a w → R E n ⟨(s.slots.filter fun p => !(dsts l).contains p.1) ++ factsFrom (fun _ => true) 0 l Fs, s.own⟩ a w := by
  intro listed a w hall hR
  obtain ⟨h1, h2, h, ρ, hw, hs⟩ := hR
  refine ⟨h1, h2, h, ρ, hw, fun k x hx => hs k x ?_⟩
  simp only [stE, List.mem_append] at hx ⊢
  rcases hx with hx | hx
  ·left
   simp only [List.mem_filter, Bool.not_eq_true', List.contains_eq_mem, decide_eq_false_iff_not] at hx ⊢
   refine ⟨hx.1, ?_⟩
   cases hh : hit l listed k with
   | false => rfl
   | true =>
    exfalso
    simp only [hit, List.any_eq_true, List.mem_range, Bool.and_eq_true, beq_iff_eq, Option.bind_eq_some_iff] at hh
    obtain ⟨i, hi, _, o', ho', hd'⟩ := hh
    exact hx.2 (mem_dsts ho' hd')
  ·right
   rw [mem_factsFrom] at hx ⊢
   obtain ⟨j, oj, hj, hd, hF, _⟩ := hx
   exact ⟨j, oj, hj, hd, hF, by rw [Nat.zero_add]; exact hall j (List.getElem?_eq_some_iff.1 hj).1⟩
 refine anyG (L := l ++ tl) (InvXQ P E n Q (l ++ tl).toArray s l tl Fs s2) hedges ?_ ?_ _ _ _ _ (by simp) ?_ (by simp) (.inl ⟨fun j hj => ?_, ?_⟩)
 ·
  intro listed a w i o hsz hcl hio hil hdeps hInv K hK
  have hin : i < (l ++ tl).length := (List.getElem?_eq_some_iff.1 hio).1
  have his : i < listed.size := by omega
  have hset : ∀ q, listed.getD q false = true → (listed.setIfInBounds i true).getD q false = true := fun q hq => by
   by_cases e : q = i
   ·subst e; simp [Array.getD_eq_getD_getElem?, his]
   ·rw [getD_set_ne false (fun h => e h.symm)]; exact hq
  have hseti : (listed.setIfInBounds i true).getD i false = true := by simp [Array.getD_eq_getD_getElem?, his]
  by_cases hi : i < l.length
  ·
   have hInv' : (∀ j, l.length ≤ j → listed.getD j false = false) ∧ R E n (stE s l Fs listed) a w := by
    rcases hInv with h | ⟨k, sk, hk, hyes, _⟩
    ·exact h
    ·have := hyes i (by omega); rw [hil] at this; simp at this
   obtain ⟨hno, hR⟩ := hInv'
   have hol := hgetl hio hi
   obtain ⟨x, hx, hstep⟩ := hsteps i o hol
   rw [Nat.zero_add] at hstep
   have hnohit : ∀ p, p ∈ baseFor l i s.slots → p ∈ s.slots ∧ hit l listed p.1 = false := by
    intro p hp
    simp only [baseFor, List.mem_filter, List.all_eq_true, List.mem_range, Bool.or_eq_true, bne_iff_ne, beq_iff_eq] at hp
    refine ⟨hp.1, ?_⟩
    cases hh : hit l listed p.1 with
    | false => rfl
    | true =>
     exfalso
     simp only [hit, List.any_eq_true, List.mem_range, Bool.and_eq_true, beq_iff_eq] at hh
     obtain ⟨q, hq, hlq, hdq⟩ := hh
     rcases hp.2 q hq with (h | h) | h
     ·exact h hdq
     ·subst h; rw [hil] at hlq; simp at hlq
     ·obtain ⟨o', ho', e, he, hb, hon⟩ := depB_spec h
      have := hcl q o' (by rw [List.getElem?_append_left hq]; exact ho') hlq e he hb
      rw [hon, hil] at this; simp at this
   have hR2 : R E n ⟨depFacts l Fs o.after.toList ++ (baseFor l i s.slots ++ ((s.slots.filter fun p => !hit l listed p.1) ++ factsFrom (fun i => listed.getD i false) 0 l Fs)), s.own⟩ a w := by
    obtain ⟨h1, h2, h, ρ, hw, hs⟩ := hR
    refine ⟨h1, h2, h, ρ, hw, fun k y hy => hs k y ?_⟩
    rcases List.mem_append.1 hy with hy | hy
    ·obtain ⟨e, he, hb, o', ho', hd', hF'⟩ := mem_depFacts hy
     refine List.mem_append.2 (.inr ?_)
     rw [mem_factsFrom]
     exact ⟨e.on, o', ho', hd', hF', by rw [Nat.zero_add]; exact hdeps e (by simpa using he) hb⟩
    ·rcases List.mem_append.1 hy with hy | hy
     ·obtain ⟨h1, h2⟩ := hnohit _ hy
      exact List.mem_append.2 (.inl (List.mem_filter.2 ⟨h1, by simp [h2]⟩))
     ·exact hy
   refine hstep _ a w hR2 K Q (fun a' w' hR' => hK a' w' (.inl ⟨fun j hj => ?_, ?_⟩))
   ·rw [getD_set_ne false (by omega)]; exact hno j hj
   ·obtain ⟨h1, h2, h, ρ, hw, hs⟩ := hR'
    have hown : ∀ sl, (St.put n o.dst x ⟨sl, s.own⟩).own = s.own := fun sl => by
     cases hd : o.dst with
     | none => rfl
     | some d => simp only [St.put, St.set]; split <;> rfl
    rw [hown] at hw
    refine ⟨h1, h2, h, ρ, hw, fun k y hy => ?_⟩
    have hold : (k, y) ∈ (s.slots.filter fun p => !hit l listed p.1) ++ factsFrom (fun i => listed.getD i false) 0 l Fs → (∀ d, o.dst = some d → k ≠ d) → ∃ v, a'.tmps[k]? = some v ∧ y.rel h ρ v := by
     intro hm hkd
     refine hs k y ?_
     have hm' : (k, y) ∈ depFacts l Fs o.after.toList ++ (baseFor l i s.slots ++ ((s.slots.filter fun p => !hit l listed p.1) ++ factsFrom (fun i => listed.getD i false) 0 l Fs)) := List.mem_append.2 (.inr (List.mem_append.2 (.inr hm)))
     cases hd : o.dst with
     | none => simp only [St.put]; exact hm'
     | some d =>
      simp only [St.put, St.set]
      split
      ·exact List.mem_cons_of_mem _ (del_of_mem hm' (hkd d hd))
      ·exact hm'
    simp only [stE] at hy
    rcases List.mem_append.1 hy with hy | hy
    ·obtain ⟨hy1, hy2⟩ := List.mem_filter.1 hy
     have hy2' : hit l (listed.setIfInBounds i true) k = false := by simpa using hy2
     refine hold (List.mem_append.2 (.inl (List.mem_filter.2 ⟨hy1, ?_⟩))) (fun d hd e => ?_)
     ·cases hh : hit l listed k with
      | false => rfl
      | true =>
       exfalso
       simp only [hit, List.any_eq_true, List.mem_range, Bool.and_eq_true, beq_iff_eq] at hh
       obtain ⟨q, hq, hlq, hdq⟩ := hh
       have : hit l (listed.setIfInBounds i true) k = true := by
        simp only [hit, List.any_eq_true, List.mem_range, Bool.and_eq_true, beq_iff_eq]
        exact ⟨q, hq, hset q hlq, hdq⟩
       rw [hy2'] at this; simp at this
     ·subst e
      have : hit l (listed.setIfInBounds i true) k = true := by
       simp only [hit, List.any_eq_true, List.mem_range, Bool.and_eq_true, beq_iff_eq]
       exact ⟨i, hi, hseti, by rw [hol]; exact hd⟩
      rw [hy2'] at this; simp at this
    ·rw [mem_factsFrom] at hy
     obtain ⟨j, oj, hj, hd', hF', hl'⟩ := hy
     rw [Nat.zero_add] at hl'
     by_cases hji : j = i
     ·subst hji
      rw [hol] at hj; cases hj
      rw [hx] at hF'; cases hF'
      refine hs k y ?_
      have hk : k < n.n := by
       have := hlt k (mem_dsts hol hd')
       simpa using this
      simp only [hd', St.put, St.set, hk, if_true]
      exact List.mem_cons_self
     ·have hl2 : listed.getD j false = true := by
       rw [getD_set_ne false (fun e => hji e.symm)] at hl'
       exact hl'
      refine hold (List.mem_append.2 (.inr ?_)) (fun d hd e => ?_)
      ·rw [mem_factsFrom]
       exact ⟨j, oj, hj, hd', hF', by rw [Nat.zero_add]; exact hl2⟩
      ·subst e
       exact hji (dsts_inj hnd hj hol hd' hd)
  ·
   have hit' : i - l.length < tl.length := by simp only [List.length_append] at hin; omega
   have hcv := covered hcl hio hdeps (by have := hcov (i - l.length) hit'; rwa [show l.length + (i - l.length) = i by omega] at this)
   have hoi : tl[i - l.length]? = some o := by rwa [List.getElem?_append_right (by omega)] at hio
   rcases hInv with ⟨hno, hR⟩ | ⟨k, sk, hk, hyes, hno, hT, hR⟩
   ·have ei : i = l.length := by
     rcases Nat.lt_or_ge l.length i with h | h
     ·have := hcv l.length h; rw [hno _ (Nat.le_refl _)] at this; simp at this
     ·omega
    have hR0 := hS0 (fun j hj => hcv j (by omega)) hR
    rw [show i - l.length = 0 by omega] at hoi
    have h0 : 0 < tl.length := by omega
    have hdr : tl.drop 0 = o :: tl.drop (0 + 1) := by
     rw [List.drop_eq_getElem_cons h0]
     congr 1
     rw [List.getElem?_eq_getElem h0] at hoi
     simpa using hoi
    have hT : TailXQ P E n Q (l ++ tl).toArray (tl.drop 0) ⟨(s.slots.filter fun p => !(dsts l).contains p.1) ++ factsFrom (fun _ => true) 0 l Fs, s.own⟩ s2 := by rw [List.drop_zero]; exact htl
    rw [hdr] at hT
    obtain ⟨s1, hs1, hr1⟩ := hT
    refine hs1 a w hR0 K (fun a' w' hR' => hK a' w' (.inr ⟨0, s1, h0, fun j hj => ?_, fun j hj => ?_, hr1, hR'⟩))
    ·by_cases e : j = i
     ·subst e; exact hseti
     ·exact hset j (hcv j (by omega))
    ·rw [getD_set_ne false (by omega)]; exact hno j (by omega)
   ·have ei : i = l.length + (k + 1) := by
     rcases Nat.lt_or_ge (l.length + (k + 1)) i with h | h
     ·have := hcv _ h; rw [hno _ (by omega)] at this; simp at this
     ·rcases Nat.lt_or_ge i (l.length + (k + 1)) with h' | h'
      ·have := hyes i (by omega); rw [hil] at this; simp at this
      ·omega
    rw [show i - l.length = k + 1 by omega] at hoi
    have hdr : tl.drop (k + 1) = o :: tl.drop (k + 1 + 1) := by
     have hlt2 : k + 1 < tl.length := by omega
     rw [List.drop_eq_getElem_cons hlt2]
     congr 1
     rw [List.getElem?_eq_getElem hlt2] at hoi
     simpa using hoi
    rw [hdr] at hT
    obtain ⟨s1, hs1, hr1⟩ := hT
    refine hs1 a w hR K (fun a' w' hR' => hK a' w' (.inr ⟨k + 1, s1, by omega, fun j hj => ?_, fun j hj => ?_, hr1, hR'⟩))
    ·by_cases e : j = i
     ·subst e; exact hseti
     ·exact hset j (hyes j (by omega))
    ·rw [getD_set_ne false (by omega)]; exact hno j (by omega)
 ·
  intro listed a w hsz hall hInv
  rcases hInv with ⟨hno, hR⟩ | ⟨k, sk, hk, hyes, hno, hT, hR⟩
  ·have e : tl = [] := by
    cases htl' : tl with
    | nil => rfl
    | cons o0 r =>
     have := hall l.length (by rw [htl']; simp)
     rw [hno _ (Nat.le_refl _)] at this; simp at this
   subst e
   have hR0 := hS0 (fun j hj => hall j (by simpa using hj)) hR
   have e2 : _ = s2 := htl
   rw [e2] at hR0
   exact h a w (hs ▸ hR0.keep ks kos)
  ·have e : k + 1 = tl.length := by
    rcases Nat.lt_or_ge (k + 1) tl.length with h' | h'
    ·have := hall (l.length + (k + 1)) (by simp only [List.length_append]; omega)
     rw [hno _ (by omega)] at this; simp at this
    ·omega
   rw [e, List.drop_length] at hT
   have e2 : sk = s2 := hT
   subst e2
   exact h a w (hs ▸ hR.keep ks kos)
 ·intro i p hi hl
  exfalso
  simp only [Array.getD_eq_getD_getElem?, Array.getElem?_replicate] at hl
  split at hl <;> simp at hl
 ·simp only [Array.getD_eq_getD_getElem?, Array.getElem?_replicate]
  split <;> simp
 ·obtain ⟨h1, h2, h, ρ, hw, hsl⟩ := hr.drawn
  refine ⟨h1, h2, h, ρ, hw, fun k x hx => hsl k x ?_⟩
  simp only [stE] at hx
  rcases List.mem_append.1 hx with hx | hx
  ·exact (List.mem_filter.1 hx).1
  ·rw [mem_factsFrom] at hx
   obtain ⟨j, o, hj, _, _, hl⟩ := hx
   simp only [Nat.zero_add, Array.getD_eq_getD_getElem?, Array.getElem?_replicate] at hl
   split at hl <;> simp at hl
theorem Tri.regionP {rid : Nat} {ops : List Oper} (hm : P.follows .mixedOrders = true) (m : Nat) (Fs : List SV) (hok : okX (ops.take m) (ops.drop m) n.n = true) (hst : StepsE P E n ops.toArray s (ops.take m) Fs 0 (ops.take m) Fs)
  (htl : TailXQ P E n Q ops.toArray (ops.drop m) ⟨(s.slots.filter fun p => !(dsts (ops.take m)).contains p.1) ++ factsFrom (fun _ => true) 0 (ops.take m) Fs, s.own⟩ St.never) : Tri P E n (.region rid ops.toArray true) s Q :=
 Tri.ofA hm (RegA.XQ _ _ (List.take_append_drop m ops) Fs [0] [] hok hst htl (s' := St.never) rfl Fin.never)
theorem op_index_xa {t e : TypeId} {m : Nat} {zs : List BV} {z : BV} {k : IntKind} {i : Int} {q : Nat} {x y : Operand} {dst : Option Nat} {ty : TypeId} {pos : String} {after : Array Edge} {g : Option (Nat × Bool)} (ht : TyArr P t e m 1) (ho : TyOne P e) (hi : i = (q : Int)) (hq : q < m) (hx : s.ev x = some (.xagg zs)) (hy : s.ev y = some (.b (.one (.int k i)))) (hz : zs[q]? = some z) :
  Op1 P E n ⟨dst, .index t x y, ty, pos, after, g⟩ s (s.put n dst (.b z)) :=
 Op1.val (o := ⟨dst, .index t x y, ty, pos, after, g⟩) fun ac w h ρ hw hs => by
  obtain ⟨cs, hv, ha⟩ := (ev_rel hs hx : SV.rel h ρ (.xagg zs) _)
  have hz' := ha.get q z hz
  obtain ⟨u, hu, hr⟩ := hz'
  subst hi
  have hcu : cs[(q : Int).toNat * 1]? = some u := by rw [Nat.mul_one]; simpa using hu
  obtain ⟨inf, hin, hsz⟩ := ht.info
  refine ⟨u, ?_, hr.1⟩
  have hpt := run_part_one ho (A := cs) (off := (q : Int).toNat * 1) (v := u) hcu w
  have h0 : (0 : Int) ≤ (q : Int) := by omega
  have hi : (q : Int) < m := by omega
  simp only [execOp, hv, (ev_int hs hy).1]
  simp [Instr.index, run_underlying ht.und, asIntOf, h0, hi, hq, sizeOf, typeInfo, hin, hsz] at hpt ⊢
  simp [hpt]
end
end Go.Sk

namespace Go.Sk
set_option linter.unusedSimpArgs false
set_option linter.unusedVariables false
open Go Go.BigFrame
theorem op_callG {P : Program} {TB : Tabs} {E : Env TB} {n : Sh} {s : St} {dst : Option Nat} {ty : TypeId} {pos : String} {after : Array Edge} {g : Option (Nat × Bool)} {f : FuncId} {own_a own' : List (Nat × OC)} {args : List BV} {xs : Array Operand} {ats : Array TypeId} {z : BV} (hspec : Meets P TB f own_a args (Is own' (.b z))) (hf : Goes P f) (ha : evArgs s xs.toList = some args) (hl : lentOk s.own own_a)
  (hok : okNew n own_a own' = true) (hki : (SV.b z).keysIn own' = true) (hcl : okOwn s.own own_a own' = true) (hsl : dropNew own_a own' s.slots = s.slots) (hown : keepL (keysOf s.own) (insAll own' (delAll own_a s.own)) = s.own) : Op1 P E n ⟨dst, .call ⟨.value (.func f), xs, ats⟩, ty, pos, after, g⟩ s (s.put n dst (.b z)) := by
 have h := op_call (ats := ats) (E := E) (n := n) (dst := dst) (ty := ty) (pos := pos) (after := after) (g := g) hspec hf ha hl hok hki hcl
 unfold St.aft at h
 rw [hsl] at h
 refine h.toO (keysOf s.own) ?_
 have e2 : ∀ (O : List (Nat × OC)), ((⟨s.slots, O⟩ : St).put n dst (.b z)).own = O := fun O => by
  unfold St.put; split
  ·unfold St.set; split <;> rfl
  ·rfl
 have e3 : ∀ (O : List (Nat × OC)), (⟨((⟨s.slots, O⟩ : St).put n dst (.b z)).slots, s.own⟩ : St) = s.put n dst (.b z) := fun O => by
  unfold St.put; split
  ·unfold St.set; split <;> rfl
  ·rfl
 rw [e2, hown, e3]
def RetD (P : Program) (fn : Func) {TB : Tabs} (E : Env TB) (n : Sh) (post : SPost) : Post := bodyPostD P fn (SEnd E n post)
def dfr (f : FuncId) (vals : List Value) : Deferred := { target := .fn (.func f) vals.toArray, args := #[] }
theorem Meets.introD {P : Program} {TB : Tabs} {f : FuncId} {fn : Func} {c : Code} {own : List (Nat × OC)} {args : List BV} {post : SPost} (m : Nat) (hf : P.funcs[f]? = some fn) (hm : fn.ntmps = m) (hb : fn.body = some c) (hl : args.length ≤ m)
  (hbody : ∀ E : Env TB, Tri P E ⟨m, boxKeys own, keysOf own, []⟩ c ⟨argSlots 0 args, own⟩ (RetD P fn E ⟨m, boxKeys own, keysOf own, []⟩ post)) : Meets P TB f own args post := by
 intro w h ρ vals tb hag hlent hargs
 have hlen := hargs.length
 refine (calls_of_wp_defers (R := SEnd ⟨w, h, ρ, tb⟩ ⟨m, boxKeys own, keysOf own, []⟩ post) hf hb (hbody ⟨w, h, ρ, tb⟩ _ w ⟨rfl, ?_, h, ρ, ⟨hag, PH.le_refl h, fun _ _ _ => rfl, Nat.le_refl _, fun _ _ _ => rfl, fun _ _ => rfl, rfl, rfl, ?_, ?_⟩, ?_⟩)).mono ?_
 ·simp [hm]; omega
 ·rintro b ⟨k, hk, hb⟩ o
  obtain ⟨⟨k', c⟩, hm', rfl⟩ := List.mem_map.1 hk
  exact ((hlent k' c hm').2.1 b (.inl hb)).2 o
 ·intro k c hc
  obtain ⟨h1, h3, h4⟩ := hlent k c hc
  exact ⟨h1, fun b hb => ⟨.inr ⟨k, List.mem_map.2 ⟨(k, c), hc, rfl⟩, (h3 b hb).1⟩, (h3 b hb).2⟩, h4⟩
 ·intro k x hx
  obtain ⟨j, z, rfl, hz, rfl⟩ := mem_argSlots hx
  obtain ⟨v, hv, hr⟩ := hargs.get j z hz
  refine ⟨v, ?_, hr⟩
  have hj := (List.getElem?_eq_some_iff.1 hv).1
  rw [Nat.zero_add, Array.getElem?_append_left (by simpa using hj)]
  simpa using hv
 ·rintro e w' ⟨v, own', res, h', ρ', e1, e2, e3, e4⟩
  exact ⟨v, own', res, h', ρ', e1, e2, WR.sh (n := ⟨m, boxKeys own, keysOf own, []⟩) (n' := ⟨0, boxKeys own, keysOf own, []⟩) rfl rfl e3, e4⟩
def Idles (P : Program) (f : FuncId) (m : Nat) : Prop := ∀ (vals : List Value) (w : World), vals.length = m → CallsD P f vals.toArray .returning w fun e u' w' => (∃ v, e = .returned v) ∧ u' = .returning ∧ w' = w
def Catches (P : Program) (TB : Tabs) (f : FuncId) (own : List (Nat × OC)) (args : List BV) (pv : Value) (own' : List (Nat × OC)) : Prop :=
 ∀ (w : World) (h : PH) (ρ : RM) (vals : List Value) (tb : TabsOk TB h w), Agree h w → Lent own h ρ w → All2 (fun (x : BV) v => x.rel h ρ v) args vals →
  CallsD P f vals.toArray (.panicking (chn pv)) w fun e u' w' => u' = .panicking [{ v := pv, recovered := true }] ∧ SEnd ⟨w, h, ρ, tb⟩ ⟨0, boxKeys own, keysOf own, []⟩ (Is own' (.tup [])) e w'
section
variable {P : Program} {TB : Tabs} {E E' : Env TB} {n : Sh} {s s' : St} {dst : Option Nat} {t ty yt : TypeId} {pos : String} {after : Array Edge} {g : Option (Nat × Bool)} {x y c : Operand} {ops : Array Oper} {l : List Oper} {Q : Post} {cd : Code}
theorem Fin.retD {fn : Func} {post : SPost} {e : Exit} (he : e = .ret ∨ e = .normal) (hd : n.dfs = []) (h : Fin E n e s (Ret P fn E n post)) : Fin E n e s (RetD P fn E n post) := by
 rcases he with rfl | rfl
 ·intro a w hr
  obtain ⟨h1, v, h2, h3⟩ := h a w hr
  show Leaves P fn a.tmps _ a.defers .returning w
  rw [h1, hd]
  exact ⟨v, h2 w (CellsLe.refl w), h3⟩
 ·intro a w hr
  obtain ⟨h1, v, h2, h3⟩ := h a w hr
  show Leaves P fn a.tmps _ a.defers .returning w
  rw [h1, hd]
  exact ⟨v, h2 w (CellsLe.refl w), h3⟩
theorem OpsL.defer {f : FuncId} {cs : List CV} (hn : n.dfs = []) (hx : s.ev x = some (.b (.clo f [] cs))) (hp : s.own.all (fun p => p.2.plain) = true)
  (h : ∀ (E' : Env TB) (vals : List Value), WR E n s.own E'.h0 E'.ρ0 E'.w0 → All2 (fun (c : CV) v => c.rel E'.h0 E'.ρ0 v) cs vals → OpsL P E' ⟨n.n, boxKeys s.own, keysOf s.own, [dfr f vals]⟩ ops l s Q) :
  OpsL P E n ops (⟨none, .defer ⟨.value x, #[], #[]⟩, ty, pos, after, none⟩ :: l) s Q := by
 intro a w hr
 unfold wpL
 have : ∀ tmps, Region.wanted ⟨none, .defer ⟨.value x, #[], #[]⟩, ty, pos, after, none⟩ (yielded ops tmps) = true := fun _ => rfl
 simp only [this, if_true]
 obtain ⟨hdf, hsz, h1, ρ, hw, hs⟩ := hr
 obtain ⟨va, vb, hv, h2, h3⟩ := (ev_rel hs hx : BV.rel h1 ρ (.clo f [] cs) _)
 have hva : va = #[] := by
  cases va with
  | mk l => cases h2; rfl
 subst hva
 have hrun : (execOp a.eval ⟨none, .defer ⟨.value x, #[], #[]⟩, ty, pos, after, none⟩).run P w = .ok (.defer (dfr f vb.toList)) w := by
  have e1 : execOp a.eval ⟨none, .defer ⟨.value x, #[], #[]⟩, ty, pos, after, none⟩ = (do pure (.defer (← Deferred.ofValue (a.eval x) ((#[] : Array Operand).map a.eval)))) := rfl
  rw [e1, hv]
  have e2 : (do pure (.defer (← Deferred.ofValue (.func (.func f) #[] vb) ((#[] : Array Operand).map a.eval))) : Sem Next) = pure (.defer { target := .fn (.func f) vb, args := #[] ++ (#[] : Array Operand).map a.eval }) := rfl
  rw [e2]
  simp [dfr]
 unfold Oper.wp
 rw [hrun]
 show wpL P ops Q l { a with defers := dfr f vb.toList :: a.defers } w
 rw [List.all_eq_true] at hp
 refine h ⟨w, h1, ρ, hw.tabs⟩ vb.toList hw h3 _ w ⟨by show dfr f vb.toList :: a.defers = _; rw [hdf, hn], hsz, h1, ρ, ⟨hw.agree, PH.le_refl _, fun _ _ _ => rfl, Nat.le_refl _, fun _ _ _ => rfl, fun _ _ => rfl, rfl, rfl, ?_, ?_⟩, hs⟩
 ·rintro b ⟨k, hk, hb⟩ o
  obtain ⟨⟨k', c⟩, hm', rfl⟩ := List.mem_map.1 hk
  exact ((hw.owned k' c hm').2.1 b (.inl hb)).2 o
 ·intro k c hkc
  obtain ⟨e1, e2, e3⟩ := hw.owned k c hkc
  exact ⟨e1, fun b hb => ⟨.inr ⟨k, List.mem_map.2 ⟨(k, c), hkc, rfl⟩, hb.of_plain (hp _ hkc)⟩, (e2 b hb).2⟩, e3⟩
theorem invoke_dfr {f : FuncId} (hf : Goes P f) (vals : List Value) (w : World) : (invoke (.fn (.func f) vals.toArray) #[]).run P w = .ok (.enter f vals.toArray) w := by
 have e2 : invoke (.fn (.func f) vals.toArray) #[] = callFunc f (#[] ++ vals.toArray) := rfl
 rw [e2, hf.run]
 congr 2
 simp
theorem SEnd.back {own0 : List (Nat × OC)} {ds : List Deferred} {post post' : SPost} {v : Value} {w : World} (hlink : WR E n own0 E'.h0 E'.ρ0 E'.w0) (hpost : ∀ o r, post' o r → okNew n own0 o = true ∧ okOwn own0 own0 o = true ∧ insAll o (delAll own0 own0) = o ∧ r.keysIn o = true ∧ post o r)
  (h : SEnd E' ⟨n.n, boxKeys own0, keysOf own0, ds⟩ post' (.returned v) w) : SEnd E n post (.returned v) w := by
 obtain ⟨v', own', res, h', ρ', e1, hp, hwr, hrel⟩ := h
 cases e1
 obtain ⟨g1, g2, g3, hk, hp'⟩ := hpost _ _ hp
 obtain ⟨w0, h0, ρ0, tb⟩ := E'
 have hc := hlink.call (own_a := own0) (own' := own') (tb := tb) (fun _ _ h => h) (WR.sh (n := ⟨n.n, boxKeys own0, keysOf own0, ds⟩) (n' := ⟨0, boxKeys own0, keysOf own0, []⟩) rfl rfl hwr) g1 g2
 rw [g3] at hc
 exact ⟨v, own', res, h', _, rfl, hp', hc, SV.mono (PH.le_refl _) (fun j hj => comb_in (SV.keysIn_uses hk hj)) hrel⟩
theorem Fin.doorRet {fn : Func} {post post' : SPost} {e : Exit} {f : FuncId} {vals : List Value} {own0 : List (Nat × OC)} {m : Nat} (hlink : WR E n own0 E'.h0 E'.ρ0 E'.w0) (hi : Idles P f m) (hm : vals.length = m) (hg : Goes P f) (he : e = .ret ∨ e = .normal)
  (hpost : ∀ o r, post' o r → okNew n own0 o = true ∧ okOwn own0 own0 o = true ∧ insAll o (delAll own0 own0) = o ∧ r.keysIn o = true ∧ post o r) (h : Fin E' ⟨n.n, boxKeys own0, keysOf own0, [dfr f vals]⟩ e s (Ret P fn E' ⟨n.n, boxKeys own0, keysOf own0, [dfr f vals]⟩ post')) :
  Fin E' ⟨n.n, boxKeys own0, keysOf own0, [dfr f vals]⟩ e s (RetD P fn E n post) := by
 have key : ∀ (a : Act) (w : World), (a.defers = [dfr f vals] ∧ ∃ v, (∀ w₂, CellsLe w w₂ → (results fn a.tmps).run P w₂ = .ok v w₂) ∧ SEnd E' ⟨n.n, boxKeys own0, keysOf own0, [dfr f vals]⟩ post' (.returned v) w) → Leaves P fn a.tmps (SEnd E n post) a.defers .returning w := by
  rintro a w ⟨h1, v, h2, h3⟩
  rw [h1]
  refine leaves_cons (by simp) (invoke_dfr hg vals w) ((hi vals w hm).mono ?_)
  rintro e u' w' ⟨⟨v', rfl⟩, rfl, rfl⟩
  exact ⟨v, h2 _ (CellsLe.refl _), SEnd.back hlink hpost h3⟩
 rcases he with rfl | rfl <;> exact fun a w hr => key a w (h a w hr)
theorem CV.boxRel {h0 h1 : PH} {ρ0 ρ : RM} {ks : List Nat} (hf : ∀ k, k ∈ ks → ρ k = ρ0 k) : ∀ {cs : List CV} {vals : List Value}, All2 (fun (c : CV) v => c.rel h0 ρ0 v) cs vals → cs.all (fun c => match c with | .ptr k _ => ks.contains k | _ => false) = true → All2 (fun (c : CV) v => c.rel h1 ρ v) cs vals
 | _, _, .nil, _ => .nil
 | c :: cs, _, .cons h4 h5, hk => by
  rw [List.all_cons, Bool.and_eq_true] at hk
  refine .cons ?_ (CV.boxRel hf h5 hk.2)
  have hkc := hk.1
  cases c with
  | ptr k o =>
   obtain ⟨b, e1, e2⟩ := h4
   refine ⟨b, ?_, e2⟩
   rw [hf k (by simpa using hkc)]; exact e1
  | _ => simp at hkc
theorem Fin.doorPan {fn : Func} {post post' : SPost} {f : FuncId} {cs : List CV} {vals : List Value} {own0 own_c own_c' : List (Nat × OC)} {args : List BV} {pv : Value} (hlink : WR E n own0 E'.h0 E'.ρ0 E'.w0) (hvals : All2 (fun (c : CV) v => c.rel E'.h0 E'.ρ0 v) cs vals)
  (hc : Catches P TB f own_c args pv own_c') (hg : Goes P f) (hcs : cs.map CV.bv = args) (hk : cs.all (fun c => match c with | .ptr k _ => (boxKeys own0).contains k | _ => false) = true) (hl : lentOk s.own own_c)
  (hok : okNew ⟨n.n, boxKeys own0, keysOf own0, [dfr f vals]⟩ own_c own_c' = true) (hcl : okOwn s.own own_c own_c' = true)
  (hpost : ∀ o r, post' o r → okNew n own0 o = true ∧ okOwn own0 own0 o = true ∧ insAll o (delAll own0 own0) = o ∧ r.keysIn o = true ∧ post o r)
  (h : Fin E' ⟨n.n, boxKeys own0, keysOf own0, [dfr f vals]⟩ .ret ⟨dropNew own_c own_c' s.slots, insAll own_c' (delAll own_c s.own)⟩ (Ret P fn E' ⟨n.n, boxKeys own0, keysOf own0, [dfr f vals]⟩ post')) :
  Fin E' ⟨n.n, boxKeys own0, keysOf own0, [dfr f vals]⟩ (.panic (chn pv)) s (RetD P fn E n post) := by
 intro a w hr
 obtain ⟨hdf, hsz, h1, ρ, hw, hs⟩ := hr
 show Leaves P fn a.tmps (SEnd E n post) a.defers (.panicking (chn pv)) w
 have hdf' : a.defers = [dfr f vals] := hdf
 rw [hdf']
 refine leaves_cons (by simp) (invoke_dfr hg vals w) ?_
 have hargs : All2 (fun (x : BV) v => x.rel h1 ρ v) args vals := by
  rw [← hcs]
  exact CV.bvL (CV.boxRel hw.fixed hvals hk)
 have hla := lentOk_spec hl
 refine (hc w h1 ρ vals hw.tabs hw.agree (lent_of hw hla (lentOk_plain hl)) hargs).mono ?_
 rintro e u' w' ⟨rfl, v, own', res, h', ρ', rfl, ⟨rfl, rfl⟩, hwr, hrel⟩
 have hwc := hw.call hla hwr hok hcl
 have hR : R E' ⟨n.n, boxKeys own0, keysOf own0, [dfr f vals]⟩ ⟨dropNew own_c own' s.slots, insAll own' (delAll own_c s.own)⟩ a w' := by
  refine ⟨hdf, hsz, h', _, hwc, fun k x hx => ?_⟩
  obtain ⟨h1, h2⟩ := mem_dropNew hx
  obtain ⟨u, hu, hrel⟩ := hs k x h1
  refine ⟨u, hu, SV.mono hwr.le (fun j hj => ?_) hrel⟩
  by_cases hin : j ∈ keysOf own'
  ·rw [comb_in hin]
   by_cases hia : j ∈ boxKeys own_c
   ·exact hwr.fixed j hia
   ·have := h2 j hin hia; simp [this] at hj
  ·exact comb_out hin
 obtain ⟨_, v2, h5, h6⟩ := h a w' hR
 exact ⟨v2, h5 _ (CellsLe.refl _), SEnd.back hlink hpost h6⟩
end
end Go.Sk

namespace Go.Sk
set_option linter.unusedSimpArgs false
set_option linter.unusedVariables false
open Go Go.BigFrame
theorem Panics.sw {P : Program} {TB : Tabs} {f : FuncId} {own : List (Nat × OC)} {args : List BV} {pv : Value} {ok : Prop} (hm : Panics P TB f own args pv ok) (a b : Nat) :
  Panics P TB f (mapO (swp a b) own) (args.map (·.mapK (swp a b))) pv ok := by
 intro w h ρ vals tb hag hlent hargs
 have hinj : ∀ {i j : Nat}, swp a b i = swp a b j → i = j := fun {i j} e => by have := congrArg (swp a b) e; rwa [swp_swp, swp_swp] at this
 have hl : Lent own h (fun k => ρ (swp a b k)) w := fun k c hk => by
  obtain ⟨e1, e2, e3⟩ := hlent (swp a b k) (c.mapK (swp a b)) (List.mem_map.2 ⟨(k, c), hk, rfl⟩)
  exact ⟨OC.mapK_ok.1 e1, fun b hb => e2 b (OC.mapK_foot.2 hb), fun k' c' hk' hne b' hb' hb2 => e3 (swp a b k') (c'.mapK (swp a b)) (List.mem_map.2 ⟨(k', c'), hk', rfl⟩) (fun e => hne (hinj e)) b' (OC.mapK_foot.2 hb') (OC.mapK_foot.2 hb2)⟩
 have ha : All2 (fun (x : BV) v => x.rel h (fun k => ρ (swp a b k)) v) args vals := ((all2_map _).trans (all2_iff fun a u => BV.mapK_rel)).1 hargs
 refine (hm w h _ vals tb hag hl ha).mono ?_
 rintro e w' (⟨v, own1, res1, h', ρ', _, hp, _⟩ | ⟨pv', rfl, hpv, h', ρ', hw⟩)
 ·exact hp.elim
 have hlt : ∀ b', lent (TB := TB) ⟨w, h, fun k => ρ (swp a b k), tb⟩ ⟨0, boxKeys own, keysOf own, []⟩ b' ↔ lent (TB := TB) ⟨w, h, ρ, tb⟩ ⟨0, boxKeys (mapO (swp a b) own), keysOf (mapO (swp a b) own), []⟩ b' := fun b' => by
  constructor
  ·rintro ⟨k, hk, hb⟩
   exact ⟨swp a b k, by show _ ∈ keysOf _; rw [keysOf_mapO]; exact List.mem_map.2 ⟨k, hk, rfl⟩, hb⟩
  ·rintro ⟨k, hk, hb⟩
   have hk' : k ∈ (keysOf own).map (swp a b) := by rw [← keysOf_mapO]; exact hk
   obtain ⟨k0, hk0, rfl⟩ := List.mem_map.1 hk'
   exact ⟨k0, hk0, hb⟩
 refine .inr ⟨pv', rfl, hpv, h', fun k => ρ' (swp a b k), ⟨hw.agree, hw.le, fun b' hb' hn => hw.fresh b' hb' fun hh => hn ((hlt b').1 hh), hw.size, fun b' hb' hn => hw.same b' hb' fun hh => hn ((hlt b').1 hh), fun k hk => ?_, hw.os, hw.out, fun b' hb' => hw.nl b' ((hlt b').2 hb'), fun k c hk => by simp at hk⟩⟩
 have hk' : k ∈ (boxKeys own).map (swp a b) := by rw [← boxKeys_mapO]; exact hk
 obtain ⟨k0, hk0, rfl⟩ := List.mem_map.1 hk'
 show ρ' (swp a b (swp a b k0)) = _
 rw [swp_swp]; exact hw.fixed k0 hk0
theorem isPost {n : Sh} {own0 own' : List (Nat × OC)} {res : SV} (h1 : okNew n own0 own' = true) (h2 : okOwn own0 own0 own' = true) (h3 : insAll own' (delAll own0 own0) = own') (hk : res.keysIn own' = true) : ∀ o r, Is own' res o r → okNew n own0 o = true ∧ okOwn own0 own0 o = true ∧ insAll o (delAll own0 own0) = o ∧ r.keysIn o = true ∧ Is own' res o r := fun o r h => by
 obtain ⟨rfl, rfl⟩ := h
 exact ⟨h1, h2, h3, hk, rfl, rfl⟩
section
variable {P : Program} {TB : Tabs} {E : Env TB} {n : Sh} {s s' : St} {dst : Option Nat} {t ty yt : TypeId} {pos : String} {after : Array Edge} {g : Option (Nat × Bool)} {x y c : Operand} {ops : Array Oper} {l : List Oper} {Q : Post} {cd : Code}
theorem op_neq_ifv {T : TypeId} {ps : List CP} {ms : Array (String × TypeId)} (hi : P.underlying t = some (.interface ms)) (hx : s.ev x = some (.b (.one (.ifv T ps)))) : Op1 P E n ⟨dst, .binOp .neq t x (.const .nilIface) yt, ty, pos, after, g⟩ s (s.put n dst (B true)) :=
 Op1.val (o := ⟨dst, .binOp .neq t x (.const .nilIface) yt, ty, pos, after, g⟩) fun ac w h ρ hw hs => by
  obtain ⟨cs, e, _⟩ := (ev_rel hs hx : (CP.ifv _ _).rel h _)
  refine ⟨.bool true, ?_, rfl⟩
  have h1 : ∀ d : Nat, (Op.equalIn (d + 1) t (.iface T (.agg cs)) .nilIface).run P w = .ok false w := fun d => by simp [Op.equalIn, run_underlying hi]
  have h2 : (Op.equal t (.iface T (.agg cs)) .nilIface).run P w = .ok false w := h1 _
  have h0 : eqGuard .neq t x (.const .nilIface) (.iface T (.agg cs)) .nilIface = pure () := rfl
  simp only [execOp, e, show ac.eval (.const .nilIface) = .nilIface from rfl, h0]
  simp [binOp, h2, Result.andThen]
theorem op_assert_ifv {T st : TypeId} {ps : List CP} {d : TypeDesc} (hu : P.underlying T = some d) (hd : (match d with | .interface _ => false | _ => true) = true) (hx : s.ev x = some (.b (.one (.ifv T ps)))) : Op1 P E n ⟨dst, .typeAssert x st T false, ty, pos, after, g⟩ s (s.put n dst (.b (.agg ps))) :=
 Op1.val (o := ⟨dst, .typeAssert x st T false, ty, pos, after, g⟩) fun ac w h ρ hw hs => by
  obtain ⟨cs, e, hc⟩ := (ev_rel hs hx : (CP.ifv _ _).rel h _)
  refine ⟨.agg cs, ?_, cs, rfl, hc⟩
  simp only [execOp, e]
  unfold Instr.typeAssert
  rw [Sem.run_bind, Sem.run_bind, run_underlying hu]
  cases d <;> simp at hd <;> simp [Result.andThen]
theorem op_buildA_x {size : Nat} {zs : List CP} {qs : List BV} {parts : Array (Nat × Operand)} {cps : List (Nat × List BV)} (ht : TyBuildA P t size zs) (hp : evPartsX s parts.toList = some cps) (hf : xfill (fun i => some (i * size, size)) (zs.map .one) cps = some qs) :
  Op1 P E n ⟨dst, .build t parts, ty, pos, after, g⟩ s (s.put n dst (.xagg qs)) :=
 Op1.val (o := ⟨dst, .build t parts, ty, pos, after, g⟩) fun ac w h ρ hw hs => by
  obtain ⟨it, z, m, e, ie, h1, h2, h3, h4, h5, h6⟩ := ht.info
  obtain ⟨cs, hc1, hc2⟩ := xfill_rel hw hs (fun i => some (i * size, size)) parts.toList cps (zs.map .one) qs z.cells hp hf (ones_rel (cvs_rel h h3))
  refine ⟨.agg cs, ?_, cs, rfl, hc2⟩
  have hb : P.built t (parts.map fun (i, x) => (i, ac.eval x)).toList = some cs := by
   simp only [Program.built, h1, h4, h2, h5, h6]
   rw [← hc1]
   simp
  have := run_build (P := P) w t _ cs hb
  simp only [execOp]
  simp [this]
end
def recOps (k k2 : Nat) (t1 t2 : TypeId) (p1 p2 : String) (a1 a2 : Array Edge) : Array Oper := #[⟨some k, .call ⟨.builtin .recover, #[], #[]⟩, t1, p1, a1, none⟩, ⟨some k2, .assign (.tmp k), t2, p2, a2, none⟩]
theorem rec_pan {P : Program} {k k2 : Nat} {t1 t2 : TypeId} {p1 p2 : String} {a1 a2 : Array Edge} {pv : Value} {c₀ : Frame} {cs : List Frame} (hu : c₀.mode = .panicking (chn pv)) {Q : Exit → Act → List Frame → World → Prop} {a : Act} {w : World}
  (h : Q .normal ((a.put (some k) pv).put (some k2) ((a.put (some k) pv).eval (.tmp k))) ({ c₀ with mode := .panicking [{ v := pv, recovered := true }] } :: cs) w) : wpOpsS P (recOps k k2 t1 t2 p1 p2 a1 a2) Q [0, 1] a (c₀ :: cs) w := by
 have e1 : (execOp a.eval ⟨some k, .call ⟨.builtin .recover, #[], #[]⟩, t1, p1, a1, none⟩).run P w = .ok .recover w := rfl
 have e2 : recoverD (c₀ :: cs) = some (pv, { c₀ with mode := .panicking [{ v := pv, recovered := true }] } :: cs) := by
  simp [recoverD, hu, chn]
 have w1 : ∀ tmps, Region.wanted (⟨some k, .call ⟨.builtin .recover, #[], #[]⟩, t1, p1, a1, none⟩ : Oper) (yielded (recOps k k2 t1 t2 p1 p2 a1 a2) tmps) = true := fun _ => rfl
 have w2 : ∀ tmps, Region.wanted (⟨some k2, .assign (.tmp k), t2, p2, a2, none⟩ : Oper) (yielded (recOps k k2 t1 t2 p1 p2 a1 a2) tmps) = true := fun _ => rfl
 have o0 : (recOps k k2 t1 t2 p1 p2 a1 a2)[0]? = some ⟨some k, .call ⟨.builtin .recover, #[], #[]⟩, t1, p1, a1, none⟩ := rfl
 have o1 : (recOps k k2 t1 t2 p1 p2 a1 a2)[1]? = some ⟨some k2, .assign (.tmp k), t2, p2, a2, none⟩ := rfl
 simp only [wpOpsS, o0, o1, w1, w2, if_true, e1, e2]
 exact h
theorem rec_idle {P : Program} {k k2 : Nat} {t1 t2 : TypeId} {p1 p2 : String} {a1 a2 : Array Edge} {c₀ : Frame} {cs : List Frame} (hu : c₀.mode = .returning) {Q : Exit → Act → List Frame → World → Prop} {a : Act} {w : World}
  (h : Q .normal ((a.put (some k) .nilIface).put (some k2) ((a.put (some k) .nilIface).eval (.tmp k))) (c₀ :: cs) w) : wpOpsS P (recOps k k2 t1 t2 p1 p2 a1 a2) Q [0, 1] a (c₀ :: cs) w := by
 have e1 : (execOp a.eval ⟨some k, .call ⟨.builtin .recover, #[], #[]⟩, t1, p1, a1, none⟩).run P w = .ok .recover w := rfl
 have e2 : recoverD (c₀ :: cs) = none := by simp [recoverD, hu]
 have w1 : ∀ tmps, Region.wanted (⟨some k, .call ⟨.builtin .recover, #[], #[]⟩, t1, p1, a1, none⟩ : Oper) (yielded (recOps k k2 t1 t2 p1 p2 a1 a2) tmps) = true := fun _ => rfl
 have w2 : ∀ tmps, Region.wanted (⟨some k2, .assign (.tmp k), t2, p2, a2, none⟩ : Oper) (yielded (recOps k k2 t1 t2 p1 p2 a1 a2) tmps) = true := fun _ => rfl
 have o0 : (recOps k k2 t1 t2 p1 p2 a1 a2)[0]? = some ⟨some k, .call ⟨.builtin .recover, #[], #[]⟩, t1, p1, a1, none⟩ := rfl
 have o1 : (recOps k k2 t1 t2 p1 p2 a1 a2)[1]? = some ⟨some k2, .assign (.tmp k), t2, p2, a2, none⟩ := rfl
 simp only [wpOpsS, o0, o1, w1, w2, if_true, e1, e2]
 exact h
theorem put_get {a : Act} {k : Nat} {v : Value} (h : k < a.tmps.size) : (a.put (some k) v).tmps[k]? = some v := by
 show (a.tmps.setIfInBounds k v)[k]? = some v
 simp [h]
theorem put_old {a : Act} {k j : Nat} {v : Value} (h : k ≠ j) : (a.put (some k) v).tmps[j]? = a.tmps[j]? := by
 show (a.tmps.setIfInBounds k v)[j]? = _
 simp [h]
theorem put_size {a : Act} {k : Nat} {v : Value} : (a.put (some k) v).tmps.size = a.tmps.size := by
 show (a.tmps.setIfInBounds k v).size = _
 simp
theorem eval_tmp {a : Act} {k : Nat} {v : Value} (h : a.tmps[k]? = some v) : a.eval (.tmp k) = v := by
 simp [Act.eval, h]
theorem Catches.intro {P : Program} {TB : Tabs} {f : FuncId} {fn : Func} {rid k k2 : Nat} {t1 t2 : TypeId} {p1 p2 : String} {a1 a2 : Array Edge} {c : Code} {own own' : List (Nat × OC)} {args : List BV} {pv : Value} {z : BV} (m : Nat) (hf : P.funcs[f]? = some fn) (hm : fn.ntmps = m)
  (hb : fn.body = some (.seq (.region rid (recOps k k2 t1 t2 p1 p2 a1 a2) false) c)) (hl : args.length ≤ k2) (hk : k2 < k) (hkm : k < m) (hz : ∀ h ρ, z.rel h ρ pv)
  (hbody : ∀ E : Env TB, Tri P E ⟨m, boxKeys own, keysOf own, []⟩ c ⟨(k2, .b z) :: argSlots 0 args, own⟩ (Ret P fn E ⟨m, boxKeys own, keysOf own, []⟩ (Is own' (.tup [])))) : Catches P TB f own args pv own' := by
 intro w h ρ vals tb hag hlent hargs
 have hlen := hargs.length
 refine (callsD_of_wpS (R := fun e u' w' => u' = .panicking [{ v := pv, recovered := true }] ∧ SEnd ⟨w, h, ρ, tb⟩ ⟨m, boxKeys own, keysOf own, []⟩ (Is own' (.tup [])) e w') hf hb fun c₀ cs hu => ?_).mono ?_
 ·apply wpS_seq
  apply wpS_region
  show wpOpsS P _ _ [0, 1] _ _ _
  refine rec_pan hu ?_
  have hsz : (vals.toArray ++ Array.replicate (fn.ntmps - vals.toArray.size) undef).size = m := by simp [hm]; omega
  generalize ha : ({ tmps := vals.toArray ++ Array.replicate (fn.ntmps - vals.toArray.size) undef, defers := [] } : Act) = a0
  have hsz0 : a0.tmps.size = m := by rw [← ha]; exact hsz
  have hg : ∀ j : Nat, ∀ v, vals[j]? = some v → a0.tmps[j]? = some v := by
   intro j v hv
   have hj := (List.getElem?_eq_some_iff.1 hv).1
   rw [← ha]
   show (vals.toArray ++ _)[j]? = _
   rw [Array.getElem?_append_left (by simpa using hj)]
   simpa using hv
  have e1 : (a0.put (some k) pv).tmps[k]? = some pv := put_get (by omega)
  rw [eval_tmp e1]
  show Exit.thenS _ _ _ _ _ _
  refine wpS_of_wp (Code.wp_mono (fun e a' w' he => ?_) (hbody ⟨w, h, ρ, tb⟩ _ w ⟨?_, ?_, h, ρ, ⟨hag, PH.le_refl h, fun _ _ _ => rfl, Nat.le_refl _, fun _ _ _ => rfl, fun _ _ => rfl, rfl, rfl, ?_, ?_⟩, ?_⟩))
  ·cases e with
   | normal => obtain ⟨h1, v, h2, h3⟩ := he; exact ⟨h1, _, rfl, v, h2 _ (CellsLe.refl _), rfl, h3⟩
   | ret => obtain ⟨h1, v, h2, h3⟩ := he; exact ⟨h1, _, rfl, v, h2 _ (CellsLe.refl _), rfl, h3⟩
   | exit _ => exact he.elim
   | goto _ => exact he.elim
   | panic _ => exact he.elim
   | outgrown => exact he.elim
  ·rw [← ha]; rfl
  ·rw [put_size, put_size]; exact hsz0
  ·rintro b ⟨q, hq, hb'⟩ o
   obtain ⟨⟨q', c'⟩, hm', rfl⟩ := List.mem_map.1 hq
   exact ((hlent q' c' hm').2.1 b (.inl hb')).2 o
  ·intro q c' hc'
   obtain ⟨h1, h3, h4⟩ := hlent q c' hc'
   exact ⟨h1, fun b hb' => ⟨.inr ⟨q, List.mem_map.2 ⟨(q, c'), hc', rfl⟩, (h3 b hb').1⟩, (h3 b hb').2⟩, h4⟩
  ·intro q x hx
   rcases List.mem_cons.1 hx with hx | hx
   ·cases hx
    exact ⟨pv, put_get (by rw [put_size]; omega), hz h ρ⟩
   ·obtain ⟨j, z', rfl, hz', rfl⟩ := mem_argSlots hx
    obtain ⟨v, hv, hr⟩ := hargs.get j z' hz'
    have hj := (List.getElem?_eq_some_iff.1 hz').1
    refine ⟨v, ?_, hr⟩
    rw [put_old (by omega), put_old (by omega)]
    rw [Nat.zero_add]
    exact hg j v hv
 ·rintro e u' w' ⟨rfl, v, own'', res, h', ρ', e1, e2, e3, e4⟩
  exact ⟨rfl, v, own'', res, h', ρ', e1, e2, WR.sh (n := ⟨m, boxKeys own, keysOf own, []⟩) (n' := ⟨0, boxKeys own, keysOf own, []⟩) rfl rfl e3, e4⟩
theorem Idles.intro {P : Program} {f : FuncId} {fn : Func} {rid rid2 k k2 k3 k4 m : Nat} {t1 t2 t3 t4 t5 t6 : TypeId} {p1 p2 p3 p4 : String} {a1 a2 a3 a4 : Array Edge} {c : Code} (hf : P.funcs[f]? = some fn) (hr : fn.results = #[])
  (hb : fn.body = some (.seq (.region rid (recOps k k2 t1 t2 p1 p2 a1 a2) false) (.seq (.region rid2 #[⟨some k3, .move (.tmp k2), t3, p3, a3, none⟩, ⟨some k4, .binOp .neq t4 (.tmp k3) (.const .nilIface) t5, t6, p4, a4, none⟩] false) (.cond (.tmp k4) c .skip))))
  {ms : Array (String × TypeId)} (hi : P.underlying t4 = some (.interface ms)) (hm : m ≤ fn.ntmps) (h1 : k < fn.ntmps) (h2 : k2 < fn.ntmps) (h3 : k3 < fn.ntmps) (h4 : k4 < fn.ntmps) : Idles P f m := by
 intro vals w hlen
 refine callsD_of_wpS hf hb fun c₀ cs hu => ?_
 have hsz : (vals.toArray ++ Array.replicate (fn.ntmps - vals.toArray.size) undef).size = fn.ntmps := by simp; omega
 generalize ha : ({ tmps := vals.toArray ++ Array.replicate (fn.ntmps - vals.toArray.size) undef, defers := [] } : Act) = a0
 have hsz0 : a0.tmps.size = fn.ntmps := by rw [← ha]; exact hsz
 have hd0 : a0.defers = [] := by rw [← ha]
 apply wpS_seq
 apply wpS_region
 show wpOpsS P _ _ [0, 1] _ _ _
 refine rec_idle hu ?_
 have e1 : (a0.put (some k) .nilIface).tmps[k]? = some .nilIface := put_get (by omega)
 rw [eval_tmp e1]
 generalize ha1 : (a0.put (some k) .nilIface).put (some k2) .nilIface = a1'
 have hsz1 : a1'.tmps.size = fn.ntmps := by rw [← ha1, put_size, put_size]; exact hsz0
 have hd1 : a1'.defers = [] := by rw [← ha1]; exact hd0
 have g1 : a1'.tmps[k2]? = some .nilIface := by rw [← ha1]; exact put_get (by rw [put_size]; omega)
 refine wpS_of_wp ?_
 apply wp_seq
 apply wp_region
 show wpOps P _ _ [0, 1] a1' w
 have r1 : (execOp a1'.eval ⟨some k3, .move (.tmp k2), t3, p3, a3, none⟩).run P w = .ok (.value .nilIface) w := by
  show (pure (Next.value (a1'.eval (.tmp k2))) : Sem Next).run P w = _
  rw [eval_tmp g1]; rfl
 generalize ha2 : a1'.put (some k3) .nilIface = a2'
 have hsz2 : a2'.tmps.size = fn.ntmps := by rw [← ha2, put_size]; exact hsz1
 have hd2 : a2'.defers = [] := by rw [← ha2]; exact hd1
 have g2 : a2'.tmps[k3]? = some .nilIface := by rw [← ha2]; exact put_get (by omega)
 have r2 : (execOp a2'.eval ⟨some k4, .binOp .neq t4 (.tmp k3) (.const .nilIface) t5, t6, p4, a4, none⟩).run P w = .ok (.value (.bool false)) w := by
  have h1 : ∀ d : Nat, (Op.equalIn (d + 1) t4 .nilIface .nilIface).run P w = .ok true w := fun d => by simp [Op.equalIn, run_underlying hi]
  have h2 : (Op.equal t4 .nilIface .nilIface).run P w = .ok true w := h1 _
  simp only [execOp, eval_tmp g2, show a2'.eval (.const .nilIface) = .nilIface from rfl, eqGuard_nil_constR]
  simp [binOp, h2, Result.andThen]
 have w1 : ∀ tmps, Region.wanted (⟨some k3, .move (.tmp k2), t3, p3, a3, none⟩ : Oper) tmps = true := fun _ => rfl
 have w2 : ∀ tmps, Region.wanted (⟨some k4, .binOp .neq t4 (.tmp k3) (.const .nilIface) t5, t6, p4, a4, none⟩ : Oper) tmps = true := fun _ => rfl
 simp only [wpOps, List.getElem?_toArray, List.getElem?_cons_zero, List.getElem?_cons_succ, w1, w2, if_true, Oper.wp, r1, Oper.upon, ha2, r2]
 have g3 : (a2'.put (some k4) (.bool false)).tmps[k4]? = some (.bool false) := put_get (by omega)
 refine .inl (.inl ?_)
 show Code.wp P (.cond (.tmp k4) c .skip) _ _ _
 refine wp_cond (t := false) (eval_tmp g3) ?_
 refine wp_skip ?_
 refine ⟨hd2, .returning, ?_, .tuple #[], ?_, ⟨_, rfl⟩, rfl, rfl⟩
 ·rw [← hu]
 ·simp [results, hr]
end Go.Sk

namespace Go.Sk
set_option linter.unusedSimpArgs false
set_option linter.unusedVariables false
open Go Go.BigFrame
structure ExtF (P : Program) (f : FuncId) (e : Array Value → Sem Value) : Prop where
 info : ∃ fn, P.funcs[f]? = some fn ∧ (fn.name == "runtime.NumGoroutine") = false ∧ fn.body.isNone = true ∧ Extern.findNext fn = none ∧ Extern.find fn = some e
theorem frozen0 {w : World} {b o : Nat} {cur : Array Value} {T : TypeId} (hb : w.heap[b]? = some (.cells cur T (0, 0))) : w.frozen? ⟨b, o, none⟩ = false := by
 simp [World.frozen?, hb]
theorem setCell_row {w : World} {b o : Nat} {cur : Array Value} {T : TypeId} (hb : w.heap[b]? = some (.cells cur T (0, 0))) (v : Value) : w.setCell ⟨b, o, none⟩ v = w.setRow b (cur.toList.set o v).toArray := by
 have h1 : (cur.toList.set o v).toArray = cur.setIfInBounds o v := by
  apply Array.ext'; simp
 rw [h1]
 unfold World.setCell World.setRow
 congr 1
 apply Array.ext_getElem?
 intro i
 simp only [Array.getElem?_modify]
 split
 ·next e => subst e; simp [hb]
 ·rfl
section
variable {P : Program} {TB : Tabs} {E : Env TB} {n : Sh} {s s' : St} {dst : Option Nat} {t ty yt : TypeId} {pos : String} {after : Array Edge} {g : Option (Nat × Bool)} {x y z c : Operand} {ops : Array Oper} {l : List Oper} {Q : Post} {cd : Code}
theorem ext_run {f : FuncId} {xs : Array Operand} {ats : Array TypeId} (a : Act) (w : World) : (execOp a.eval ⟨dst, .call ⟨.value (.func f), xs, ats⟩, ty, pos, after, g⟩).run P w = (callFunc f (xs.toList.map a.eval).toArray).run P w := by
 rw [show execOp a.eval ⟨dst, .call ⟨.value (.func f), xs, ats⟩, ty, pos, after, g⟩ = callFunc f (#[] ++ xs.map a.eval ++ #[]) from rfl]
 congr 2
 apply Array.ext'
 simp
theorem op_mark0 {f : FuncId} {m : Mark} {ats : Array TypeId} (hf : ExtF P f (fun _ => do _root_.Go.mark m; pure Extern.Race.none_)) : Op1 P E n ⟨dst, .call ⟨.value (.func f), #[], ats⟩, ty, pos, after, g⟩ s (s.put n dst (.tup [])) :=
 Op1.val (o := ⟨dst, .call ⟨.value (.func f), #[], ats⟩, ty, pos, after, g⟩) fun ac w h ρ hw hs => by
  obtain ⟨fn, h1, h2, h3, h4, h5⟩ := hf.info
  exact ⟨.tuple #[], by rw [ext_run]; exact run_call_mark0 h1 h2 h3 h4 m h5 w, _, rfl, .nil⟩
theorem op_marked {f : FuncId} {m : Addr → Mark} {ats : Array TypeId} {k o : Nat} (hf : ExtF P f (Extern.Race.marked m)) (hx : s.ev x = some (.b (.ptr k o))) : Op1 P E n ⟨dst, .call ⟨.value (.func f), #[x], ats⟩, ty, pos, after, g⟩ s (s.put n dst (.tup [])) :=
 Op1.val (o := ⟨dst, .call ⟨.value (.func f), #[x], ats⟩, ty, pos, after, g⟩) fun ac w h ρ hw hs => by
  obtain ⟨fn, h1, h2, h3, h4, h5⟩ := hf.info
  obtain ⟨b, he, hv⟩ := (ev_rel hs hx : BV.rel h ρ (.ptr k o) _)
  refine ⟨.tuple #[], ?_, _, rfl, .nil⟩
  rw [ext_run]
  simp only [List.map_cons, List.map_nil, hv]
  exact run_call_marked h1 h2 h3 h4 m h5 _ w
theorem op_unsafe {src d t0 : TypeId} {k o : Nat} {T : TypeId} {ps : List CP} {p : CP} (h1 : P.underlying src = some (.pointer t0)) (h2 : P.underlying d = some .unsafePointer) (h3 : (P.info? t0).map (fun i => decide (i.size = 0)) = some false) (hx : s.ev x = some (.b (.ptr k o))) (hk : lk s.own k = some (.box T ps)) (hp : ps[o]? = some p) :
  Op1 P E n ⟨dst, .convert src d x, ty, pos, after, g⟩ s (s.put n dst (.b (.ptr k o))) :=
 Op1.val (o := ⟨dst, .convert src d x, ty, pos, after, g⟩) fun ac w h ρ hw hs => by
  obtain ⟨b, he, hv⟩ := (ev_rel hs hx : BV.rel h ρ (.ptr k o) _)
  obtain ⟨b', cur, hb1, hb2, hb3⟩ := box_cells hw hk
  have : b' = b := by rw [hb1] at he; simpa using he
  subst this
  obtain ⟨u, hu, hpu⟩ := hb3.get o p hp
  refine ⟨.pointer (some ⟨b', o, none⟩), ?_, b', he, rfl⟩
  simp only [execOp, hv]
  have := run_convert_to_unsafe (P := P) h1 h2 h3 (a := ⟨b', o, none⟩) (w := w) (v := u) (by rw [cell_row hb2]; simpa using hu)
  simp [this]
theorem op_aload {f : FuncId} {ats : Array TypeId} {k o : Nat} {kk : IntKind} {i : Int} {T : TypeId} {ps : List CP} (hf : ExtF P f (Extern.Atomic.loadT (.int kk))) (hx : s.ev x = some (.b (.ptr k o))) (hk : lk s.own k = some (.box T ps)) (hp : ps[o]? = some (.int kk i)) :
  Op1 P E n ⟨dst, .call ⟨.value (.func f), #[x], ats⟩, ty, pos, after, g⟩ s (s.put n dst (.b (.one (.int kk i)))) :=
 Op1.val (o := ⟨dst, .call ⟨.value (.func f), #[x], ats⟩, ty, pos, after, g⟩) fun ac w h ρ hw hs => by
  obtain ⟨fn, h1, h2, h3, h4, h5⟩ := hf.info
  obtain ⟨b, he, hv⟩ := (ev_rel hs hx : BV.rel h ρ (.ptr k o) _)
  obtain ⟨b', cur, hb1, hb2, hb3⟩ := box_cells hw hk
  have : b' = b := by rw [hb1] at he; simpa using he
  subst this
  obtain ⟨u, hu, hpu⟩ := hb3.get o _ hp
  obtain ⟨rfl, hr⟩ : u = .int kk i ∧ inR kk i := hpu
  refine ⟨.int kk i, ?_, rfl, hr⟩
  rw [ext_run]
  simp only [List.map_cons, List.map_nil, hv]
  exact run_call_load h1 h2 h3 h4 kk h5 (by rw [cell_row hb2]; simpa using hu)
theorem Op1.cell {o : Oper} {own' : List (Nat × OC)} {res : SV}
  (H : ∀ (a : Act) (w : World) (h : PH) (ρ : RM), WR E n s.own h ρ w → SlotsRel h ρ s.slots a.tmps → ∃ v w', (execOp a.eval o).run P w = .ok (.value v) w' ∧ WR E n own' h ρ w' ∧ res.rel h ρ v) : Op1 P E n o s ((⟨s.slots, own'⟩ : St).put n o.dst res) := by
 intro a w ⟨hdf, hn, h, ρ, hw, hs⟩ next Q hnext
 obtain ⟨v, w', hv, hw', hr⟩ := H a w h ρ hw hs
 unfold Oper.wp
 rw [hv]
 exact hnext _ _ (R.put (s := ⟨s.slots, own'⟩) hdf hn hw' hs hr)
theorem op_cas {f : FuncId} {ats : Array TypeId} {k o : Nat} {kk : IntKind} {i j : Int} {T : TypeId} {ps ps' : List CP} (hf : ExtF P f (Extern.Atomic.casT (.int kk))) (hx : s.ev x = some (.b (.ptr k o))) (hk : lk s.own k = some (.box T ps)) (hp : ps[o]? = some (.int kk i)) (hy : s.ev y = some (.b (.one (.int kk i)))) (hz : s.ev z = some (.b (.one (.int kk j)))) (hps : ps.set o (.int kk j) = ps') :
  Op1 P E n ⟨dst, .call ⟨.value (.func f), #[x, y, z], ats⟩, ty, pos, after, g⟩ s ((⟨s.slots, ins k (.box T ps') s.own⟩ : St).put n dst (B true)) :=
 Op1.cell (o := ⟨dst, .call ⟨.value (.func f), #[x, y, z], ats⟩, ty, pos, after, g⟩) fun ac w h ρ hw hs => by
  obtain ⟨fn, h1, h2, h3, h4, h5⟩ := hf.info
  obtain ⟨b, he, hv⟩ := (ev_rel hs hx : BV.rel h ρ (.ptr k o) _)
  obtain ⟨b', cur, hb1, hb2, hb3⟩ := box_cells hw hk
  have : b' = b := by rw [hb1] at he; simpa using he
  subst this
  obtain ⟨u, hu, hpu⟩ := hb3.get o _ hp
  obtain ⟨rfl, hr⟩ : u = .int kk i ∧ inR kk i := hpu
  refine ⟨.bool true, w.setCell ⟨b', o, none⟩ (.int kk j), ?_, ?_, rfl⟩
  ·rw [ext_run]
   simp only [List.map_cons, List.map_nil, hv, (ev_int hs hy).1, (ev_int hs hz).1]
   exact run_call_cas_hit h1 h2 h3 h4 kk h5 (y := j) (by rw [cell_row hb2]; simpa using hu) (frozen0 hb2)
  ·rw [setCell_row hb2]
   refine hw.setBox hk hb1 hb2 ?_
   rw [← hps]
   exact All2.set hb3 o ⟨rfl, (ev_int hs hz).2⟩
theorem op_aadd {f : FuncId} {ats : Array TypeId} {k o : Nat} {kk : IntKind} {i j r : Int} {T : TypeId} {ps ps' : List CP} (hf : ExtF P f (Extern.Atomic.update (Op.intArith .add) kk true)) (hx : s.ev x = some (.b (.ptr k o))) (hk : lk s.own k = some (.box T ps)) (hp : ps[o]? = some (.int kk i)) (hy : s.ev y = some (.b (.one (.int kk j)))) (hr : kk.wrap (i + j) = r) (hin : inR kk r) (hps : ps.set o (.int kk r) = ps') :
  Op1 P E n ⟨dst, .call ⟨.value (.func f), #[x, y], ats⟩, ty, pos, after, g⟩ s ((⟨s.slots, ins k (.box T ps') s.own⟩ : St).put n dst (.b (.one (.int kk r)))) :=
 Op1.cell (o := ⟨dst, .call ⟨.value (.func f), #[x, y], ats⟩, ty, pos, after, g⟩) fun ac w h ρ hw hs => by
  obtain ⟨fn, h1, h2, h3, h4, h5⟩ := hf.info
  obtain ⟨b, he, hv⟩ := (ev_rel hs hx : BV.rel h ρ (.ptr k o) _)
  obtain ⟨b', cur, hb1, hb2, hb3⟩ := box_cells hw hk
  have : b' = b := by rw [hb1] at he; simpa using he
  subst this
  obtain ⟨u, hu, hpu⟩ := hb3.get o _ hp
  obtain ⟨rfl, hri⟩ : u = .int kk i ∧ inR kk i := hpu
  refine ⟨.int kk r, w.setCell ⟨b', o, none⟩ (.int kk r), ?_, ?_, rfl, hin⟩
  ·rw [ext_run]
   simp only [List.map_cons, List.map_nil, hv, (ev_int hs hy).1]
   exact run_call_add h1 h2 h3 h4 kk h5 (y := j) (s := r) (by rw [cell_row hb2]; simpa using hu) (frozen0 hb2) (by rw [← hr]; rfl)
  ·rw [setCell_row hb2]
   refine hw.setBox hk hb1 hb2 ?_
   rw [← hps]
   exact All2.set hb3 o ⟨rfl, hin⟩
theorem op_astore {f : FuncId} {ats : Array TypeId} {k o : Nat} {kk : IntKind} {j : Int} {T : TypeId} {ps ps' : List CP} {p : CP} (hf : ExtF P f Extern.Atomic.storeT) (hx : s.ev x = some (.b (.ptr k o))) (hk : lk s.own k = some (.box T ps)) (hp : ps[o]? = some p) (hy : s.ev y = some (.b (.one (.int kk j)))) (hps : ps.set o (.int kk j) = ps') :
  Op1 P E n ⟨dst, .call ⟨.value (.func f), #[x, y], ats⟩, ty, pos, after, g⟩ s ((⟨s.slots, ins k (.box T ps') s.own⟩ : St).put n dst (.tup [])) :=
 Op1.cell (o := ⟨dst, .call ⟨.value (.func f), #[x, y], ats⟩, ty, pos, after, g⟩) fun ac w h ρ hw hs => by
  obtain ⟨fn, h1, h2, h3, h4, h5⟩ := hf.info
  obtain ⟨b, he, hv⟩ := (ev_rel hs hx : BV.rel h ρ (.ptr k o) _)
  obtain ⟨b', cur, hb1, hb2, hb3⟩ := box_cells hw hk
  have : b' = b := by rw [hb1] at he; simpa using he
  subst this
  obtain ⟨u, hu, hpu⟩ := hb3.get o _ hp
  refine ⟨.tuple #[], w.setCell ⟨b', o, none⟩ (.int kk j), ?_, ?_, _, rfl, .nil⟩
  ·rw [ext_run]
   simp only [List.map_cons, List.map_nil, hv, (ev_int hs hy).1]
   exact run_call_store h1 h2 h3 h4 h5 (u := u) (by rw [cell_row hb2]; simpa using hu) (frozen0 hb2)
  ·rw [setCell_row hb2]
   refine hw.setBox hk hb1 hb2 ?_
   rw [← hps]
   exact All2.set hb3 o ⟨rfl, (ev_int hs hy).2⟩
theorem Tri.loopN (m : Nat) (h : Tri P E n cd s (Exit.then (Code.rounds P cd Q m) Q)) : Tri P E n (.loop cd) s Q := fun a w hr => wp_loop_rounds (m + 1) (h a w hr)
theorem Fin.round {m : Nat} (h : Tri P E n cd s (Exit.then (Code.rounds P cd Q m) Q)) : Fin E n .normal s (Exit.then (Code.rounds P cd Q (m + 1)) Q) := fun a w hr => h a w hr
def CP.ifp (T : TypeId) (ps : List CP) : CP := ⟨fun h v => ∃ u, v = .iface T u ∧ (CP.rp ps).rel h u, fun hl ⟨u, e, hr⟩ => ⟨u, e, (CP.rp ps).mono hl hr⟩, fun ⟨u, e, _⟩ => by rw [e]; rfl⟩
theorem op_iface_e {T : TypeId} {ps : List CP} (hc : P.concrete T = true) (hx : s.ev x = some (.b (.eptr ps))) : Op1 P E n ⟨dst, .makeInterface T x, ty, pos, after, g⟩ s (s.put n dst (.b (.one (.ifp T ps)))) :=
 Op1.val (o := ⟨dst, .makeInterface T x, ty, pos, after, g⟩) fun ac w h ρ hw hs => by
  have hr := (ev_rel hs hx : BV.rel h ρ (.eptr ps) _)
  refine ⟨.iface T (ac.eval x), ?_, _, rfl, hr⟩
  show (do let v ← Instr.makeInterface T (ac.eval x); pure (Next.value v) : Sem Next).run P w = _
  rw [Sem.run_bind, run_makeInterface _ _ _ hc]
  rfl
theorem op_callI {f : FuncId} {T : TypeId} {ps : List CP} {nm : String} {own_a own' : List (Nat × OC)} {zs : List BV} {xs : Array Operand} {ats : Array TypeId} {res : SV} (hspec : Meets P TB f own_a (.eptr ps :: zs) (Is own' res)) (hm : ∀ (u : Value) (args : Array Value) (w : World), (callMethod (.iface T u) nm args).run P w = .ok (.enter f (#[u] ++ args)) w) (hx : s.ev x = some (.b (.one (.ifp T ps)))) (ha : evArgs s xs.toList = some zs) (hl : lentOk s.own own_a)
  (hok : okNew n own_a own' = true) (hki : res.keysIn own' = true) (hcl : okOwn s.own own_a own' = true := by rfl) : Op1 P E n ⟨dst, .call ⟨.invoke x nm, xs, ats⟩, ty, pos, after, g⟩ s (s.aft n own_a own' dst res) :=
 fun _ _ hr _ _ hnext => call_coreV hspec (fun a w h ρ hw hs => by
  obtain ⟨u, hv, hu⟩ := (ev_rel hs hx : (CP.ifp T ps).rel h _)
  refine ⟨u :: xs.toList.map a.eval, ?_, .cons hu (evArgs_rel hs ha)⟩
  have e1 : execOp a.eval ⟨dst, .call ⟨.invoke x nm, xs, ats⟩, ty, pos, after, g⟩ = invoke (.fn (.method nm) #[]) (#[a.eval x] ++ xs.map a.eval) := rfl
  rw [e1, hv]
  have e2 : invoke (.fn (.method nm) #[]) (#[.iface T u] ++ xs.map a.eval) = callMethod (.iface T u) nm (xs.map a.eval) := by
   have h0 : (#[Value.iface T u] ++ xs.map a.eval)[0]? = some (.iface T u) := by
    rw [Array.getElem?_append_left (by simp)]; rfl
   have h3 : (#[Value.iface T u] ++ xs.map a.eval).extract 1 (#[Value.iface T u] ++ xs.map a.eval).size = xs.map a.eval := by
    apply Array.ext'
    simp [Array.toList_extract, List.extract]
    exact List.take_of_length_le (by simp)
   unfold invoke
   simp only [h0, h3]
  rw [e2, hm]
  congr 2
  apply Array.ext'
  simp) hl hr fun _ _ hp => by
  obtain ⟨rfl, rfl⟩ := hp
  exact ⟨hok, hcl, hki, hnext⟩
end
def MeetsD (P : Program) (TB : Tabs) (f : FuncId) (own : List (Nat × OC)) (args : List BV) (own' : List (Nat × OC)) : Prop :=
 ∀ (w : World) (h : PH) (ρ : RM) (vals : List Value) (tb : TabsOk TB h w), Agree h w → Lent own h ρ w → All2 (fun (x : BV) v => x.rel h ρ v) args vals →
  ∀ u, CallsD P f vals.toArray u w fun e u' w' => u' = u ∧ SEnd ⟨w, h, ρ, tb⟩ ⟨0, boxKeys own, keysOf own, []⟩ (Is own' (.tup [])) e w'
theorem MeetsD.intro {P : Program} {TB : Tabs} {f : FuncId} {fn : Func} {c : Code} {own own' : List (Nat × OC)} {args : List BV} (m : Nat) (hf : P.funcs[f]? = some fn) (hm : fn.ntmps = m) (hb : fn.body = some c) (hl : args.length ≤ m)
  (hbody : ∀ E : Env TB, Tri P E ⟨m, boxKeys own, keysOf own, []⟩ c ⟨argSlots 0 args, own⟩ (Ret P fn E ⟨m, boxKeys own, keysOf own, []⟩ (Is own' (.tup [])))) : MeetsD P TB f own args own' := by
 intro w h ρ vals tb hag hlent hargs u
 have hlen := hargs.length
 refine (callsD_of_wp (R := SEnd ⟨w, h, ρ, tb⟩ ⟨m, boxKeys own, keysOf own, []⟩ (Is own' (.tup []))) hf hb (wp_mono (hbody ⟨w, h, ρ, tb⟩ _ w ⟨rfl, ?_, h, ρ, ⟨hag, PH.le_refl h, fun _ _ _ => rfl, Nat.le_refl _, fun _ _ _ => rfl, fun _ _ => rfl, rfl, rfl, ?_, ?_⟩, ?_⟩) (Ret.body rfl))).mono ?_
 ·simp [hm]; omega
 ·rintro b ⟨k, hk, hb⟩ o
  obtain ⟨⟨k', c⟩, hm', rfl⟩ := List.mem_map.1 hk
  exact ((hlent k' c hm').2.1 b (.inl hb)).2 o
 ·intro k c hc
  obtain ⟨h1, h3, h4⟩ := hlent k c hc
  exact ⟨h1, fun b hb => ⟨.inr ⟨k, List.mem_map.2 ⟨(k, c), hc, rfl⟩, (h3 b hb).1⟩, (h3 b hb).2⟩, h4⟩
 ·intro k x hx
  obtain ⟨j, z, rfl, hz, rfl⟩ := mem_argSlots hx
  obtain ⟨v, hv, hr⟩ := hargs.get j z hz
  refine ⟨v, ?_, hr⟩
  have hj := (List.getElem?_eq_some_iff.1 hv).1
  rw [Nat.zero_add, Array.getElem?_append_left (by simpa using hj)]
  simpa using hv
 ·rintro e u' w' ⟨e0, v, own', res, h', ρ', e1, e2, e3, e4⟩
  exact ⟨e0, v, own', res, h', ρ', e1, e2, WR.sh (n := ⟨m, boxKeys own, keysOf own, []⟩) (n' := ⟨0, boxKeys own, keysOf own, []⟩) rfl rfl e3, e4⟩
inductive DA where
 | ptr (k off : Nat)
 | bool (b : Bool)
def DA.bv : DA → BV
 | .ptr k off => .ptr k off
 | .bool b => .one (.bool b)
def DA.val {TB : Tabs} (E : Env TB) : DA → Value
 | .ptr k off => match E.ρ0 k with
  | .pointer (some a) => .pointer (some ⟨a.block, off, none⟩)
  | v => v
 | .bool b => .bool b
def DA.ok (fix : List Nat) (own : List (Nat × OC)) : DA → Bool
 | .ptr k _ => fix.contains k && (match lk own k with | some (.box _ _) => true | _ => false)
 | .bool _ => true
theorem DA.rel {TB : Tabs} {E : Env TB} {n : Sh} {own : List (Nat × OC)} {h : PH} {ρ : RM} {w : World} (hw : WR E n own h ρ w) : ∀ {l : List DA}, l.all (DA.ok n.fix own) = true → All2 (fun (x : BV) v => x.rel h ρ v) (l.map DA.bv) (l.map (DA.val E))
 | [], _ => .nil
 | x :: l, hk => by
  rw [List.all_cons, Bool.and_eq_true] at hk
  refine .cons ?_ (DA.rel hw hk.2)
  have h1 := hk.1
  cases x with
  | bool b => rfl
  | ptr k off =>
   simp only [DA.ok, Bool.and_eq_true] at h1
   obtain ⟨h2, h3⟩ := h1
   split at h3
   ·next T ps e =>
    obtain ⟨b, cur, hb1, hb2, hb3⟩ := box_cells hw e
    refine ⟨b, hb1, ?_⟩
    have := hw.fixed k (by simpa using h2)
    simp only [DA.val, ← this, hb1]
   ·cases h3
theorem DA.eq {TB : Tabs} {E : Env TB} {n : Sh} {own : List (Nat × OC)} {h : PH} {ρ : RM} {w : World} (hw : WR E n own h ρ w) : ∀ {l : List DA} {vs : List Value}, l.all (DA.ok n.fix own) = true → All2 (fun (x : BV) v => x.rel h ρ v) (l.map DA.bv) vs → vs = l.map (DA.val E)
 | [], _, _, .nil => rfl
 | x :: l, v :: vs, hk, hr => by
  rw [List.all_cons, Bool.and_eq_true] at hk
  cases hr with
  | cons h0 h4 =>
  rw [DA.eq hw hk.2 h4, List.map_cons]
  congr 1
  have h1 := hk.1
  cases x with
  | bool b => exact h0
  | ptr k off =>
   simp only [DA.ok, Bool.and_eq_true] at h1
   obtain ⟨b, hb1, rfl⟩ := h0
   have := hw.fixed k (by simpa using h1.1)
   simp only [DA.val, ← this, hb1]
section
variable {P : Program} {TB : Tabs} {E : Env TB} {n : Sh} {s s' : St} {dst : Option Nat} {t ty yt : TypeId} {pos : String} {after : Array Edge} {g : Option (Nat × Bool)} {x y z c : Operand} {ops : Array Oper} {l : List Oper} {Q : Post} {cd : Code}
theorem OpsL.deferF {f : FuncId} {das : List DA} {xs : Array Operand} {ats : Array TypeId} (hk : das.all (DA.ok n.fix s.own) = true) (ha : evArgs s xs.toList = some (das.map DA.bv))
  (h : OpsL P E ⟨n.n, n.fix, n.lnd, ⟨.fn (.func f) #[], (das.map (DA.val E)).toArray⟩ :: n.dfs⟩ ops l s Q) : OpsL P E n ops (⟨none, .defer ⟨.value (.func f), xs, ats⟩, ty, pos, after, none⟩ :: l) s Q := by
 intro a w hr
 unfold wpL
 have : ∀ tmps, Region.wanted ⟨none, .defer ⟨.value (.func f), xs, ats⟩, ty, pos, after, none⟩ (yielded ops tmps) = true := fun _ => rfl
 simp only [this, if_true]
 obtain ⟨hdf, hsz, h1, ρ, hw, hs⟩ := hr
 have hv := DA.eq hw hk (evArgs_rel hs ha)
 have hrun : (execOp a.eval ⟨none, .defer ⟨.value (.func f), xs, ats⟩, ty, pos, after, none⟩).run P w = .ok (.defer ⟨.fn (.func f) #[], (das.map (DA.val E)).toArray⟩) w := by
  have e1 : execOp a.eval ⟨none, .defer ⟨.value (.func f), xs, ats⟩, ty, pos, after, none⟩ = (pure (.defer ⟨.fn (.func f) #[], #[] ++ xs.map a.eval⟩) : Sem Next) := rfl
  rw [e1, ← hv]
  have e2 : (#[] ++ xs.map a.eval) = (xs.toList.map a.eval).toArray := by apply Array.ext'; simp
  rw [e2]
  rfl
 unfold Oper.wp
 rw [hrun]
 refine h { a with defers := ⟨.fn (.func f) #[], (das.map (DA.val E)).toArray⟩ :: a.defers } w ⟨?_, hsz, h1, ρ, WR.sh (n := n) (n' := ⟨n.n, n.fix, n.lnd, _⟩) rfl rfl hw, hs⟩
 show _ :: a.defers = _
 rw [hdf]
theorem Fin.runD {fn : Func} {post : SPost} {e : Exit} {f : FuncId} {das : List DA} {own_a own' : List (Nat × OC)} {ds : List Deferred} {m : Nat} {fix lnd : List Nat} (he : e = .ret ∨ e = .normal) (hm : MeetsD P TB f own_a (das.map DA.bv) own') (hg : Goes P f) (hk : das.all (DA.ok fix s.own) = true) (hl : lentOk s.own own_a)
  (hok : okNew ⟨m, fix, lnd, []⟩ own_a own' = true) (hcl : okOwn s.own own_a own' = true)
  (h : Fin E ⟨m, fix, lnd, ds⟩ .ret ⟨dropNew own_a own' s.slots, insAll own' (delAll own_a s.own)⟩ (RetD P fn E ⟨m, fix, lnd, []⟩ post)) :
  Fin E ⟨m, fix, lnd, ⟨.fn (.func f) #[], (das.map (DA.val E)).toArray⟩ :: ds⟩ e s (RetD P fn E ⟨m, fix, lnd, []⟩ post) := by
 have key : ∀ (a : Act) (w : World), R E ⟨m, fix, lnd, ⟨.fn (.func f) #[], (das.map (DA.val E)).toArray⟩ :: ds⟩ s a w → Leaves P fn a.tmps (SEnd E ⟨m, fix, lnd, []⟩ post) a.defers .returning w := by
  rintro a w ⟨hdf, hsz, h1, ρ, hw0, hs⟩
  have hw : WR E ⟨m, fix, lnd, []⟩ s.own h1 ρ w := WR.sh (n := ⟨m, fix, lnd, (⟨.fn (.func f) #[], (das.map (DA.val E)).toArray⟩ : Deferred) :: ds⟩) (n' := ⟨m, fix, lnd, []⟩) rfl rfl hw0
  rw [show a.defers = _ from hdf]
  refine leaves_cons (f := f) (args := (das.map (DA.val E)).toArray) (by simp) ?_ ?_
  ·have e1 : invoke (.fn (.func f) #[]) (das.map (DA.val E)).toArray = callFunc f ((das.map (DA.val E)).toArray ++ #[]) := rfl
   rw [e1, hg.run]
   simp
  have hla := lentOk_spec hl
  refine (hm w h1 ρ _ hw.tabs hw.agree (lent_of hw hla (lentOk_plain hl)) (DA.rel hw hk) .returning).mono ?_
  rintro e' u' w' ⟨rfl, v, own1, res, h', ρ', rfl, ⟨rfl, rfl⟩, hwr, hrel⟩
  have hwc := hw.call hla hwr hok hcl
  refine h { a with defers := ds } w' ⟨rfl, hsz, h', _, WR.sh (n := ⟨m, fix, lnd, []⟩) (n' := ⟨m, fix, lnd, ds⟩) rfl rfl hwc, fun k x hx => ?_⟩
  obtain ⟨h3, h2⟩ := mem_dropNew hx
  obtain ⟨u, hu, hrel⟩ := hs k x h3
  refine ⟨u, hu, SV.mono hwr.le (fun j hj => ?_) hrel⟩
  by_cases hin : j ∈ keysOf own1
  ·rw [comb_in hin]
   by_cases hia : j ∈ boxKeys own_a
   ·exact hwr.fixed j hia
   ·have := h2 j hin hia; simp [this] at hj
  ·exact comb_out hin
 rcases he with rfl | rfl <;> exact key
end
end Go.Sk

namespace Go.Sk
set_option linter.unusedSimpArgs false
set_option linter.unusedVariables false
open Go Go.BigFrame
def CP.slb (xs : List Int) : CP := ⟨fun h v => (CP.sl 1 (xs.map (eK .u8))).rel h v ∧ (xs = [] → v = .slice none 0 0), fun hl x => ⟨(CP.sl 1 (xs.map (eK .u8))).mono hl x.1, x.2⟩, fun x => (CP.sl 1 (xs.map (eK .u8))).one x.1⟩
def tabB (f : Nat → List Int) (rest : List CP) : List CP := (List.range 256).map (fun i => CP.slb (f i)) ++ rest
theorem tabB_get {f : Nat → List Int} {rest : List CP} {i : Nat} (h : i < 256) : (tabB f rest)[i]? = some (.slb (f i)) := by
 unfold tabB
 rw [List.getElem?_append_left (by simp; exact h)]
 simp [h]
theorem tabB_drop {f : Nat → List Int} {rest : List CP} : (tabB f rest).drop 256 = rest := by
 unfold tabB
 rw [List.drop_append_of_le_length (by simp)]
 simp
def escB (i : Nat) : List Int := if i = 34 then ofStr [92, 34] else if i = 92 then ofStr [92, 92] else []
theorem lit_get {m a b : Nat} {A B : CP} {rest : List CP} {j : Nat} (hj : j < m) : (((List.replicate m CP.nil).set a A).set b B ++ rest)[j]? = some (if b = j then B else if a = j then A else CP.nil) := by
 rw [List.getElem?_append_left (by simpa using hj), List.getElem?_set, List.getElem?_set]
 split
 ·next e => subst e; simp [hj]
 ·split
  ·next e => subst e; simp [hj]
  ·simp [hj]
theorem lit_past {m a b : Nat} {A B : CP} {rest : List CP} {j : Nat} (hj : m ≤ j) : (((List.replicate m CP.nil).set a A).set b B ++ rest)[j]? = rest[j - m]? := by
 rw [List.getElem?_append_right (by simpa using hj)]
 simp
theorem tabB_past {f : Nat → List Int} {rest : List CP} {j : Nat} (hj : 256 ≤ j) : (tabB f rest)[j]? = rest[j - 256]? := by
 unfold tabB
 rw [List.getElem?_append_right (by rw [List.length_map, List.length_range]; exact hj), List.length_map, List.length_range]
theorem tab_rel {T : TypeId} {rest : List CP} {h : PH} {ρ : RM} {v : Value} (hv : SV.rel h ρ (.b (.one (.ifp T (((List.replicate 256 CP.nil).set 34 (.sl 1 ((ofStr [92, 34]).map (eK .u8)))).set 92 (.sl 1 ((ofStr [92, 92]).map (eK .u8))) ++ rest)))) v) : SV.rel h ρ (.b (.one (.ifp T (tabB escB rest)))) v := by
 obtain ⟨u, e, b, o, e2, hr⟩ := hv
 refine ⟨u, e, b, o, e2, fun j c hc => ?_⟩
 by_cases hj : j < 256
 ·rw [tabB_get hj] at hc
  cases hc
  obtain ⟨x, hx, hrel⟩ := hr j _ (lit_get hj)
  refine ⟨x, hx, ?_⟩
  unfold escB
  by_cases h1 : 92 = j
  ·subst h1
   rw [if_pos rfl] at hrel
   exact ⟨hrel, fun he => absurd he (by decide)⟩
  ·rw [if_neg h1] at hrel
   by_cases h2 : 34 = j
   ·subst h2
    rw [if_pos rfl] at hrel
    exact ⟨hrel, fun he => absurd he (by decide)⟩
   ·rw [if_neg h2] at hrel
    have hx2 : x = .slice none 0 0 := hrel.1
    rw [if_neg (fun h => h2 h.symm), if_neg (fun h => h1 h.symm)]
    exact ⟨⟨fun ps hps => by simp at hps, Nat.one_pos, .inl ⟨hx2, rfl⟩⟩, fun _ => hx2⟩
 ·obtain ⟨x, hx, hrel⟩ := hr j c (by rw [lit_past (by omega)]; rw [tabB_past (by omega)] at hc; exact hc)
  exact ⟨x, hx, hrel⟩
section
variable {P : Program} {TB : Tabs} {E : Env TB} {n : Sh} {s s' : St} {dst : Option Nat} {t ty yt : TypeId} {pos : String} {after : Array Edge} {g : Option (Nat × Bool)} {x y z c : Operand} {ops : Array Oper} {l : List Oper} {Q : Post} {cd : Code}
theorem op_tab {e : TypeId} {f : Nat → List Int} {rest : List CP} {i : Int} (ht : TyArr P t e 256 1) (hx : s.ev x = some (.b (.eptr (tabB f rest)))) (hy : s.ev y = some (.b (.one (.int .u8 i)))) :
  Op1 P E n ⟨dst, .indexAddr t x y, ty, pos, after, g⟩ s (s.put n dst (.b (.eptr [.slb (f i.toNat)]))) :=
 Op1.val (o := ⟨dst, .indexAddr t x y, ty, pos, after, g⟩) fun ac w h ρ hw hs => by
  obtain ⟨b, o, hv, hr⟩ := (ev_rel hs hx : BV.rel h ρ (.eptr (tabB f rest)) _)
  obtain ⟨inf, hi, hsz⟩ := ht.info
  have hin := (ev_int hs hy).2
  have h0 : 0 ≤ i ∧ i ≤ 255 := by simpa [inR, IntKind.min, IntKind.max, IntKind.signed, IntKind.bits] using hin
  refine ⟨.pointer (some ⟨b, o + i.toNat * 1, none⟩), ?_, b, o + i.toNat * 1, rfl, fun j c hc => ?_⟩
  ·simp only [execOp, hv, (ev_int hs hy).1]
   simp [run_indexAt_arr ht.und hi hsz w b o .u8 i h0.1 (by omega)]
  ·cases j with
   | zero =>
    obtain ⟨u, hu, hrel⟩ := hr i.toNat _ (tabB_get (by omega))
    have : c = .slb (f i.toNat) := by simpa using hc.symm
    subst this
    exact ⟨u, by rw [Nat.mul_one, Nat.add_zero]; exact hu, hrel⟩
   | succ j => simp at hc
theorem slb_sl {xs : List Int} {h : PH} {ρ : RM} {v : Value} (hv : SV.rel h ρ (.b (.one (.slb xs))) v) : SV.rel h ρ (.b (.one (.sl 1 (xs.map (eK .u8))))) v := hv.1
theorem op_neq_slb {e : TypeId} {xs : List Int} (ht : P.underlying t = some (.slice e)) (hx : s.ev x = some (.b (.one (.slb xs)))) :
  Op1 P E n ⟨dst, .binOp .neq t x (.const (.slice none 0 0)) yt, ty, pos, after, g⟩ s (s.put n dst (B (decide (xs ≠ [])))) :=
 Op1.val (o := ⟨dst, .binOp .neq t x (.const (.slice none 0 0)) yt, ty, pos, after, g⟩) fun ac w h ρ hw hs => by
  have hr := (ev_rel hs hx : (CP.slb xs).rel h _)
  obtain ⟨⟨h1, h2, h3⟩, h4⟩ := hr
  have hq : ∀ ad m q, (Op.equal t (.slice ad m q) (.slice none 0 0)).run P w = .ok ad.isNone w := fun ad m q => run_equal_nil ht w ad m q
  have hcst : ac.eval (.const (.slice none 0 0)) = .slice none 0 0 := rfl
  by_cases he : xs = []
  ·have hv := h4 he
   refine ⟨.bool (decide (xs ≠ [])), ?_, rfl⟩
   simp only [execOp, hv, hcst]
   simp [eqGuard, binOp, hq, he, Result.andThen]
  ·rcases h3 with ⟨_, h5⟩ | ⟨b, o, cp, hv, _⟩ | ⟨_, _, h5⟩
   ·exact absurd (List.map_eq_nil_iff.1 h5) he
   ·refine ⟨.bool (decide (xs ≠ [])), ?_, rfl⟩
    simp only [execOp, hv, hcst]
    simp [eqGuard, binOp, hq, he, Result.andThen]
   ·exact absurd (List.map_eq_nil_iff.1 h5) he
theorem op_nilCheck_e {ps : List CP} (hx : s.ev x = some (.b (.eptr ps))) : Op1 P E n ⟨dst, .nilCheck x, ty, pos, after, g⟩ s (s.put n dst (.b (.eptr ps))) :=
 Op1.val (o := ⟨dst, .nilCheck x, ty, pos, after, g⟩) fun ac w h ρ hw hs => by
  obtain ⟨b, o, hv, hr⟩ := (ev_rel hs hx : BV.rel h ρ (.eptr ps) _)
  exact ⟨_, by simp only [execOp, hv]; rfl, b, o, rfl, hr⟩
theorem op_append_c {k size bytes : Nat} {e : TypeId} {zs : List CP} {news : List (List CP)} (ht : TySl P t e size bytes zs) (hz : 0 < size) (hb : news.length * bytes ≤ 140737488355328) (hm : news.length ≤ 9223372036854775807)
  (hy : s.ev y = some (.b (.one (.sl size news)))) (hfx : n.fix.contains k = false) (hnu : noUse k s.own = true := by rfl) :
  Op1 P E n ⟨dst, .call ⟨.builtin .append, #[.const (.slice none 0 0), y], #[t, t]⟩, ty, pos, after, g⟩ s ((⟨dropU k s.slots, ins k (.row e size news) s.own⟩ : St).put n dst (.b (.row k))) :=
 Op1.make (hfx := hfx) (hnu := hnu) (o := ⟨dst, .call ⟨.builtin .append, #[.const (.slice none 0 0), y], #[t, t]⟩, ty, pos, after, g⟩) fun ac w h ρ hw hs => by
  have hu := (ev_rel hs hy : (CP.sl size news).rel h _)
  obtain ⟨v', w', hrun, h1, h2, h3, h4, h5, h6⟩ := append_coreV (ρ := ρ) (ty := ty) (v0 := .slice none 0 0) (es := []) ht ⟨fun ps hps => by simp at hps, hz, [], ⟨by simp, .inl ⟨rfl, rfl⟩⟩, .nil⟩ rfl (Src.of_sl hw hu) (by simpa using hb) (by rw [maxLen_eq]; simpa using hm)
  refine ⟨v', v', w', none, ?_, fun b hb => by simp at hb, h1, h2, h3, fun b hb hne => h4 b hb (by simp [blkOf]), ?_, fun b hb => ?_, (upd_same _ _ _).symm⟩
  ·rw [execOp_builtin, builtin_append]
   simp [show ac.eval (.const (.slice none 0 0)) = .slice none 0 0 from rfl, hrun]
  ·have h7 : (OC.row e size news).ok h ρ v' w' := by simpa using h5
   exact h7
  ·rcases h6 b hb with h | h
   ·simp [blkOf] at h
   ·exact .inr h
end
end Go.Sk

namespace Go.Sk
set_option linter.unusedSimpArgs false
set_option linter.unusedVariables false
open Go Go.BigFrame
def cpy? {α : Type} (xs ys : List α) (j : Int) : Option (List α) := if 0 ≤ j ∧ 0 < ys.length ∧ j.toNat + ys.length ≤ xs.length ∧ xs.length ≤ 9223372036854775807 then some (spliceE xs j.toNat ys) else none
theorem cpy_ok {α : Type} {xs ys z : List α} {j : Int} (h : cpy? xs ys j = some z) : (0 ≤ j ∧ 0 < ys.length ∧ j.toNat + ys.length ≤ xs.length ∧ xs.length ≤ 9223372036854775807) ∧ spliceE xs j.toNat ys = z := by
 unfold cpy? at h; split at h
 ·next hh => exact ⟨hh, by simpa using h⟩
 ·simp at h
theorem cpy_pos {α : Type} {xs ys z : List α} {j : Int} {enc : α → List CP} (h : cpy? xs ys j = some z) : 0 < (xs.map enc).length := by
 rw [List.length_map]; have := (cpy_ok h).1; omega
theorem cpy_len {α : Type} {xs ys z : List α} {j : Int} {enc : α → List CP} (h : cpy? xs ys j = some z) : (xs.map enc).length = (z.map enc).length := by
 obtain ⟨h1, rfl⟩ := cpy_ok h
 simp only [List.length_map, spliceE, List.length_append, List.length_take, List.length_drop]
 omega
section
variable {P : Program} {TB : Tabs} {E : Env TB} {n : Sh} {s s' : St} {dst : Option Nat} {t ty yt : TypeId} {pos : String} {after : Array Edge} {g : Option (Nat × Bool)} {x y z c : Operand} {ops : Array Oper} {l : List Oper} {Q : Post} {cd : Code}
theorem Tri.toPart (k : Nat) {size : Nat} {T : TypeId} {es : List (List CP)} (hk : lk s.own k = some (.row T size es)) (hne : 0 < es.length) (h : ∀ cap : Nat, es.length ≤ cap → cap ≤ 9223372036854775807 → Tri P E n cd ⟨partS k size es.length cap s.slots, s.own⟩ Q) : Tri P E n cd s Q := fun a w hr => by
 obtain ⟨cap, h1, h2, hr'⟩ := hr.toPart hk hne
 exact h cap h1 h2 a w hr'
theorem Tri.partrow (i k : Nat) {size m cap : Nat} {T : TypeId} {es : List (List CP)} (hi : s.get i = some (.b (.part k size 0 m cap))) (hk : lk s.own k = some (.row T size es)) (hm : m = es.length) (h : Tri P E n cd ⟨(i, .b (.row k)) :: del i s.slots, s.own⟩ Q) : Tri P E n cd s Q := fun a w hr => h a w (hr.partrow hi hk hm)
theorem op_slice_cpy {α : Type} {enc : α → List CP} {xs ys r : List α} {j : Int} {k size bytes cap : Nat} {e : TypeId} {zs : List CP} {yo : Operand} {kk : IntKind} (ht : TySl P t e size bytes zs) (h : cpy? xs ys j = some r) (hc : (xs.map enc).length ≤ cap) (hx : s.ev x = some (.b (.part k size 0 (xs.map enc).length cap))) (hy : s.ev yo = some (.b (.one (.int kk j)))) :
  Op1 P E n ⟨dst, .slice t x (some yo) none none, ty, pos, after, g⟩ s (s.put n dst (.b (.part k size (0 + j.toNat) ((xs.map enc).length - j.toNat) cap))) := by
 have h1 := (cpy_ok h).1
 refine op_slice_pl ht h1.1 ?_ ?_ hx hy
 ·rw [List.length_map]; omega
 ·rw [List.length_map] at hc; omega
theorem op_copy_same {k size bytes lo dlen cap m : Nat} {T e : TypeId} {zs : List CP} {es es' news : List (List CP)} (ht : TySl P t e size bytes zs) (hk : lk s.own k = some (.row T size es)) (hlo : lo ≤ es.length) (hcap : lo + m ≤ cap) (he : spliceE es lo news = es') (hx : s.ev x = some (.b (.part k size lo dlen cap))) (hsame : (spliceE es lo news).length = es.length) (hpos : 0 < es.length) (hfx : n.fix.contains k = false) (hnu : noUse k s.own = true)
  (hm : news.length = m) (hml : m ≤ 9223372036854775807)
  (hsrc : ∀ (ac : Act) (w : World) (h : PH) (ρ : RM), WR E n s.own h ρ w → SlotsRel h ρ s.slots ac.tmps → ∃ sb so slen sc cs, ac.eval y = .slice (some ⟨sb, so, none⟩) slen sc ∧ min slen dlen = m ∧ Uniform size news ∧ cellsRel h news.flatten cs ∧ ∀ j u, cs[j]? = some u → w.cell? ⟨sb, so + j, none⟩ = some u) :
  Op1 P E n ⟨dst, .call ⟨.builtin .copy, #[x, y], #[t, yt]⟩, ty, pos, after, g⟩ s ((⟨s.slots, ins k (.row T size es') s.own⟩ : St).put n dst (I (m : Int))) := by
 intro a w hr next Q hnext
 obtain ⟨hdf, hn, h, ρ, hw, hs⟩ := hr
 obtain ⟨b, nn, hρ, hv, hle⟩ := (ev_rel hs hx : BV.rel h ρ (.part k size lo dlen cap) _)
 obtain ⟨sb, so, slen, sc, cs, hy, hmin, hun, hcr, hcell⟩ := hsrc a w h ρ hw hs
 obtain ⟨w', hrun, h1, h2, h3, h4, h5⟩ := copy_core (ty := ty) (yt := yt) (dcap := cap - lo) (sc := sc) hw ht hk hρ (by rw [hmin, hm]) hun hcr hcell hlo (by rw [hm]; exact hcap)
 have hst := hw.step (w' := w') k (.slice (some ⟨b, 0, none⟩) (spliceE es lo news).length cap) (.row T size (spliceE es lo news)) (some b) (fun b' e => by cases e; exact ⟨_, lk_mem hk, by rw [hρ]; rfl⟩) (by omega) h2 h3
  (fun b' _ hne => h4 b' (fun e => hne (by rw [e]))) h5 (fun b' hb' => by simp [blkOf] at hb'; exact .inl (by rw [hb'])) (.inr fun e => by simp at hfx; exact hfx e) (.inr hnu)
 have hrun' : (execOp a.eval (⟨dst, .call ⟨.builtin .copy, #[x, y], #[t, yt]⟩, ty, pos, after, g⟩ : Oper)).run P w = .ok (.value (.int .i64 m)) w' := by
  rw [execOp_builtin]
  show Sem.run _ _ _ = _
  simp only [builtin, List.map_toArray, List.map_cons, List.map_nil, hv, hy]
  rw [Sem.run_bind, hrun, hm]
  rfl
 unfold Oper.wp
 rw [hrun']
 subst he
 have hup : upd ρ k (.slice (some ⟨b, 0, none⟩) (spliceE es lo news).length cap) = ρ := by
  obtain ⟨_, _, hf⟩ := row_form hw hk
  rcases hf with ⟨_, h6⟩ | ⟨b2, cap2, cur, h6, _⟩
  ·rw [h6] at hpos; simp at hpos
  ·rw [hρ] at h6
   simp only [Value.slice.injEq, Option.some.injEq, Addr.mk.injEq] at h6
   funext q
   simp only [upd]
   split
   ·next e => subst e; rw [hρ, hsame, h6.2.1]
   ·rfl
 rw [hup] at hst
 refine hnext _ _ (R.put (s := ⟨s.slots, ins k (.row T size (spliceE es lo news)) s.own⟩) hdf hn hst (fun j z hz => ?_) ⟨rfl, inR_len (by rw [maxLen_eq]; exact hml)⟩)
 obtain ⟨v, hv', hrel⟩ := hs j z hz
 exact ⟨v, hv', hrel⟩
theorem op_copy_slS {k size bytes lo dlen cap : Nat} {T e : TypeId} {zs : List CP} {es es' news : List (List CP)} (ht : TySl P t e size bytes zs) (hlo : lo ≤ es.length) (hcap : lo + news.length ≤ cap) (hd : news.length ≤ dlen) (hne : 0 < news.length) (hx : s.ev x = some (.b (.part k size lo dlen cap))) (hk : lk s.own k = some (.row T size es)) (hy : s.ev y = some (.b (.one (.sl size news)))) (he : spliceE es lo news = es') (hsame : (spliceE es lo news).length = es.length) (hpos : 0 < es.length) (hfx : n.fix.contains k = false) (hml : news.length ≤ 9223372036854775807) (hnu : noUse k s.own = true := by rfl) :
  Op1 P E n ⟨dst, .call ⟨.builtin .copy, #[x, y], #[t, yt]⟩, ty, pos, after, g⟩ s ((⟨s.slots, ins k (.row T size es') s.own⟩ : St).put n dst (I (news.length : Int))) :=
 op_copy_same ht hk hlo hcap he hx hsame hpos hfx hnu rfl hml fun ac w h ρ hw hs => by
  obtain ⟨hu, hz, hf⟩ := (ev_rel hs hy : (CP.sl size news).rel h _)
  rcases hf with ⟨_, he0⟩ | ⟨sb, so, sc, hv, h1, h2, h3⟩ | ⟨_, _, he0⟩
  ·rw [he0] at hne; simp at hne
  ·obtain ⟨cs, hc1, hc2⟩ := h3.list
   exact ⟨sb, so, news.length, sc, cs, hv, by omega, hu, hc1, fun j u hu => hw.agree.cell (hc2 j u hu) (hc1.one u (List.mem_of_getElem? hu))⟩
  ·rw [he0] at hne; simp at hne
theorem op_cpy {α : Type} {enc : α → List CP} {xs ys r : List α} {j : Int} {k size bytes cap : Nat} {T e : TypeId} {zs : List CP} (ht : TySl P t e size bytes zs) (h : cpy? xs ys j = some r) (hc : (xs.map enc).length ≤ cap) (hx : s.ev x = some (.b (.part k size (0 + j.toNat) ((xs.map enc).length - j.toNat) cap))) (hk : lk s.own k = some (.row T size (xs.map enc))) (hy : s.ev y = some (.b (.one (.sl size (ys.map enc)))))
  (hfx : n.fix.contains k = false) (hnu : noUse k s.own = true := by rfl) :
  Op1 P E n ⟨dst, .call ⟨.builtin .copy, #[x, y], #[t, yt]⟩, ty, pos, after, g⟩ s ((⟨s.slots, ins k (.row T size (r.map enc)) s.own⟩ : St).put n dst (I (ys.length : Int))) := by
 obtain ⟨h1, rfl⟩ := cpy_ok h
 rw [List.length_map] at hc
 have := op_copy_slS (E := E) (n := n) (dst := dst) (ty := ty) (yt := yt) (pos := pos) (after := after) (g := g) (es' := (spliceE xs j.toNat ys).map enc) ht (by rw [List.length_map]; omega) (by rw [List.length_map]; omega) (by rw [List.length_map, List.length_map]; omega) (by rw [List.length_map]; exact h1.2.1) hx hk hy (by rw [Nat.zero_add]; exact map_spliceE _ _ _ _) (by rw [Nat.zero_add, map_spliceE]; exact (cpy_len (by unfold cpy?; rw [if_pos h1])).symm) (by rw [List.length_map]; omega) hfx (by rw [List.length_map]; omega) hnu
 rw [List.length_map] at this
 exact this
structure TyBuildI (P : Program) (t : TypeId) (pl : List (Nat × Nat)) (zs : List CP) : Prop where
 info : ∃ it z fs, P.info? t = some it ∧ it.zero = some z ∧ (∀ h, cellsRel h zs z.cells.toList) ∧ P.underlying t = some (.struct fs) ∧ fs.toList.mapM (fun f => (P.info? f.type).map fun i => (f.offset, i.size)) = some pl
theorem op_build_i {pl : List (Nat × Nat)} {zs qs : List CP} {parts : Array (Nat × Operand)} {cps : List (Nat × List CP)} (ht : TyBuildI P t pl zs) (hp : evParts s parts.toList = some cps) (hf : cfill (pl.toArray[·]?) zs cps = some qs) :
  Op1 P E n ⟨dst, .build t parts, ty, pos, after, g⟩ s (s.put n dst (.b (.agg qs))) :=
 Op1.val (o := ⟨dst, .build t parts, ty, pos, after, g⟩) fun ac w h ρ hw hs => by
  obtain ⟨it, z, fs, h1, h2, h3, h4, h5⟩ := ht.info
  obtain ⟨cs, hc1, hc2⟩ := fill_rel hs (pl.toArray[·]?) parts.toList cps zs qs z.cells hp hf (h3 h)
  refine ⟨.agg cs, ?_, cs, rfl, hc2⟩
  have hb : P.built t (parts.map fun (i, x) => (i, ac.eval x)).toList = some cs := by
   simp only [Program.built, h1, h4, h2, h5]
   rw [← hc1]
   simp
  have := run_build (P := P) w t _ cs hb
  simp only [execOp]
  simp [this]
theorem op_nilif : Op1 P E n ⟨dst, .assign (.const .nilIface), ty, pos, after, g⟩ s (s.put n dst (.b (.one (.raw .nilIface)))) :=
 Op1.val (o := ⟨dst, .assign (.const .nilIface), ty, pos, after, g⟩) fun ac w h ρ hw hs => ⟨.nilIface, rfl, rfl, rfl⟩
theorem cell_int {h : PH} {k : IntKind} (hd : inR k 0) : (CP.int k 0).rel h (.int k 0) := ⟨rfl, hd⟩
theorem cell_raw {h : PH} {v : Value} (hv : v.oneCell' = true) : (CP.raw v).rel h v := ⟨rfl, hv⟩
end
end Go.Sk

namespace Go.Sk
set_option linter.unusedSimpArgs false
set_option linter.unusedVariables false
open Go Go.BigFrame Go.Lib Go.Proofs Go.RowKit
structure TyByte (P : Program) (e : TypeId) : Prop where
 info : ∃ i, P.info? e = some i ∧ i.zero = some (.int .u8 0) ∧ i.size = 1 ∧ i.bytes = 1
theorem strCells_rel {h : PH} : ∀ (q : Str), cellsRel h ((ofStr q).map (eK .u8)).flatten (q.map fun b => Value.int .u8 b.toNat)
 | [] => .nil
 | c :: q => .cons ⟨rfl, inR_u8 (by show (0 : Int) ≤ (c.toNat : Int); omega) (by have := c.toNat_lt; show (c.toNat : Int) ≤ 255; omega)⟩ (strCells_rel q)
section
variable {P : Program} {TB : Tabs} {E : Env TB} {n : Sh} {s s' : St} {dst : Option Nat} {t u ty yt : TypeId} {pos : String} {after : Array Edge} {g : Option (Nat × Bool)} {x y z c : Operand} {ops : Array Oper} {l : List Oper} {Q : Post} {cd : Code}
theorem append_str_core {h : PH} {ρ : RM} {w : World} {v0 : Value} {e : TypeId} {es : List (List CP)} {q : Str} (ht : P.underlying t = some (.slice e)) (hu : P.underlying u = some .string) (hb : TyByte P e)
  (hok : (OC.row e 1 es).ok h ρ v0 w) (hm : es.length + q.length ≤ 140737488355328) :
  ∃ v' w', (Builtin.append_ #[t, u] ty #[v0, .string ⟨⟨q⟩⟩]).run P w = .ok v' w' ∧ w.heap.size ≤ w'.heap.size ∧ w'.os = w.os ∧ w'.output = w.output ∧ (∀ b, b < w.heap.size → some b ≠ blkOf v0 → w'.heap[b]? = w.heap[b]?) ∧
   (OC.row e 1 (es ++ (ofStr q).map (eK .u8))).ok h ρ v' w' ∧ (∀ b, blkOf v' = some b → blkOf v0 = some b ∨ w.heap.size ≤ b) := by
 obtain ⟨i, h1, h2, h3, h4⟩ := hb.info
 have hnp := row_notptr hok
 obtain ⟨hun, hz, xs, how, hr⟩ := id hok
 have hsz : (⟨⟨q⟩⟩ : ByteArray).size = q.length := rfl
 have how1 : w.ownsRow 0 e 1 v0 es.length xs := how
 obtain ⟨v', w', hrun, how', hg, hnil⟩ := run_append_own_string (P := P) (w := w) 0 t u ty e i ht hu h1 h2 h3 h4 v0 es.length xs how1 ⟨⟨q⟩⟩ (by rw [hsz, maxLen_eq]; omega) (by rw [hsz]; omega) (Nat.zero_le _)
 have hlen : (es ++ (ofStr q).map (eK .u8)).length = es.length + q.length := by simp [ofStr]
 refine ⟨v', w', hrun, hg.size, hg.os, hg.output, fun b hb hne => hg.block b hb (by rw [ownBlock_eq hnp]; exact hne), ⟨?_, hz, xs ++ (q.map fun b => Value.int .u8 b.toNat), ?_, ?_⟩, ?_⟩
 ·intro ps hps
  rcases List.mem_append.1 hps with h5 | h5
  ·exact hun ps h5
  ·obtain ⟨a, _, rfl⟩ := List.mem_map.1 h5; rfl
 ·rw [hlen]; exact how'
 ·rw [List.flatten_append]; exact All2.append hr (strCells_rel q)
 ·rcases how1.2 with ⟨hv, hn0⟩ | ⟨gb, cap, cur, hv, _, hh, hn1, hn2, hn3, hn4⟩
  ·by_cases hm0 : q.length = 0
   ·have := hnil.2 ⟨hv, by rw [hsz]; exact hm0⟩
    rw [this]; intro b hb; simp [blkOf] at hb
   ·have hr2 := run_append_nil_string (P := P) (w := w) t u ty e i (.int .u8 0) ht hu h1 h2 ⟨⟨q⟩⟩ (by rw [hsz]; omega) (by rw [hsz]; omega) (by rw [hsz, h4]; omega)
    rw [hv, hr2] at hrun
    cases hrun
    intro b hb; simp [blkOf] at hb; subst hb; exact .inr (Nat.le_refl _)
  ·by_cases hroom : es.length + q.length ≤ cap
   ·have hr2 := run_append_room_string (P := P) (w := w) t u ty e i ht hu h1 h3 gb es.length cap cur hh ⟨⟨q⟩⟩ hroom (by rw [hsz]; simp at hn3; omega)
    rw [hv, hr2] at hrun
    cases hrun
    intro b hb; simp [blkOf] at hb; subst hb; rw [hv]; exact .inl rfl
   ·have hold : ∀ j u, xs[j]? = some u → w.cell? ((⟨gb, 0, none⟩ : Addr).add j) = some u := how1.cells (g := gb) (by rw [hv]; rfl)
    have hr2 := run_append_grow_string (P := P) (w := w) t u ty e i (.int .u8 0) ht hu h1 h2 ⟨gb, 0, none⟩ es.length cap xs (by rw [h3]; exact how1.1) hold ⟨⟨q⟩⟩ (by rw [hsz]; omega) (by rw [hsz]; omega) (by rw [hsz, h4]; exact growslice_fits (by omega) (by omega))
    rw [hv, hr2] at hrun
    cases hrun
    intro b hb; simp [blkOf] at hb; subst hb; exact .inr (Nat.le_refl _)
def appS? (xs : List Int) (q : Str) : Option (List Int) := if xs.length + q.length ≤ 140737488355328 then some (xs ++ ofStr q) else none
theorem appS_ok {xs : List Int} {q : Str} {r : List Int} (h : appS? xs q = some r) : xs.length + q.length ≤ 140737488355328 ∧ xs ++ ofStr q = r := by
 unfold appS? at h; split at h
 ·next hh => exact ⟨hh, by simpa using h⟩
 ·simp at h
theorem op_append_str {k : Nat} {e : TypeId} {xs r : List Int} {q : Str} (ht : P.underlying t = some (.slice e)) (hu : P.underlying u = some .string) (hb : TyByte P e) (h : appS? xs q = some r)
  (hx : s.ev x = some (.b (.row k))) (hk : lk s.own k = some (.row e 1 (xs.map (eK .u8)))) (hy : s.ev y = some (.b (.one (.str q)))) (hfx : n.fix.contains k = false) (hnu : noUse k s.own = true := by rfl) :
  Op1 P E n ⟨dst, .call ⟨.builtin .append, #[x, y], #[t, u]⟩, ty, pos, after, g⟩ s ((⟨dropU k s.slots, ins k (.row e 1 (r.map (eK .u8))) s.own⟩ : St).put n dst (.b (.row k))) :=
 Op1.make (hfx := hfx) (hnu := hnu) (o := ⟨dst, .call ⟨.builtin .append, #[x, y], #[t, u]⟩, ty, pos, after, g⟩) fun ac w h' ρ hw hs => by
  obtain ⟨hm, rfl⟩ := appS_ok h
  have hv : ac.eval x = ρ k := (ev_rel hs hx : BV.rel h' ρ (.row k) _)
  obtain ⟨hq, _⟩ : ac.eval y = .string ⟨⟨q⟩⟩ ∧ q.length ≤ maxLen := (ev_rel hs hy : (CP.str q).rel h' _)
  obtain ⟨v', w', hrun, h1, h2, h3, h4, h5, h6⟩ := append_str_core (ty := ty) ht hu hb (hw.owned k _ (lk_mem hk)).1 (by rw [List.length_map]; exact hm)
  rw [List.map_append]
  refine ⟨v', v', w', blkOf (ρ k), ?_, fun b hb => ⟨_, lk_mem hk, hb⟩, h1, h2, h3, h4, h5, h6, (upd_same _ _ _).symm⟩
  rw [execOp_builtin, builtin_append]
  simp [hv, hq, hrun]
def appB? {α : Type} (xs ys : List α) : Option (List α) := if xs.length + ys.length ≤ 140737488355328 then some (xs ++ ys) else none
theorem appB_len {α : Type} {xs ys z : List α} (h : appB? xs ys = some z) : xs.length + ys.length ≤ 140737488355328 := by
 unfold appB? at h; split at h
 ·assumption
 ·simp at h
theorem appB_map {α β : Type} {xs ys z : List α} {e : α → β} (h : appB? xs ys = some z) : xs.map e ++ ys.map e = z.map e := by
 unfold appB? at h; split at h
 ·rw [← List.map_append]; congr 1; simpa using h
 ·simp at h
theorem appB_b {α β : Type} {xs ys z : List α} {e : α → β} (h : appB? xs ys = some z) : ((xs.map e).length + (ys.map e).length) * 1 ≤ 140737488355328 := by
 have := appB_len h
 simp only [List.length_map]; omega
theorem appB_m {α β : Type} {xs ys z : List α} {e : α → β} (h : appB? xs ys = some z) : (xs.map e).length + (ys.map e).length ≤ 9223372036854775807 := by
 have := appB_len h
 simp only [List.length_map]; omega
end
end Go.Sk

namespace Go.Sk
open Go
set_option linter.unusedVariables false
set_option linter.unusedSimpArgs false
section
variable {σ σ1 σ2 σ3 τ : Type}
end
theorem mHas_mset (m : MapI) (k v j : Int) : mHas (mset m k v) j = (decide (j = k) || mHas m j) := by
 unfold mHas; rw [mget_mset]; by_cases h : j = k <;> simp [h]
theorem mGet_mset (m : MapI) (k v j : Int) : mGet (mset m k v) j = if j = k then v else mGet m j := by
 unfold mGet; rw [mget_mset]; by_cases h : j = k <;> simp [h]
theorem mHas_cons (a b j : Int) (m : MapI) : mHas ((a, b) :: m) j = (decide (j = a) || mHas m j) := by
 unfold mHas; show (if j = a then some b else mget m j).isSome = _
 by_cases h : j = a <;> simp [h]
theorem mHas_iff (j : Int) : ∀ m : MapI, mHas m j = true ↔ j ∈ m.map (·.1)
 | [] => by simp [mHas, mget]
 | (a, b) :: m => by rw [mHas_cons]; simp [mHas_iff j m]
theorem mkeys_set (k v : Int) : ∀ m : MapI, (mset m k v).map (·.1) = if mHas m k then m.map (·.1) else m.map (·.1) ++ [k]
 | [] => by simp [mHas, mget, mset]
 | (a, b) :: m => by
  rw [mHas_cons]
  unfold mset
  by_cases h : k = a
  ·simp [h]
  ·rw [if_neg h, List.map_cons, mkeys_set k v m]
   by_cases h2 : mHas m k <;> simp [h, h2]
abbrev Asd (l : List Int) : Prop := l.Pairwise (· < ·)
def InsL {α : Type} (κ : α → Int) (n : α) (l out : List α) (placed : Bool) : Prop :=
 ∃ A B, l = A ++ B ∧ (∀ a ∈ A, κ a < κ n) ∧ (∀ b ∈ B, κ n < κ b) ∧ ((placed = false ∧ B = [] ∧ out = A) ∨ (placed = true ∧ B ≠ [] ∧ out = A ++ n :: B))
theorem InsL.zero {α : Type} {κ : α → Int} {n : α} : InsL κ n [] [] false := ⟨[], [], rfl, by simp, by simp, .inl ⟨rfl, rfl, rfl⟩⟩
theorem InsL.put {α : Type} {κ : α → Int} {n x : α} {l out : List α} (h : InsL κ n l out false) (hx : κ n < κ x) : InsL κ n (l ++ [x]) (out ++ [n] ++ [x]) true := by
 obtain ⟨A, B, hl, hA, hB, h | h⟩ := h
 ·obtain ⟨_, h2, h3⟩ := h
  subst h2 h3 hl
  refine ⟨out, [x], by simp, hA, by simp [hx], .inr ⟨rfl, by simp, by simp⟩⟩
 ·exact absurd h.1 (by simp)
theorem InsL.next {α : Type} {κ : α → Int} {n x : α} {l out : List α} {p : Bool} (h : InsL κ n l out p) (hp : p = true ∨ κ x ≤ κ n) (hne : κ x ≠ κ n) (hs : ∀ a ∈ l, κ a < κ x) : InsL κ n (l ++ [x]) (out ++ [x]) p := by
 obtain ⟨A, B, rfl, hA, hB, h | h⟩ := h
 ·obtain ⟨rfl, rfl, rfl⟩ := h
  refine ⟨out ++ [x], [], by simp, fun a ha => ?_, by simp, .inl ⟨rfl, rfl, rfl⟩⟩
  rcases List.mem_append.1 ha with ha | ha
  ·exact hA a ha
  ·rw [List.mem_singleton.1 ha]
   rcases hp with hp | hp
   ·exact absurd hp (by simp)
   ·omega
 ·obtain ⟨rfl, hne', rfl⟩ := h
  refine ⟨A, B ++ [x], by simp, hA, fun b hb => ?_, .inr ⟨rfl, by simp, by simp⟩⟩
  rcases List.mem_append.1 hb with hb | hb
  ·exact hB b hb
  ·rw [List.mem_singleton.1 hb]
   obtain ⟨b, B', rfl⟩ := List.exists_cons_of_ne_nil hne'
   have h1 := hB b (List.mem_cons_self ..)
   have h2 := hs b (by simp)
   omega
theorem InsL.fin {α : Type} {κ : α → Int} {n : α} {l out : List α} {p : Bool} (h : InsL κ n l out p) (hs : l.Pairwise fun a b => κ a < κ b) :
  (if !p then out ++ [n] else out).Pairwise (fun a b => κ a < κ b) ∧ (if !p then out ++ [n] else out).Perm (n :: l) := by
 obtain ⟨A, B, rfl, hA, hB, h⟩ := h
 have key : (A ++ n :: B).Pairwise (fun a b => κ a < κ b) := by
  rw [List.pairwise_append] at hs ⊢
  refine ⟨hs.1, List.pairwise_cons.2 ⟨hB, hs.2.1⟩, fun a ha b hb => ?_⟩
  rcases List.mem_cons.1 hb with rfl | hb
  ·exact hA a ha
  ·exact hs.2.2 a ha b hb
 rcases h with ⟨rfl, rfl, rfl⟩ | ⟨rfl, _, rfl⟩
 ·refine ⟨by simpa using key, ?_⟩
  simp only [Bool.not_false, if_true, List.append_nil]
  exact List.perm_append_singleton n out
 ·refine ⟨by simpa using key, ?_⟩
  simp only [Bool.not_true, if_false]
  exact List.perm_middle
inductive Con (P : Int → Int → Prop) : Int → Int → Prop
 | rfl (a) : Con P a a
 | of {a b} : P a b → Con P a b
 | symm {a b} : Con P a b → Con P b a
 | trans {a b c} : Con P a b → Con P b c → Con P a c
theorem Con.lift {P : Int → Int → Prop} {E : Int → Int → Prop} (h1 : ∀ a, E a a) (h2 : ∀ a b, E a b → E b a) (h3 : ∀ a b c, E a b → E b c → E a c) (h : ∀ a b, P a b → E a b) {a b : Int} (hc : Con P a b) : E a b := by
 induction hc with
 | rfl a => exact h1 a
 | of h' => exact h _ _ h'
 | symm _ ih => exact h2 _ _ ih
 | trans _ _ i1 i2 => exact h3 _ _ _ i1 i2
theorem Con.mono {P Q : Int → Int → Prop} (h : ∀ a b, P a b → Con Q a b) {a b : Int} (hc : Con P a b) : Con Q a b :=
 hc.lift (fun a => .rfl a) (fun _ _ h => .symm h) (fun _ _ _ h1 h2 => .trans h1 h2) h
theorem Con.congr {P Q : Int → Int → Prop} (h : ∀ a b, P a b → Con Q a b) (h' : ∀ a b, Q a b → Con P a b) (a b : Int) : Con P a b ↔ Con Q a b := ⟨.mono h, .mono h'⟩
def jn (r : Int → Int) (x y z : Int) : Int := if r z = max (r x) (r y) then min (r x) (r y) else r z
structure UpM (m : MapI) (r : Int → Int) : Prop where
 out : ∀ x, mHas m x = false → r x = x
 has : ∀ x, mHas m x = true → mHas m (mGet m x) = true
 le : ∀ x, mHas m x = true → mGet m x ≤ x
 step : ∀ x, mHas m x = true → r (mGet m x) = r x
 fix : ∀ x, mHas m x = true → mGet m x = x → r x = x
 low : ∀ x, mHas m x = true → r x ≤ x ∧ mHas m (r x) = true ∧ mGet m (r x) = r x
 nd : (m.map (·.1)).Nodup
theorem UpM.nil : UpM [] (fun x => x) := ⟨fun _ _ => rfl, by simp [mHas, mget], by simp [mHas, mget], fun _ _ => by simp_all [mHas, mget], fun _ _ _ => rfl, by simp [mHas, mget], by simp⟩
theorem UpM.idem {m : MapI} {r : Int → Int} (h : UpM m r) (z : Int) : r (r z) = r z := by
 cases hz : mHas m z with
 | false => rw [h.out z hz, h.out z hz]
 | true =>
  obtain ⟨_, h2, h3⟩ := h.low z hz
  exact h.fix _ h2 h3
theorem mset_nodup {m : MapI} {k v : Int} (h : (m.map (·.1)).Nodup) : ((mset m k v).map (·.1)).Nodup := by
 rw [mkeys_set]
 split
 ·exact h
 ·next hn =>
  rw [List.nodup_append]
  refine ⟨h, by simp, fun a ha b hb => ?_⟩
  rw [List.mem_singleton.1 hb]
  rintro rfl
  exact hn ((mHas_iff a m).2 ha)
theorem UpM.add {m : MapI} {r : Int → Int} (h : UpM m r) {x : Int} (hx : mHas m x = false) : UpM (mset m x x) r := by
 have e := h.out x hx
 have hne : ∀ z, mHas m z = true → z ≠ x := fun z hz e => by rw [e, hx] at hz; cases hz
 refine ⟨fun z hz => ?_, fun z hz => ?_, fun z hz => ?_, fun z hz => ?_, fun z hz => ?_, fun z hz => ?_, mset_nodup h.nd⟩
 ·rw [mHas_mset, Bool.or_eq_false_iff] at hz
  exact h.out z hz.2
 ·rw [mHas_mset] at hz ⊢
  rw [mGet_mset]
  by_cases hzx : z = x
  ·simp [hzx]
  ·simp only [hzx, decide_false, Bool.false_or] at hz
   simp [hzx, h.has z hz]
 ·rw [mHas_mset] at hz
  rw [mGet_mset]
  by_cases hzx : z = x
  ·simp [hzx]
  ·simp only [hzx, decide_false, Bool.false_or] at hz
   simp [hzx, h.le z hz]
 ·rw [mHas_mset] at hz
  rw [mGet_mset]
  by_cases hzx : z = x
  ·simp [hzx]
  ·simp only [hzx, decide_false, Bool.false_or] at hz
   simp [hzx, h.step z hz]
 ·rw [mHas_mset] at hz
  rw [mGet_mset]
  by_cases hzx : z = x
  ·simp [hzx, e]
  ·simp only [hzx, decide_false, Bool.false_or] at hz
   simpa [hzx] using h.fix z hz
 ·rw [mHas_mset] at hz ⊢
  rw [mGet_mset]
  by_cases hzx : z = x
  ·simp [hzx, e]
  ·simp only [hzx, decide_false, Bool.false_or] at hz
   obtain ⟨h1, h2, h3⟩ := h.low z hz
   simp [h1, h2, hne _ h2, h3]
theorem UpM.join {m : MapI} {r : Int → Int} (h : UpM m r) {x y : Int} (hx : mHas m x = true) (hy : mHas m y = true) (hne : r x ≠ r y) : UpM (mset m (max (r x) (r y)) (min (r x) (r y))) (jn r x y) := by
 obtain ⟨a1, a2, a3⟩ := h.low x hx
 obtain ⟨b1, b2, b3⟩ := h.low y hy
 have ia := h.idem x
 have ib := h.idem y
 have hM : ∃ M N, max (r x) (r y) = M ∧ min (r x) (r y) = N ∧ N < M ∧ mHas m M = true ∧ mHas m N = true ∧ mGet m M = M ∧ mGet m N = N ∧ r M = M ∧ r N = N := by
  by_cases hl : r x ≤ r y
  ·exact ⟨r y, r x, Int.max_eq_right hl, Int.min_eq_left hl, by omega, b2, a2, b3, a3, ib, ia⟩
  ·have hl' : r y ≤ r x := by omega
   exact ⟨r x, r y, Int.max_eq_left hl', Int.min_eq_right hl', by omega, a2, b2, a3, b3, ia, ib⟩
 obtain ⟨M, N, eM, eN, hlt, hM, hN, gM, gN, rM, rN⟩ := hM
 have ej : ∀ z, jn r x y z = if r z = M then N else r z := fun z => by unfold jn; rw [eM, eN]
 rw [eM, eN]
 have hh : ∀ z, mHas (mset m M N) z = mHas m z := fun z => by
  rw [mHas_mset]; by_cases e : z = M <;> simp [e, hM]
 refine ⟨fun z hz => ?_, fun z hz => ?_, fun z hz => ?_, fun z hz => ?_, fun z hz => ?_, fun z hz => ?_, mset_nodup h.nd⟩
 ·rw [hh] at hz
  have : r z = z := h.out z hz
  rw [ej, this, if_neg]
  rintro rfl
  rw [hM] at hz; cases hz
 ·rw [hh] at hz ⊢
  rw [mGet_mset]
  split
  ·exact hN
  ·exact h.has z hz
 ·rw [hh] at hz
  rw [mGet_mset]
  split
  ·omega
  ·exact h.le z hz
 ·rw [hh] at hz
  rw [mGet_mset, ej, ej]
  split
  ·next e => rw [e, rN, rM, if_pos rfl]; simp
  ·rw [h.step z hz]
 ·rw [hh] at hz
  rw [mGet_mset, ej]
  split
  ·next e => intro e2; omega
  ·next e =>
   intro e2
   have := h.fix z hz e2
   rw [this, if_neg e]
 ·rw [hh] at hz
  rw [hh, ej, mGet_mset]
  obtain ⟨h1, h2, h3⟩ := h.low z hz
  by_cases e : r z = M
  ·rw [if_pos e, if_neg (by omega)]
   exact ⟨by omega, hN, gN⟩
  ·rw [if_neg e, if_neg e]
   exact ⟨h1, h2, h3⟩
def hd (c : List Int) : Int := c.headD 0
structure IsPt (P : Int → Int → Prop) (D : Int → Prop) (out : List (List Int)) : Prop where
 asd : ∀ c ∈ out, c ≠ [] ∧ Asd c
 dj : out.Pairwise fun c d => ∀ z ∈ c, z ∉ d
 dom : ∀ a, D a ↔ ∃ c ∈ out, a ∈ c
 con : ∀ c ∈ out, ∀ a ∈ c, ∀ b ∈ c, Con P a b
 cl : ∀ c ∈ out, ∀ a b, P a b → (a ∈ c ↔ b ∈ c)
abbrev HdL (out : List (List Int)) : Prop := out.Pairwise fun c d => hd c < hd d
structure Part (P : Int → Int → Prop) (D : Int → Prop) (out : List (List Int)) : Prop extends IsPt P D out where
 srt : HdL out
theorem IsPt.cls {P : Int → Int → Prop} {D : Int → Prop} {out : List (List Int)} (h : IsPt P D out) {c : List Int} (hc : c ∈ out) {a b : Int} (hab : Con P a b) : a ∈ c ↔ b ∈ c :=
 hab.lift (E := fun a b => a ∈ c ↔ b ∈ c) (fun _ => .rfl) (fun _ _ h => h.symm) (fun _ _ _ h1 h2 => h1.trans h2) (h.cl c hc)
theorem IsPt.mem {P : Int → Int → Prop} {D : Int → Prop} {out : List (List Int)} (h : IsPt P D out) {c : List Int} (hc : c ∈ out) {a : Int} (ha : a ∈ c) (b : Int) : b ∈ c ↔ Con P a b :=
 ⟨fun hb => h.con c hc a ha b hb, fun hb => (h.cls hc hb).1 ha⟩
theorem IsPt.congr {P Q : Int → Int → Prop} {D E : Int → Prop} {out : List (List Int)} (h : IsPt P D out) (hP : ∀ a b, Con P a b ↔ Con Q a b) (hD : ∀ a, D a ↔ E a) : IsPt Q E out :=
 ⟨h.asd, h.dj, fun a => (hD a).symm.trans (h.dom a), fun c hc a ha b hb => (hP _ _).1 (h.con c hc a ha b hb), fun c hc a b hab => h.cls hc ((hP _ _).2 (.of hab))⟩
theorem Part.congr {P Q : Int → Int → Prop} {D E : Int → Prop} {out : List (List Int)} (h : Part P D out) (hP : ∀ a b, Con P a b ↔ Con Q a b) (hD : ∀ a, D a ↔ E a) : Part Q E out :=
 { toIsPt := h.toIsPt.congr hP hD, srt := h.srt }
theorem IsPt.add {P Q : Int → Int → Prop} {D E : Int → Prop} {out : List (List Int)} (h : IsPt P D out) {x y : List Int} (hPD : ∀ a b, P a b → D a ∧ D b) (hx : x ≠ []) (hy : Asd y)
  (hmem : ∀ z, z ∈ y ↔ z ∈ x ∨ ∃ c ∈ out, (∃ u ∈ c, u ∈ x) ∧ z ∈ c) (hQ : ∀ a b, Q a b ↔ P a b ∨ (a ∈ x ∧ b ∈ x)) (hE : ∀ a, E a ↔ D a ∨ a ∈ x)
  {rest : List (List Int)} (hrest : rest = out.filter fun c => !(c.any fun u => x.contains u)) : IsPt Q E (rest ++ [y]) := by
 have hr : ∀ c, c ∈ rest ↔ c ∈ out ∧ ∀ u ∈ c, u ∉ x := fun c => by
  rw [hrest, List.mem_filter]; simp
 have up : ∀ {a b}, Con P a b → Con Q a b := fun h => h.mono fun a b h => .of ((hQ a b).2 (.inl h))
 have inx : ∀ z ∈ y, ∃ u ∈ x, Con Q u z := fun z hz => by
  rcases (hmem z).1 hz with hz | ⟨c, hc, ⟨u, hu, hux⟩, hzc⟩
  ·exact ⟨z, hz, .rfl z⟩
  ·exact ⟨u, hux, up (h.con c hc u hu z hzc)⟩
 refine ⟨fun c hc => ?_, ?_, fun a => ?_, fun c hc a ha b hb => ?_, fun c hc a b hab => ?_⟩
 ·rcases List.mem_append.1 hc with hc | hc
  ·exact h.asd c ((hr c).1 hc).1
  ·rw [List.mem_singleton.1 hc]
   obtain ⟨u, x', rfl⟩ := List.exists_cons_of_ne_nil hx
   exact ⟨List.ne_nil_of_mem ((hmem u).2 (.inl (List.mem_cons_self ..))), hy⟩
 ·refine List.pairwise_append.2 ⟨?_, by simp, fun c hc d hd z hz hzd => ?_⟩
  ·rw [hrest]; exact h.dj.filter _
  ·rw [List.mem_singleton.1 hd] at hzd
   obtain ⟨hc1, hc2⟩ := (hr c).1 hc
   rcases (hmem z).1 hzd with hzx | ⟨d', hd', ⟨u, hu, hux⟩, hzd'⟩
   ·exact hc2 z hz hzx
   ·have : u ∈ c := (h.cls hc1 (h.con d' hd' z hzd' u hu)).1 hz
    exact hc2 u this hux
 ·rw [hE a, h.dom a]
  constructor
  ·rintro (⟨c, hc, ha⟩ | ha)
   ·by_cases hm : ∃ u ∈ c, u ∈ x
    ·exact ⟨y, by simp, (hmem a).2 (.inr ⟨c, hc, hm, ha⟩)⟩
    ·exact ⟨c, List.mem_append.2 (.inl ((hr c).2 ⟨hc, fun u hu hux => hm ⟨u, hu, hux⟩⟩)), ha⟩
   ·exact ⟨y, by simp, (hmem a).2 (.inl ha)⟩
  ·rintro ⟨c, hc, ha⟩
   rcases List.mem_append.1 hc with hc | hc
   ·exact .inl ⟨c, ((hr c).1 hc).1, ha⟩
   ·rw [List.mem_singleton.1 hc] at ha
    rcases (hmem a).1 ha with ha | ⟨d, hd, _, had⟩
    ·exact .inr ha
    ·exact .inl ⟨d, hd, had⟩
 ·rcases List.mem_append.1 hc with hc | hc
  ·exact up (h.con c ((hr c).1 hc).1 a ha b hb)
  ·rw [List.mem_singleton.1 hc] at ha hb
   obtain ⟨u, hu, h1⟩ := inx a ha
   obtain ⟨v, hv, h2⟩ := inx b hb
   exact .trans (.symm h1) (.trans (.of ((hQ u v).2 (.inr ⟨hu, hv⟩))) h2)
 ·rcases List.mem_append.1 hc with hc | hc
  ·obtain ⟨hc1, hc2⟩ := (hr c).1 hc
   rcases (hQ a b).1 hab with hp | ⟨ha, hb⟩
   ·exact h.cl c hc1 a b hp
   ·exact ⟨fun hac => absurd ha (hc2 a hac), fun hbc => absurd hb (hc2 b hbc)⟩
  ·rw [List.mem_singleton.1 hc]
   rcases (hQ a b).1 hab with hp | ⟨ha, hb⟩
   ·have hcl : ∀ {a b}, Con P a b → (∃ c ∈ out, a ∈ c) → a ∈ y → b ∈ y := fun {a b} hp hDa ha => by
     rcases (hmem a).1 ha with hax | ⟨d, hd, hm, had⟩
     ·obtain ⟨c, hc, hac⟩ := hDa
      exact (hmem b).2 (.inr ⟨c, hc, ⟨a, hac, hax⟩, (h.cls hc hp).1 hac⟩)
     ·exact (hmem b).2 (.inr ⟨d, hd, hm, (h.cls hd hp).1 had⟩)
    obtain ⟨da, db⟩ := hPD a b hp
    exact ⟨hcl (.of hp) ((h.dom a).1 da), hcl (.symm (.of hp)) ((h.dom b).1 db)⟩
   ·exact ⟨fun _ => (hmem b).2 (.inl hb), fun _ => (hmem a).2 (.inl ha)⟩
end Go.Sk

namespace Go.Sk
open Go
set_option linter.unusedVariables false
section
variable {α σ σ1 σ2 σ3 τ : Type} [Inhabited α]
theorem idx?_at (pre post : List α) (x : α) : idx? (pre ++ x :: post) (pre.length : Int) = Option.some x := by
 rw [idx?_eq (by omega) (by simp only [List.length_append, List.length_cons]; omega), idx_nat _ _ (by simp)]
 simp
private theorem ea_aux {l : List α} {S : Type} {body : S × Int → Option ((S × Int) ⊕ τ)} {Q : τ → Prop} {F : Nat} {s0 : S} (I : List α → S → Prop) (hF : l.length < F) (hL : l.length ≤ 9223372036854775807) (h0 : I [] s0)
  (step : ∀ pre x post s, l = pre ++ x :: post → idx? l (pre.length : Int) = Option.some x → I pre s → Yld (body (s, (pre.length : Int))) fun o => (∃ s', o = .inl (s', IntKind.i64.wrap ((pre.length : Int) + 1)) ∧ I (pre ++ [x]) s') ∨ ∃ t, o = .inr t ∧ Q t)
  (fin : ∀ s, I l s → Yld (body (s, (l.length : Int))) fun o => ∃ t, o = .inr t ∧ Q t) : Yld (iter F body (s0, 0)) Q := by
 refine Yld.rounds (n := l.length) (I := fun k s => k ≤ l.length ∧ s.2 = (k : Int) ∧ I (l.take k) s.1) hF ⟨Nat.zero_le _, rfl, by simpa using h0⟩ ?_
 rintro k ⟨s, i⟩ hk ⟨hk', hi, hI⟩
 simp only at hi hI
 subst hi
 by_cases hc : k < l.length
 ·have e : l = l.take k ++ l[k] :: l.drop (k + 1) := by rw [← List.drop_eq_getElem_cons hc, List.take_append_drop]
  have hl : (l.take k).length = k := by rw [List.length_take]; omega
  have hx : idx? l ((l.take k).length : Int) = Option.some l[k] := by
   rw [hl, idx?_eq (by omega) (by omega), idx_nat _ _ hc]
  have h := step (l.take k) l[k] (l.drop (k + 1)) s e hx hI
  rw [hl] at h
  refine h.mono fun o ho => ?_
  rcases ho with ⟨s', rfl, h⟩ | h
  ·refine .inl ⟨_, rfl, ⟨by omega, ?_, ?_⟩, hc⟩
   ·show IntKind.i64.wrap ((k : Int) + 1) = _
    rw [wi64' (by omega) (by omega)]; push_cast; rfl
   ·rw [List.take_succ_eq_append_getElem hc]; exact h
  ·exact .inr h
 ·have : k = l.length := by omega
  subst this
  rw [List.take_length] at hI
  refine (fin s hI).mono fun o ho => .inr ho
theorem Yld.ea1 {l : List α} {A : Int → Option (Int ⊕ τ)} {g : τ} {Q : τ → Prop} {F : Nat} (I : List α → Prop) (hF : l.length < F) (hL : l.length ≤ 9223372036854775807) (h0 : I [])
  (step : ∀ pre x post, l = pre ++ x :: post → idx? l (pre.length : Int) = Option.some x → I pre → Yld (A (pre.length : Int)) fun o => (o = .inl (IntKind.i64.wrap ((pre.length : Int) + 1)) ∧ I (pre ++ [x])) ∨ ∃ t, o = .inr t ∧ Q t)
  (fin : I l → Q g) : Yld (iter F (fun i => if decide (i < (l.length : Int)) = true then A i else Option.some (.inr g)) 0) Q := by
 refine Yld.rounds (n := l.length) (I := fun k s => k ≤ l.length ∧ s = (k : Int) ∧ I (l.take k)) hF ⟨Nat.zero_le _, rfl, by simpa using h0⟩ ?_
 rintro k _ hk ⟨hk', rfl, hI⟩
 by_cases hc : k < l.length
 ·have e : l = l.take k ++ l[k] :: l.drop (k + 1) := by rw [← List.drop_eq_getElem_cons hc, List.take_append_drop]
  have hl : (l.take k).length = k := by rw [List.length_take]; omega
  have hx : idx? l ((l.take k).length : Int) = Option.some l[k] := by
   rw [hl, idx?_eq (by omega) (by omega), idx_nat _ _ hc]
  have h := step (l.take k) l[k] (l.drop (k + 1)) e hx hI
  rw [hl] at h
  rw [if_pos (by simpa using hc)]
  refine h.mono fun o ho => ?_
  rcases ho with ⟨rfl, h⟩ | h
  ·refine .inl ⟨_, rfl, ⟨by omega, ?_, ?_⟩, hc⟩
   ·rw [wi64' (by omega) (by omega)]; push_cast; rfl
   ·rw [List.take_succ_eq_append_getElem hc]; exact h
  ·exact .inr h
 ·have : k = l.length := by omega
  subst this
  rw [List.take_length] at hI
  rw [if_neg (by simp)]
  exact Yld.some (.inr ⟨_, rfl, fin hI⟩)
theorem Yld.ea2 {l : List α} {A : σ → Int → Option ((σ × Int) ⊕ τ)} {G : σ → τ} {Q : τ → Prop} {F : Nat} {s0 : σ} (I : List α → σ → Prop) (hF : l.length < F) (hL : l.length ≤ 9223372036854775807) (h0 : I [] s0)
  (step : ∀ pre x post s, l = pre ++ x :: post → idx? l (pre.length : Int) = Option.some x → I pre s → Yld (A s (pre.length : Int)) fun o => (∃ s', o = .inl (s', IntKind.i64.wrap ((pre.length : Int) + 1)) ∧ I (pre ++ [x]) s') ∨ ∃ t, o = .inr t ∧ Q t)
  (fin : ∀ s, I l s → Q (G s)) : Yld (iter F (un2 fun s i => if decide (i < (l.length : Int)) = true then A s i else Option.some (.inr (G s))) (s0, 0)) Q := by
 refine ea_aux I hF hL h0 (fun pre x post s e hx hI => ?_) fun s hI => ?_
 ·simp only [un2]
  rw [if_pos (by rw [e]; simp; omega)]
  exact step pre x post s e hx hI
 ·simp only [un2]
  rw [if_neg (by simp)]
  exact Yld.some ⟨_, rfl, fin s hI⟩
theorem iter_conj {S S' τ' : Type} {body : S → Option (S ⊕ τ')} {body' : S' → Option (S' ⊕ τ')} (f : S → S') (h : ∀ s, body' (f s) = (body s).map (alt2 (fun s => .inl (f s)) .inr)) : ∀ F s, iter F body' (f s) = iter F body s
 | 0, s => rfl
 | F + 1, s => by
  rw [iter_succ, iter_succ, h]
  cases body s with
  | none => rfl
  | some o =>
   cases o with
   | inl s' => exact iter_conj f h F s'
   | inr t => rfl
private theorem sum_id {A B : Type} (o : Option (A ⊕ B)) : o.map (alt2 (fun s => Sum.inl s) Sum.inr) = o := by
 cases o with
 | none => rfl
 | some o => cases o <;> rfl
theorem Yld.ea3 {l : List α} {A : σ1 → σ2 → Int → Option ((σ1 × σ2 × Int) ⊕ τ)} {G : σ1 → σ2 → τ} {Q : τ → Prop} {F : Nat} {a0 : σ1} {b0 : σ2} (I : List α → σ1 → σ2 → Prop) (hF : l.length < F) (hL : l.length ≤ 9223372036854775807) (h0 : I [] a0 b0)
  (step : ∀ pre x post a b, l = pre ++ x :: post → idx? l (pre.length : Int) = Option.some x → I pre a b → Yld (A a b (pre.length : Int)) fun o => (∃ a' b', o = .inl (a', b', IntKind.i64.wrap ((pre.length : Int) + 1)) ∧ I (pre ++ [x]) a' b') ∨ ∃ t, o = .inr t ∧ Q t)
  (fin : ∀ a b, I l a b → Q (G a b)) : Yld (iter F (un3 fun a b i => if decide (i < (l.length : Int)) = true then A a b i else Option.some (.inr (G a b))) (a0, b0, 0)) Q := by
 have e := iter_conj (body := fun z : (σ1 × σ2) × Int => ((un3 fun a b i => if decide (i < (l.length : Int)) = true then A a b i else Option.some (.inr (G a b))) (z.1.1, z.1.2, z.2)).map (alt2 (fun s => .inl ((s.1, s.2.1), s.2.2)) .inr)) (body' := un3 fun a b i => if decide (i < (l.length : Int)) = true then A a b i else Option.some (.inr (G a b))) (fun z => (z.1.1, z.1.2, z.2)) (fun s => by
  rw [Option.map_map]; exact (Eq.trans (by congr 1; funext o; cases o <;> rfl) (sum_id _)).symm) F ((a0, b0), 0)
 rw [e]
 refine ea_aux (S := σ1 × σ2) (fun pre s => I pre s.1 s.2) hF hL h0 (fun pre x post s e hx hI => ?_) fun s hI => ?_
 ·simp only [un3]
  rw [if_pos (by rw [e]; simp; omega)]
  obtain ⟨o, ho, h⟩ := step pre x post s.1 s.2 e hx hI
  rw [ho]
  rcases h with ⟨a', b', rfl, h⟩ | ⟨t, rfl, h⟩
  ·exact Yld.some (.inl ⟨(a', b'), rfl, h⟩)
  ·exact Yld.some (.inr ⟨t, rfl, h⟩)
 ·simp only [un3]
  rw [if_neg (by simp)]
  exact Yld.some ⟨_, rfl, fin s.1 s.2 hI⟩
theorem Yld.find {υ : Type} {l : List α} {c : α → Bool} {r : α → υ} {Q : Unit ⊕ υ → Prop} {F : Nat} (hF : l.length < F) (hL : l.length ≤ 9223372036854775807) (h1 : (∀ x ∈ l, c x = false) → Q (.inl ())) (h2 : ∀ pre x post, l = pre ++ x :: post → (∀ y ∈ pre, c y = false) → c x = true → Q (.inr (r x))) {A : Int → Option (Int ⊕ (Unit ⊕ υ))}
  (hA : ∀ (i : Int) x, idx? l i = Option.some x → A i = if c x = true then Option.some (.inr (.inr (r x))) else Option.some (.inl (IntKind.i64.wrap (i + 1)))) :
  Yld (iter F (fun i => if decide (i < (l.length : Int)) = true then A i else Option.some (.inr (.inl ()))) 0) Q := by
 refine Yld.ea1 (fun pre => ∀ x ∈ pre, c x = false) hF hL (by simp) (fun pre x post e hx hI => ?_) fun h => h1 h
 rw [hA _ x hx]
 refine Yld.ite (fun h => Yld.some (.inr ⟨_, rfl, h2 pre x post e hI h⟩)) fun h => Yld.some (.inl ⟨rfl, fun y hy => ?_⟩)
 rcases List.mem_append.1 hy with hy | hy
 ·exact hI y hy
 ·rw [List.mem_singleton.1 hy]; exact h
end
end Go.Sk

namespace Go.Sk
open Go
set_option linter.unusedVariables false
def Le {α : Type} (a b : Option α) : Prop := ∀ x, a = some x → b = some x
section
variable {α β γ σ τ : Type}
theorem Le.rfl (a : Option α) : Le a a := fun _ h => h
theorem Le.none (a : Option α) : Le Option.none a := fun _ h => by cases h
theorem Le.bind {a b : Option α} {k k' : α → Option β} (h : Le a b) (hk : ∀ x, Le (k x) (k' x)) : Le (a.bind k) (b.bind k') := fun y hy => by
 cases a with
 | none => cases hy
 | some x => rw [h x (Eq.refl _)]; exact hk x y hy
theorem Le.ite {c : Prop} [Decidable c] {a b a' b' : Option α} (h1 : Le a a') (h2 : Le b b') : Le (if c then a else b) (if c then a' else b') := by
 split
 ·exact h1
 ·exact h2
theorem Le.gcall [Inhabited α] {g : Bool} {a b : Option α} (h : Le a b) : Le (gcall g a) (gcall g b) := by
 unfold Go.Sk.gcall
 split
 ·exact h
 ·exact Le.rfl _
theorem Le.letN {a : γ} {k k' : γ → Option α} (h : ∀ a, Le (k a) (k' a)) : Le (Go.Sk.letN a k) (Go.Sk.letN a k') := h a
theorem Le.alt2 {f f' : α → Option γ} {g g' : β → Option γ} (h1 : ∀ x, Le (f x) (f' x)) (h2 : ∀ x, Le (g x) (g' x)) (z : α ⊕ β) : Le (Go.Sk.alt2 f g z) (Go.Sk.alt2 f' g' z) := by
 cases z with
 | inl x => exact h1 x
 | inr x => exact h2 x
theorem Le.iter {F F' : Nat} (hF : F ≤ F') {f f' : σ → Option (σ ⊕ τ)} (h : ∀ s, Le (f s) (f' s)) (s : σ) : Le (Go.Sk.iter F f s) (Go.Sk.iter F' f' s) := by
 induction F generalizing F' s with
 | zero => exact Le.none _
 | succ F ih =>
  obtain ⟨F', rfl⟩ : ∃ g, F' = g + 1 := ⟨F' - 1, by omega⟩
  rw [iter_succ, iter_succ]
  exact Le.bind (h s) (Le.alt2 (fun x => ih (by omega) x) fun x => Le.rfl _)
end
end Go.Sk

