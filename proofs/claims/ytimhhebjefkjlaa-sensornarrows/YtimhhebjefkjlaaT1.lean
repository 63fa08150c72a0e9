/- the structures, the library -/
import Derived.Test.YtimhhebjefkjlaaRows
import Derived.Test.YtimhhebjefkjlaaF2
import Derived.Shelf.Sort.Plain
import Derived.Shelf.Slices.CompactI
import Derived.Ground.NamesProg
import Derived.Ground.Names2Prog
import Derived.Test.YtimhhebjefkjlaaProg
namespace Go.Sk
open Go
structure A3 where
 a0 : Int
 a1 : Int
 a2 : Int
 deriving DecidableEq, Inhabited
def A3.l (w : A3) : List Int := [w.a0, w.a1, w.a2]
def A3.of : List Int → A3
 | [a0, a1, a2] => ⟨a0, a1, a2⟩
 | _ => default
def A3.zero : A3 := ⟨0, 0, 0⟩
def A3.set (w : A3) (i x : Int) : A3 := .of (w.l.set i.toNat x)
def eA3 (k : IntKind) (w : A3) : List CP := w.l.map (.int k)
theorem A3.l_of : ∀ {l : List Int}, l.length = 3 → (A3.of l).l = l
 | [_, _, _], _ => rfl
theorem A3.of_l (w : A3) : A3.of w.l = w := rfl
theorem A3.set_l (w : A3) (i x : Int) : (w.set i x).l = w.l.set i.toNat x := A3.l_of (by rw [List.length_set]; rfl)
theorem A3.e_l (k : IntKind) (w : A3) : eA3 k w = (w.l.map fun z => [CP.int k z]).flatten := rfl
theorem A3.l_inj {v w : A3} : v.l = w.l ↔ v = w := ⟨fun h => by rw [← A3.of_l v, h, A3.of_l], fun h => by rw [h]⟩
structure Report where
 A : Int
 B : Int
 Axis : Int
 Lo : Int
 Hi : Int
 Time : Int
 deriving DecidableEq, Inhabited
def eReport (x : Report) : List CP := [.i x.A, .i x.B, .i x.Axis, .i x.Lo, .i x.Hi, .i x.Time]
structure GEdge where
 src : Int
 to : Int
 weight : Int
 report : Int
 deriving DecidableEq, Inhabited
def eGEdge (x : GEdge) : List CP := [.i x.src, .i x.to, .i x.weight, .i x.report]
structure Bound where
 Lo : Int
 Hi : Int
 Below : Bool
 Above : Bool
 deriving DecidableEq, Inhabited
def eBound (x : Bound) : List CP := [.i x.Lo, .i x.Hi, .bool x.Below, .bool x.Above]
structure Arr3Bound where
 a0 : Bound
 a1 : Bound
 a2 : Bound
 deriving DecidableEq, Inhabited
def eArr3Bound (x : Arr3Bound) : List CP := (eBound x.a0 ++ (eBound x.a1 ++ (eBound x.a2)))
def Arr3Bound.l (w : Arr3Bound) : List Bound := [w.a0, w.a1, w.a2]
def Arr3Bound.of : List Bound → Arr3Bound
 | [a0, a1, a2] => ⟨a0, a1, a2⟩
 | _ => default
def Arr3Bound.set (w : Arr3Bound) (i : Int) (x : Bound) : Arr3Bound := .of (w.l.set i.toNat x)
theorem Arr3Bound.l_of : ∀ {l : List Bound}, l.length = 3 → (Arr3Bound.of l).l = l
 | [_, _, _], _ => rfl
theorem Arr3Bound.set_l (w : Arr3Bound) (i : Int) (x : Bound) : (w.set i x).l = w.l.set i.toNat x := Arr3Bound.l_of (by rw [List.length_set]; rfl)
theorem Arr3Bound.e_l (w : Arr3Bound) : eArr3Bound w = (w.l.map eBound).flatten := rfl
structure REdge where
 From : Int
 To : Int
 Weight : Int
 Report : Int
 deriving DecidableEq, Inhabited
structure Ranges where
 L : List Arr3Bound
 E : Int
 deriving DecidableEq, Inhabited
structure RWalk where
 L : List REdge
 Is : Bool
 deriving DecidableEq, Inhabited
structure PSet where
 L : List Int
 Axis : Int
 deriving DecidableEq, Inhabited
structure Answer where
 Is : Bool
 E : Int
 deriving DecidableEq, Inhabited
structure Solved where
 L : List A3
 E : Int
 deriving DecidableEq, Inhabited
end Go.Sk

namespace Go.Sk
set_option linter.unusedSimpArgs false
set_option linter.unusedVariables false
open Go
def Yld {α : Type} (m : Option α) (Q : α → Prop) : Prop := ∃ x, m = some x ∧ Q x
section
variable {α β γ δ ε : Type} {m : Option α} {Q : β → Prop} {P : α → Prop}
theorem Yld.some {x : β} (h : Q x) : Yld (some x) Q := ⟨x, rfl, h⟩
theorem Yld.bind {k : α → Option β} (h : Yld m P) (h2 : ∀ x, P x → Yld (k x) Q) : Yld (m.bind k) Q := by
 obtain ⟨x, rfl, hp⟩ := h
 exact h2 x hp
theorem Yld.bindE {k : α → Option β} {x : α} (h : m = Option.some x) (h2 : Yld (k x) Q) : Yld (m.bind k) Q := by
 subst h; exact h2
theorem Yld.ite {c : Bool} {A B : Option β} (h1 : c = true → Yld A Q) (h2 : c = false → Yld B Q) : Yld (if c = true then A else B) Q := by
 cases c
 ·exact h2 rfl
 ·exact h1 rfl
theorem Yld.ift {c : Bool} {A B : Option β} (h : c = true) (h1 : Yld A Q) : Yld (if c = true then A else B) Q := by rw [if_pos h]; exact h1
theorem Yld.iff {c : Bool} {A B : Option β} (h : c = false) (h1 : Yld B Q) : Yld (if c = true then A else B) Q := by rw [h]; exact h1
theorem Yld.ln {a : γ} {k : γ → Option β} (h : Yld (k a) Q) : Yld (letN a k) Q := h
theorem Yld.lnE {a : γ} {k : γ → Option β} (b : γ) (e : a = b) (h : Yld (k b) Q) : Yld (letN a k) Q := by subst e; exact h
theorem Yld.eq {x : α} (h : Yld m (· = x)) : m = Option.some x := by obtain ⟨y, h1, h2⟩ := h; rw [h1, h2]
theorem Yld.of {x : α} (h : m = Option.some x) : Yld m (· = x) := ⟨x, h, rfl⟩
theorem Yld.mono {P' : α → Prop} (h : Yld m P) (h2 : ∀ x, P x → P' x) : Yld m P' := by obtain ⟨x, h1, h3⟩ := h; exact ⟨x, h1, h2 x h3⟩
theorem Yld.idx [Inhabited α] {l : List α} {i : Int} {k : α → Option β} (h0 : 0 ≤ i) (h1 : i < l.length) (h : Yld (k (idx l i)) Q) : Yld ((idx? l i).bind k) Q := by
 rw [idx?_eq h0 h1]; exact h
theorem Yld.g1 [Inhabited α] {g : Bool} {k : α → Option β} (hg : g = true) (h : Yld (m.bind k) Q) : Yld ((gcall g m).bind k) Q := by subst hg; exact h
theorem Yld.g0 [Inhabited α] {g : Bool} {k : α → Option β} (hg : g = false) (h : Yld (k default) Q) : Yld ((gcall g m).bind k) Q := by subst hg; exact h
theorem Yld.app {xs ys : List α} {k : List α → Option β} (h0 : xs.length + ys.length ≤ 1000000000) (h : Yld (k (xs ++ ys)) Q) : Yld ((app? xs ys).bind k) Q := by
 rw [app?_eq h0]; exact h
theorem Yld.take {xs : List α} {i : Int} {k : List α → Option β} (h0 : 0 ≤ i) (h1 : i ≤ xs.length) (h : Yld (k (xs.take i.toNat)) Q) : Yld ((take? xs i).bind k) Q := by
 simp only [take?, h0, h1, and_self, if_true]; exact h
theorem Yld.drop {xs : List α} {i : Int} {k : List α → Option β} (h0 : 0 ≤ i) (h1 : i ≤ xs.length) (h : Yld (k (xs.drop i.toNat)) Q) : Yld ((drop? xs i).bind k) Q := by
 simp only [drop?, h0, h1, and_self, if_true]; exact h
theorem Yld.rounds {σ τ : Type} {body : σ → Option (σ ⊕ τ)} {Q : τ → Prop} (n : Nat) (I : Nat → σ → Prop) {s : σ} {F : Nat} (hF : n < F) (h0 : I 0 s)
  (step : ∀ k s, k ≤ n → I k s → Yld (body s) fun o => (∃ s', o = .inl s' ∧ I (k + 1) s' ∧ k < n) ∨ ∃ t, o = .inr t ∧ Q t) : Yld (iter F body s) Q := by
 have key : ∀ d F k s, k + d = n → d < F → I k s → Yld (iter F body s) Q := by
  intro d
  induction d with
  | zero =>
   intro F k s hk hF hI
   obtain ⟨F, rfl⟩ : ∃ f, F = f + 1 := ⟨F - 1, by omega⟩
   obtain ⟨o, ho, h⟩ := step k s (by omega) hI
   rw [iter_succ, ho]
   rcases h with ⟨s', rfl, _, hlt⟩ | ⟨t, rfl, hq⟩
   ·omega
   ·exact ⟨t, rfl, hq⟩
  | succ d ih =>
   intro F k s hk hF hI
   obtain ⟨F, rfl⟩ : ∃ f, F = f + 1 := ⟨F - 1, by omega⟩
   obtain ⟨o, ho, h⟩ := step k s (by omega) hI
   rw [iter_succ, ho]
   rcases h with ⟨s', rfl, hI', _⟩ | ⟨t, rfl, hq⟩
   ·exact ih F (k + 1) s' (by omega) (by omega) hI'
   ·exact ⟨t, rfl, hq⟩
 exact key n F 0 s (by omega) hF h0
theorem Yld.loop {σ τ : Type} {body : σ → Option (σ ⊕ τ)} {Q : τ → Prop} (I : σ → Prop) (μ : σ → Nat) {s : σ} {F : Nat} (h0 : I s) (hF : μ s < F)
  (step : ∀ s, I s → Yld (body s) fun o => (∃ s', o = .inl s' ∧ I s' ∧ μ s' < μ s) ∨ ∃ t, o = .inr t ∧ Q t) : Yld (iter F body s) Q := by
 refine iter_spec I μ Q (fun s hI => ?_) F s h0 hF
 obtain ⟨o, ho, h⟩ := step s hI
 refine ⟨o, ho, fun s' e => ?_, fun t e => ?_⟩
 ·subst e
  rcases h with ⟨s'', e, h1, h2⟩ | ⟨t, e, _⟩
  ·cases e; exact ⟨h1, h2⟩
  ·cases e
 ·subst e
  rcases h with ⟨s'', e, _⟩ | ⟨t', e, h1⟩
  ·cases e
  ·cases e; exact h1
end
theorem wi64 (z : Int) : IntKind.i64.wrap z = (z + 9223372036854775808) % 18446744073709551616 - 9223372036854775808 := by
 simp [IntKind.wrap, IntKind.signed, IntKind.bits]; split <;> omega
theorem wi64' {z : Int} (h1 : -9223372036854775808 ≤ z) (h2 : z ≤ 9223372036854775807) : IntKind.i64.wrap z = z := by rw [wi64]; omega
def ds (b : Int) (f : Nat → Int) : Nat → Int
 | 0 => 0
 | n + 1 => ds b f n + f n * b ^ n
end Go.Sk

namespace Go.Proofs
open Go.Shelf
def Try.lays189_ren : Go.Shelf.Ren := ⟨fun | 189 => 43 | 125 => 61 | 257 => 60 | 128 => 76 | 129 => 77 | 294 => 67 | 295 => 68 | 296 => 69 | 297 => 70 | 298 => 71 | 299 => 72 | 216 => 73 | 300 => 74 | 301 => 75 | 328 => 78 | 329 => 79 | 330 => 80 | 331 => 81 | 332 => 82 | 215 => 83 | 343 => 84 | n => n, fun | 28 => 37 | 3 => 3 | 46 => 111 | 0 => 0 | 51 => 124 | 53 => 126 | 4 => 4 | 183 => 117 | 182 => 116 | 131 => 75 | 5 => 5 | 9 => 9 | 218 => 127 | 222 => 131 | 228 => 133 | 229 => 134 | n => n, fun | n => n⟩
theorem Try.lays189 : Go.Proofs.Lays.n189 Try.prog Try.lays189_ren := {
 mixed := by kernel_rfl
 f125 := Try.func61.trans (congrArg some (by kernel_rfl))
 f128 := Try.func76.trans (congrArg some (by kernel_rfl))
 f129 := Try.func77.trans (congrArg some (by kernel_rfl))
 f189 := Try.func43.trans (congrArg some (by kernel_rfl))
 f215 := Try.func83.trans (congrArg some (by kernel_rfl))
 f216 := Try.func73.trans (congrArg some (by kernel_rfl))
 f257 := Try.func60.trans (congrArg some (by kernel_rfl))
 f294 := Try.func67.trans (congrArg some (by kernel_rfl))
 f295 := Try.func68.trans (congrArg some (by kernel_rfl))
 f296 := Try.func69.trans (congrArg some (by kernel_rfl))
 f297 := Try.func70.trans (congrArg some (by kernel_rfl))
 f298 := Try.func71.trans (congrArg some (by kernel_rfl))
 f299 := Try.func72.trans (congrArg some (by kernel_rfl))
 f300 := Try.func74.trans (congrArg some (by kernel_rfl))
 f301 := Try.func75.trans (congrArg some (by kernel_rfl))
 f328 := Try.func78.trans (congrArg some (by kernel_rfl))
 f329 := Try.func79.trans (congrArg some (by kernel_rfl))
 f330 := Try.func80.trans (congrArg some (by kernel_rfl))
 f331 := Try.func81.trans (congrArg some (by kernel_rfl))
 f332 := Try.func82.trans (congrArg some (by kernel_rfl))
 f343 := Try.func84.trans (congrArg some (by kernel_rfl))
 t0 := Try.underlying0
 a0 := Try.isAgg0
 z0 := Try.sizeOf0
 v0 := Try.zeroValue0
 t3 := Try.underlying3
 a3 := Try.isAgg3
 z3 := Try.sizeOf3
 v3 := Try.zeroValue3
 t4 := Try.underlying4
 a4 := Try.isAgg4
 z4 := Try.sizeOf4
 v4 := Try.zeroValue4
 t5 := Try.underlying5
 a5 := Try.isAgg5
 z5 := Try.sizeOf5
 v5 := Try.zeroValue5
 t9 := Try.underlying9
 a9 := Try.isAgg9
 z9 := Try.sizeOf9
 v9 := Try.zeroValue9
 t28 := Try.underlying37
 a28 := Try.isAgg37
 z28 := Try.sizeOf37
 v28 := Try.zeroValue37
 t46 := Try.underlying111
 a46 := Try.isAgg111
 z46 := Try.sizeOf111
 v46 := Try.zeroValue111
 t51 := Try.underlying124
 a51 := Try.isAgg124
 z51 := Try.sizeOf124
 v51 := Try.zeroValue124
 t53 := Try.underlying126
 a53 := Try.isAgg126
 z53 := Try.sizeOf126
 v53 := Try.zeroValue126
 t131 := Try.underlying75
 a131 := Try.isAgg75
 z131 := Try.sizeOf75
 v131 := Try.zeroValue75
 t182 := Try.underlying116
 a182 := Try.isAgg116
 z182 := Try.sizeOf116
 v182 := Try.zeroValue116
 t183 := Try.underlying117
 a183 := Try.isAgg117
 z183 := Try.sizeOf117
 v183 := Try.zeroValue117
 t218 := Try.underlying127
 a218 := Try.isAgg127
 z218 := Try.sizeOf127
 v218 := Try.zeroValue127
 t222 := Try.underlying131
 a222 := Try.isAgg131
 z222 := Try.sizeOf131
 v222 := Try.zeroValue131
 t228 := Try.underlying133
 a228 := Try.isAgg133
 z228 := Try.sizeOf133
 v228 := Try.zeroValue133
 t229 := Try.underlying134
 a229 := Try.isAgg134
 z229 := Try.sizeOf134
 v229 := Try.zeroValue134 }
def Try.lays2_20_ren : Go.Shelf.Ren := ⟨fun | 20 => 44 | n => n, fun | 22 => 37 | 3 => 3 | 4 => 4 | 0 => 0 | n => n, fun | n => n⟩
theorem Try.lays2_20 : Go.Proofs.Lays2.n20 Try.prog Try.lays2_20_ren := {
 mixed := by kernel_rfl
 f20 := Try.func44.trans (congrArg some (by kernel_rfl))
 t0 := Try.underlying0
 a0 := Try.isAgg0
 z0 := Try.sizeOf0
 v0 := Try.zeroValue0
 t3 := Try.underlying3
 a3 := Try.isAgg3
 z3 := Try.sizeOf3
 v3 := Try.zeroValue3
 t4 := Try.underlying4
 a4 := Try.isAgg4
 z4 := Try.sizeOf4
 v4 := Try.zeroValue4
 t22 := Try.underlying37
 a22 := Try.isAgg37
 z22 := Try.sizeOf37
 v22 := Try.zeroValue37
 i3 := by kernel_rfl }
end Go.Proofs

