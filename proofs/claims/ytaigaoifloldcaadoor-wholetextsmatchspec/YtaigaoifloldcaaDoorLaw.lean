/- Proved: for every input the law WholeTextsMatchSpec returns true, and each argument reads afterwards as before; conditions: none (the card: the tables of the library that it names hold what the text of the program lays). (From the walk to the statement; printed by a program of the prover, lawgen.py.) -/
import Derived.Test.YtaigaoifloldcaaDoorCards
import Derived.Test.YtaigaoifloldcaaDoorTie
import Derived.Test.YtaigaoifloldcaaDoorP1
import Derived.WalkKit
import Derived.ProofKit
import Derived.OpenShut
import Derived.Deep.DeepHandedRow
import Derived.Lib.LaidTab
namespace Go.Proofs.YtaigaoifloldcaaDoor.wholeTextsMatchSpec
open Go Go.Sk Go.ChangeShapes Go.WideShapes Go.ChangeAt Go.RowKit
set_option linter.unusedVariables false
theorem own : ownKnob Tryd.prog.godebug = Option.none := by kernel_rfl
theorem kids : Kids Tryd.prog (· < Tryd.prog.types.size) := kids_rows (by kernel_rfl) (by kernel_rfl)
theorem slicesFull : ∀ t e, t < Tryd.prog.types.size → Tryd.prog.underlying t = some (.slice e) → 0 < Tryd.prog.cellsOf e := slices_full_of Tryd.prog (by kernel_rfl)
theorem rd4 : TyRead Tryd.prog 4 eB := TyRead.bool Tryd.underlying4 (by kernel_rfl)
theorem rd23 : TyRead Tryd.prog 23 (eA16 .u32) := TyRead.arr (g := A16.of) Tryd.underlying23 Tryd.underlying22 (by kernel_rfl) (by kernel_rfl) (fun _ => rfl) (fun l h => by unfold eA16; rw [A16.l_of h])
set_option maxRecDepth 100000 in
theorem rd25 : TyRead Tryd.prog 25 eBig := TyRead.struct (fun b => ⟨b.1, b.2.1, b.2.2.1⟩) Tryd.underlying25 (.cons rfl rfl rd4 (.cons rfl rfl rd4 (.cons rfl rfl rd23 (.nil (by decide))))) (fun _ => by kernel_rfl) (fun _ => rfl)
set_option maxRecDepth 100000 in
theorem table {W : World} (h : laidMetH Tryd.prog Rows.wholeTextsMatchSpecRow.laid W) : TabsOk tabs (full W) W := by
  have h0 : laidMet Tryd.prog Rows.wholeTextsMatchSpecRow.laid W := by rw [MakeChecks.laidMetH_plain _ _ _ (by kernel_rfl)] at h; exact h
  have h1 := laidMet_tail h0
  have h2 := laidMet_tail h1
  unfold tabs
  rw [(by rw [List.map_map]; rfl : (Lib.deBruijn32tab.map fun z : Nat => Value.int .u8 (z : Int)) = (Lib.deBruijn32tab.map fun z : Nat => (z : Int)).map fun z => Value.int .u8 z)]
  exact (TabsOk.cons (name := "math/bits.deBruijn32tab") (k := .u8) (zs := Lib.deBruijn32tab.map fun z : Nat => (z : Int)) (g := 0) (by kernel_rfl) (Lib.tabIs_of_head (g := 0) (by kernel_rfl) (by kernel_rfl) Tryd.underlying120 Tryd.underlying5 (by kernel_rfl) (by kernel_rfl) h0) (by decide) (TabsOk.cons (name := "internal/strconv.uint64pow10") (k := .u64) (zs := Lib.pow10Tab) (g := 1) (by kernel_rfl) (Lib.tabIs_of_head (g := 1) (by kernel_rfl) (by kernel_rfl) Tryd.underlying123 Tryd.underlying63 (by kernel_rfl) (by kernel_rfl) h2) (by decide) TabsOk.nil))
set_option maxRecDepth 100000 in
theorem contract (H : Type) (enc : TypeId × Value → H) (W : World) (base : Nat) (args : Array Value) (ds gs : List (DataW H)) (before : List MemPlace)
    (hval : ∀ (j : Nat) t v, Tryd.f5.params[j]? = some t → args[j]? = some v → Value.okWide Tryd.prog W .any base t v)
    (hW : DataW.Whole enc Tryd.prog Tryd.f5.params.toList Rows.wholeTextsMatchSpecSpec.vars false W args.toList ds gs before) (hL : laidMetH Tryd.prog Rows.wholeTextsMatchSpecRow.laid W) :
    Calls Tryd.prog 5 args W fun e W' => ∃ v, e = .returned v ∧ Rows.wholeTextsMatchSpecSpec.post enc Tryd.prog Tryd.f5 false true false false W args v W' := by
  have hW' := hW
  obtain ⟨p, q, hA0, hV, rfl, hfz, hnd⟩ := hW
  have hA : DataW.TrodAll enc Tryd.prog W 0 (fun _ => true) true Tryd.f5.params.toList args.toList ds p := hA0
  rw [Tryd.params5] at hA hval
  obtain ⟨v0, vs0, d0, ds0, p0, q0, hargs0, rfl, rfl, h0, r0⟩ := trodAll_cons hA
  obtain ⟨v1, vs1, d1, ds1, p1, q1, hargs1, rfl, rfl, h1, r1⟩ := trodAll_cons r0
  subst hargs1
  obtain ⟨hnil, rfl, rfl⟩ := trodAll_nil r1
  subst hnil
  obtain rfl : args = #[v0, v1] := by cases args; simp_all
  obtain ⟨rfl, rfl⟩ := trodVars_none hV
  obtain ⟨x0, hx0⟩ := open_agg1 Tryd.underlying25 rd25 (hval 0 25 v0 rfl rfl) h0
  obtain ⟨x1, hx1⟩ := open_str1 Tryd.underlying9 (hval 1 9 v1 rfl rfl)
  refine law_end (vals := [v0, v1]) (texts_law x0 x1 (inB_of hx0)) (table hL) (.cons hx0 (.cons hx1 .nil)) fun W' hk' => ⟨_, rfl, post_of_kept kids slicesFull (of_decide_eq_true (by kernel_rfl)) hW' rfl rfl rfl hk' (fun _ _ _ => trodAll_mk1 (shut_bool Tryd.underlying4 true)) (ok_one (by kernel_rfl) rfl (okWide_bool_mk Tryd.underlying4 _))⟩
noncomputable def laidWorld (os : Os) : World := { World.holding Tryd.prog os ⟨#[], #[], []⟩ with heap := ((((World.holding Tryd.prog os ⟨#[], #[], []⟩).heap.modify 0 fun | .cells _ t fz => .cells (Lib.deBruijn32tab.map fun z : Nat => Value.int .u8 (z : Int)).toArray t fz | o => o).modify 3 fun | .cells _ t fz => .cells (Lib.deBruijn64tab.map fun z : Nat => Value.int .u8 (z : Int)).toArray t fz | o => o).modify 1 fun | .cells _ t fz => .cells (Lib.pow10Tab.map fun z : Int => Value.int .u64 z).toArray t fz | o => o) }
set_option maxRecDepth 100000 in
theorem laid_met (os : Os) : laidMetH Tryd.prog Rows.wholeTextsMatchSpecRow.laid ((laidWorld os).forCall (fun _ _ => 0) ⟨#[], #[.agg #[.bool false, .bool false, .int .u32 0, .int .u32 0, .int .u32 0, .int .u32 0, .int .u32 0, .int .u32 0, .int .u32 0, .int .u32 0, .int .u32 0, .int .u32 0, .int .u32 0, .int .u32 0, .int .u32 0, .int .u32 0, .int .u32 0, .int .u32 0], .string ⟨#[]⟩], []⟩).memory := by
  rw [MakeChecks.laidMetH_plain _ _ _ (by kernel_rfl)]
  exact laidMet_of_run' 8 (by kernel_rfl) (by kernel_rfl)
set_option maxRecDepth 100000 in
theorem reads (os : Os) {H : Type} (enc : TypeId × Value → H) : ∃ places, DataW.whole enc Tryd.prog ((laidWorld os).forCall (fun _ _ => 0) ⟨#[], #[.agg #[.bool false, .bool false, .int .u32 0, .int .u32 0, .int .u32 0, .int .u32 0, .int .u32 0, .int .u32 0, .int .u32 0, .int .u32 0, .int .u32 0, .int .u32 0, .int .u32 0, .int .u32 0, .int .u32 0, .int .u32 0, .int .u32 0, .int .u32 0], .string ⟨#[]⟩], []⟩).memory Tryd.f5.params.toList Rows.wholeTextsMatchSpecSpec.vars false (#[.agg #[.bool false, .bool false, .int .u32 0, .int .u32 0, .int .u32 0, .int .u32 0, .int .u32 0, .int .u32 0, .int .u32 0, .int .u32 0, .int .u32 0, .int .u32 0, .int .u32 0, .int .u32 0, .int .u32 0, .int .u32 0, .int .u32 0, .int .u32 0], .string ⟨#[]⟩] : Array Value).toList 8 = some ([.agg [.lit (.bool false), .lit (.bool false), .agg [.lit (.int .u32 0), .lit (.int .u32 0), .lit (.int .u32 0), .lit (.int .u32 0), .lit (.int .u32 0), .lit (.int .u32 0), .lit (.int .u32 0), .lit (.int .u32 0), .lit (.int .u32 0), .lit (.int .u32 0), .lit (.int .u32 0), .lit (.int .u32 0), .lit (.int .u32 0), .lit (.int .u32 0), .lit (.int .u32 0), .lit (.int .u32 0)]], .lit (.string [])], [], places) := ⟨[], by kernel_rfl⟩
set_option maxRecDepth 100000 in
theorem lifted (os : Os) (started : os.Started) (H : Type) (enc : TypeId × Value → H) (F : Stop.Interp) :
    ReturnsInHanded {} Tryd.checked os 5 .any ((OpenSpec.ofChange Rows.wholeTextsMatchSpecSpec).preRow enc Tryd.prog Tryd.f5 Rows.wholeTextsMatchSpecRow.domain false Rows.wholeTextsMatchSpecRow.laid) (((OpenSpec.ofChange Rows.wholeTextsMatchSpecSpec).at F).post enc Tryd.prog Tryd.f5 false true false false) := by
  obtain ⟨places, hx⟩ := reads os enc
  refine returnsInHanded_of_row (C := Tryd.checked) (s := OpenSpec.ofChange Rows.wholeTextsMatchSpecSpec) own started (by kernel_rfl) Tryd.func5
    (witness_row_at (enc := enc) (C := Tryd.checked) false (laidWorld os) #[.agg #[.bool false, .bool false, .int .u32 0, .int .u32 0, .int .u32 0, .int .u32 0, .int .u32 0, .int .u32 0, .int .u32 0, .int .u32 0, .int .u32 0, .int .u32 0, .int .u32 0, .int .u32 0, .int .u32 0, .int .u32 0, .int .u32 0, .int .u32 0], .string ⟨#[]⟩] rfl (by kernel_rfl) (by kernel_rfl) (by kernel_rfl)
      (OpenSpec.preRow_of_cond 8 hx (by kernel_rfl) (fun k hk => by cases hk) (by kernel_rfl) (laid_met os))) ?_
  intro W base args ds gs before hval hW _ _ _ hL _ _
  exact contract H enc W base args ds gs before hval hW hL
theorem said : Rows.WholeTextsMatchSpecSaid :=
  OpenClaim.holds_of_cond 5 Tryd.f5 rfl rfl rfl rfl rfl rfl rfl ⟨rfl, rfl, rfl, rfl, rfl⟩ rfl rfl rfl rfl rfl (by kernel_rfl) Tryd.func5 (by kernel_rfl)
    (of_decide_eq_true (by kernel_rfl)) (by unfold Func.isWrapper; first | (rw [if_pos (by decide +kernel)]; kernel_rfl) | (rw [if_neg (by decide +kernel)]; exact ⟨rfl, rfl⟩))
    (fun os started H enc _ F => by rw [OpenClaim.pre_eq_preRow]; exact lifted os started H enc F)
theorem plain (f : FuncId) (fn : Func) (hf : Tryd.pinned.checked.prog.funcNamed "skewback/skewbacklaw03.WholeTextsMatchSpec" = some f) (hfn : Tryd.pinned.checked.prog.funcs[f]? = some fn) :
    false = Tryd.pinned.checked.prog.looks [] ∧ ∀ (j : Nat) t, fn.params[j]? = some t → Tryd.pinned.checked.prog.wantsStandIn t = false := by
  obtain rfl : f = 5 := Option.some.inj ((show Tryd.prog.funcNamed "skewback/skewbacklaw03.WholeTextsMatchSpec" = some 5 by kernel_rfl).symm.trans hf) |>.symm
  obtain rfl : fn = Tryd.f5 := (Option.some.inj (Tryd.func5.symm.trans hfn)).symm
  refine ⟨by kernel_rfl, fun j t ht => ?_⟩
  rw [Tryd.params5] at ht
  have hm := Array.mem_of_getElem? ht
  have hor : t = 25 ∨ t = 9 := by simpa using hm
  rcases hor with rfl | rfl
  · exact (show Tryd.prog.wantsStandIn 25 = false by kernel_rfl)
  · exact (show Tryd.prog.wantsStandIn 9 = false by kernel_rfl)
end Go.Proofs.YtaigaoifloldcaaDoor.wholeTextsMatchSpec
namespace Go.Proofs.YtaigaoifloldcaaDoor
open Go
/-- THE STATEMENT -/
theorem wholeTextsMatchSpec_proved : Rows.WholeTextsMatchSpecCardSaid :=
  Claim7.holds_tied_plain_at .later [] _ _ _ _ wholeTextsMatchSpec.said (fun _ h => by cases h) (by kernel_rfl) (fun _ h => by cases h) wholeTextsMatchSpec_row_tie rfl ⟨rfl, rfl⟩ (by kernel_rfl) rfl wholeTextsMatchSpec.plain (by kernel_rfl)
end Go.Proofs.YtaigaoifloldcaaDoor
