/- Proved: for every input the law UnitReadsDecimals returns true, and each argument reads afterwards as before; conditions: none (the card: the tables of the library that it names hold what the text of the program lays). (From the walk to the statement; printed by a program of the prover, lawgen.py.) -/
import Derived.Test.YtcbbilehdaaffaaGreatDoorCards
import Derived.Test.YtcbbilehdaaffaaGreatDoorTie
import Derived.Test.YtcbbilehdaaffaaGreatDoorP2
import Derived.WalkKit
import Derived.ProofKit
import Derived.OpenShut
import Derived.Deep.DeepHandedRow
import Derived.Lib.LaidTab
namespace Go.Proofs.YtcbbilehdaaffaaGreatDoor.unitReadsDecimals
open Go Go.Sk Go.ChangeShapes Go.WideShapes Go.ChangeAt Go.RowKit
set_option linter.unusedVariables false
theorem own : ownKnob Tryz.prog.godebug = Option.none := by kernel_rfl
theorem kids : Kids Tryz.prog (· < Tryz.prog.types.size) := kids_rows (by kernel_rfl) (by kernel_rfl)
theorem slicesFull : ∀ t e, t < Tryz.prog.types.size → Tryz.prog.underlying t = some (.slice e) → 0 < Tryz.prog.cellsOf e := slices_full_of Tryz.prog (by kernel_rfl)
theorem fl9 {d : Nat} : TyFlat Tryz.prog 9 d := TyFlat.str Tryz.underlying9
theorem fl3 {d : Nat} : TyFlat Tryz.prog 3 d := TyFlat.int Tryz.underlying3
set_option maxRecDepth 100000 in
theorem fl29 {d : Nat} : TyFlat Tryz.prog 29 (d + 1) := TyFlat.struct Tryz.underlying29 (.cons rfl rfl fl3 (.cons rfl rfl fl3 (.cons rfl rfl fl3 (.nil (by decide)))))
set_option maxRecDepth 100000 in
theorem fl142 {d : Nat} : TyFlat Tryz.prog 142 (d + 2) := TyFlat.struct Tryz.underlying142 (.cons rfl rfl fl9 (.cons rfl rfl fl3 (.cons rfl rfl fl3 (.cons rfl rfl fl29 (.nil (by decide))))))
set_option maxRecDepth 100000 in
theorem fl143 {d : Nat} : TyFlat Tryz.prog 143 (d + 3) := TyFlat.arr Tryz.underlying143 (by kernel_rfl) fl142
theorem rd5 : TyRead Tryz.prog 5 (eK .u8) := TyRead.int Tryz.underlying5 (by kernel_rfl)
set_option maxRecDepth 100000 in
theorem table {W : World} (h : laidMetH Tryz.prog Rows.unitReadsDecimalsRow.laid W) (hsh : W.ShapedOpen Tryz.prog) : ∃ mx, TabsOk (tabs mx) (full W) W := by
  have h0 : laidMet Tryz.prog Rows.unitReadsDecimalsRow.laid W := by rw [MakeChecks.laidMetH_plain _ _ _ (by kernel_rfl)] at h; exact h
  have h1 := laidMet_tail h0
  have h2 := laidMet_tail h1
  have h3 := laidMet_tail h2
  obtain ⟨m, hm⟩ := TabsOk.open1 (g := 1) (t := 3) (zero := #[.int .i64 0]) (k := .i64) hsh (by decide +kernel) (by kernel_rfl) rfl (by kernel_rfl) (by kernel_rfl) Tryz.underlying3
  refine ⟨m, ?_⟩
  unfold tabs
  rw [(by rw [List.map_map]; rfl : (Lib.deBruijn32tab.map fun z : Nat => Value.int .u8 (z : Int)) = (Lib.deBruijn32tab.map fun z : Nat => (z : Int)).map fun z => Value.int .u8 z)]
  exact hm (TabsOk.cons (name := "math/bits.deBruijn32tab") (k := .u8) (zs := Lib.deBruijn32tab.map fun z : Nat => (z : Int)) (g := 3) (by kernel_rfl) (Lib.tabIs_of_head (g := 3) (by kernel_rfl) (by kernel_rfl) Tryz.underlying216 Tryz.underlying5 (by kernel_rfl) (by kernel_rfl) h0) (by decide) (TabsOk.cons (name := "internal/strconv.uint64pow10") (k := .u64) (zs := Lib.pow10Tab) (g := 2) (by kernel_rfl) (Lib.tabIs_of_head (g := 2) (by kernel_rfl) (by kernel_rfl) Tryz.underlying213 Tryz.underlying145 (by kernel_rfl) (by kernel_rfl) h2) (by decide) (TabsOk.consV (name := "skewback/unit.names") (g := 0) (by kernel_rfl) (by kernel_rfl) (fl143 (d := 0)) h3 (cs := (unitNames.map vNamed).flatten) (by kernel_rfl) (by decide) TabsOk.nil)))
set_option maxRecDepth 100000 in
theorem contract (H : Type) (enc : TypeId × Value → H) (W : World) (base : Nat) (args : Array Value) (ds gs : List (DataW H)) (before : List MemPlace)
    (hval : ∀ (j : Nat) t v, Tryz.f5.params[j]? = some t → args[j]? = some v → Value.okWide Tryz.prog W .any base t v)
    (hW : DataW.Whole enc Tryz.prog Tryz.f5.params.toList Rows.unitReadsDecimalsSpec.vars false W args.toList ds gs before) (hL : laidMetH Tryz.prog Rows.unitReadsDecimalsRow.laid W) (hsh : W.ShapedOpen Tryz.prog) :
    Calls Tryz.prog 5 args W fun e W' => ∃ v, e = .returned v ∧ Rows.unitReadsDecimalsSpec.post enc Tryz.prog Tryz.f5 false true false false W args v W' := by
  have hW' := hW
  obtain ⟨p, q, hA0, hV, rfl, hfz, hnd⟩ := hW
  have hA : DataW.TrodAll enc Tryz.prog W 0 (fun _ => true) true Tryz.f5.params.toList args.toList ds p := hA0
  rw [Tryz.params5] at hA hval
  obtain ⟨v0, vs0, d0, ds0, p0, q0, hargs0, rfl, rfl, h0, r0⟩ := trodAll_cons hA
  obtain ⟨v1, vs1, d1, ds1, p1, q1, hargs1, rfl, rfl, h1, r1⟩ := trodAll_cons r0
  subst hargs1
  obtain ⟨v2, vs2, d2, ds2, p2, q2, hargs2, rfl, rfl, h2, r2⟩ := trodAll_cons r1
  subst hargs2
  obtain ⟨v3, vs3, d3, ds3, p3, q3, hargs3, rfl, rfl, h3, r3⟩ := trodAll_cons r2
  subst hargs3
  obtain ⟨hnil, rfl, rfl⟩ := trodAll_nil r3
  subst hnil
  obtain rfl : args = #[v0, v1, v2, v3] := by cases args; simp_all
  obtain ⟨rfl, rfl⟩ := trodVars_none hV
  obtain ⟨x0, hx0⟩ := open_int1 Tryz.underlying22 (hval 0 22 v0 rfl rfl)
  obtain ⟨x1, hx1, hl1⟩ := open_sl Tryz.underlying48 rd5 (size := 1) (by kernel_rfl) (by decide) (hval 1 48 v1 rfl rfl) h1
  obtain ⟨x2, hx2⟩ := open_int1 Tryz.underlying5 (hval 2 5 v2 rfl rfl)
  obtain ⟨x3, hx3⟩ := open_bool1 Tryz.underlying4 (hval 3 4 v3 rfl rfl)
  obtain ⟨mx, htab⟩ := table hL hsh
  refine law_end (vals := [v0, v1, v2, v3]) (decimals_law x0 x1 x2 x3 (in32_of hx0) (in8s_of hx1) (in8_of hx2)) htab (.cons hx0 (.cons hx1 (.cons hx2 (.cons hx3 .nil)))) fun W' hk' => ⟨_, rfl, post_of_kept kids slicesFull (of_decide_eq_true (by kernel_rfl)) hW' rfl rfl rfl hk' (fun _ _ _ => trodAll_mk1 (shut_bool Tryz.underlying4 true)) (ok_one (by kernel_rfl) rfl (okWide_bool_mk Tryz.underlying4 _))⟩
noncomputable def laidWorld (os : Os) : World := { World.holding Tryz.prog os ⟨#[], #[], []⟩ with heap := (((((World.holding Tryz.prog os ⟨#[], #[], []⟩).heap.modify 3 fun | .cells _ t fz => .cells (Lib.deBruijn32tab.map fun z : Nat => Value.int .u8 (z : Int)).toArray t fz | o => o).modify 4 fun | .cells _ t fz => .cells (Lib.deBruijn64tab.map fun z : Nat => Value.int .u8 (z : Int)).toArray t fz | o => o).modify 2 fun | .cells _ t fz => .cells (Lib.pow10Tab.map fun z : Int => Value.int .u64 z).toArray t fz | o => o).modify 0 fun | .cells _ t fz => .cells ((unitNames.map vNamed).flatten).toArray t fz | o => o) }
set_option maxRecDepth 100000 in
theorem laid_met (os : Os) : laidMetH Tryz.prog Rows.unitReadsDecimalsRow.laid ((laidWorld os).forCall (fun _ _ => 0) ⟨#[], #[.int .u32 0, .slice none 0 0, .int .u8 0, .bool false], []⟩).memory := by
  rw [MakeChecks.laidMetH_plain _ _ _ (by kernel_rfl)]
  exact laidMet_of_run' 8 (by kernel_rfl) (by kernel_rfl)
set_option maxRecDepth 100000 in
theorem reads (os : Os) {H : Type} (enc : TypeId × Value → H) : ∃ places, DataW.whole enc Tryz.prog ((laidWorld os).forCall (fun _ _ => 0) ⟨#[], #[.int .u32 0, .slice none 0 0, .int .u8 0, .bool false], []⟩).memory Tryz.f5.params.toList Rows.unitReadsDecimalsSpec.vars false (#[.int .u32 0, .slice none 0 0, .int .u8 0, .bool false] : Array Value).toList 8 = some ([.lit (.int .u32 0), .nil, .lit (.int .u8 0), .lit (.bool false)], [], places) := ⟨[], by kernel_rfl⟩
set_option maxRecDepth 100000 in
theorem lifted (os : Os) (started : os.Started) (H : Type) (enc : TypeId × Value → H) (F : Stop.Interp) :
    ReturnsInHanded {} Tryz.checked os 5 .any ((OpenSpec.ofChange Rows.unitReadsDecimalsSpec).preRow enc Tryz.prog Tryz.f5 Rows.unitReadsDecimalsRow.domain false Rows.unitReadsDecimalsRow.laid) (((OpenSpec.ofChange Rows.unitReadsDecimalsSpec).at F).post enc Tryz.prog Tryz.f5 false true false false) := by
  obtain ⟨places, hx⟩ := reads os enc
  refine returnsInHanded_of_row (C := Tryz.checked) (s := OpenSpec.ofChange Rows.unitReadsDecimalsSpec) own started (by kernel_rfl) Tryz.func5
    (witness_row_at (enc := enc) (C := Tryz.checked) false (laidWorld os) #[.int .u32 0, .slice none 0 0, .int .u8 0, .bool false] rfl (by kernel_rfl) (by kernel_rfl) (by kernel_rfl)
      (OpenSpec.preRow_of_cond 8 hx (by kernel_rfl) (fun k hk => by cases hk) (by kernel_rfl) (laid_met os))) ?_
  intro W base args ds gs before hval hW _ _ _ hL hsh _
  exact contract H enc W base args ds gs before hval hW hL hsh
theorem said : Rows.UnitReadsDecimalsSaid :=
  OpenClaim.holds_of_cond 5 Tryz.f5 rfl rfl rfl rfl rfl rfl rfl ⟨rfl, rfl, rfl, rfl, rfl⟩ rfl rfl rfl rfl rfl (by kernel_rfl) Tryz.func5 (by kernel_rfl)
    (of_decide_eq_true (by kernel_rfl)) (by unfold Func.isWrapper; first | (rw [if_pos (by decide +kernel)]; kernel_rfl) | (rw [if_neg (by decide +kernel)]; exact ⟨rfl, rfl⟩))
    (fun os started H enc _ F => by rw [OpenClaim.pre_eq_preRow]; exact lifted os started H enc F)
theorem plain (f : FuncId) (fn : Func) (hf : Tryz.pinned.checked.prog.funcNamed "skewback/skewbacklaw11.UnitReadsDecimals" = some f) (hfn : Tryz.pinned.checked.prog.funcs[f]? = some fn) :
    false = Tryz.pinned.checked.prog.looks [] ∧ ∀ (j : Nat) t, fn.params[j]? = some t → Tryz.pinned.checked.prog.wantsStandIn t = false := by
  obtain rfl : f = 5 := Option.some.inj ((show Tryz.prog.funcNamed "skewback/skewbacklaw11.UnitReadsDecimals" = some 5 by kernel_rfl).symm.trans hf) |>.symm
  obtain rfl : fn = Tryz.f5 := (Option.some.inj (Tryz.func5.symm.trans hfn)).symm
  refine ⟨by kernel_rfl, fun j t ht => ?_⟩
  rw [Tryz.params5] at ht
  have hm := Array.mem_of_getElem? ht
  have hor : t = 22 ∨ t = 48 ∨ t = 5 ∨ t = 4 := by simpa using hm
  rcases hor with rfl | rfl | rfl | rfl
  · exact (show Tryz.prog.wantsStandIn 22 = false by kernel_rfl)
  · exact (show Tryz.prog.wantsStandIn 48 = false by kernel_rfl)
  · exact (show Tryz.prog.wantsStandIn 5 = false by kernel_rfl)
  · exact (show Tryz.prog.wantsStandIn 4 = false by kernel_rfl)
end Go.Proofs.YtcbbilehdaaffaaGreatDoor.unitReadsDecimals
namespace Go.Proofs.YtcbbilehdaaffaaGreatDoor
open Go
/-- THE STATEMENT -/
theorem unitReadsDecimals_proved : Rows.UnitReadsDecimalsCardSaid :=
  Claim7.holds_tied_plain_at .later [] _ _ _ _ unitReadsDecimals.said (fun _ h => by cases h) (by kernel_rfl) (fun _ h => by cases h) unitReadsDecimals_row_tie rfl ⟨rfl, rfl⟩ (by kernel_rfl) rfl unitReadsDecimals.plain (by kernel_rfl)
end Go.Proofs.YtcbbilehdaaffaaGreatDoor
