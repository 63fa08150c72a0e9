/- Proved: for every input the law UnitConvertsAsSpecified returns true, and each argument reads afterwards as before; conditions: none (the card: the tables of the library that it names hold what the text of the program lays). (From the walk to the statement; printed by a program of the prover, lawgen.py.) -/
import Derived.Test.YtcbbilehdaaffaaGreatDoorCards
import Derived.Test.YtcbbilehdaaffaaGreatDoorTie
import Derived.Test.YtcbbilehdaaffaaGreatDoorP2
import Derived.WalkKit
import Derived.ProofKit
import Derived.OpenShut
import Derived.Deep.DeepHandedRow
import Derived.Lib.LaidTab
namespace Go.Proofs.YtcbbilehdaaffaaGreatDoor.gp
open Go Go.Sk Go.ChangeShapes Go.WideShapes Go.ChangeAt Go.RowKit
set_option linter.unusedVariables false
theorem own:ownKnob Tryz.prog.godebug = Option.none:=by kernel_rfl
theorem kids:Kids Tryz.prog (· < Tryz.prog.types.size):=kids_rows (by kernel_rfl) (by kernel_rfl)
theorem zA:∀ t e,t < Tryz.prog.types.size → Tryz.prog.underlying t = some (.slice e) → 0 < Tryz.prog.cellsOf e:=slices_full_of Tryz.prog (by kernel_rfl)
theorem fl9 {d:Nat}:fO Tryz.prog 9 d:=fO.str Tryz.underlying9
theorem fl3 {d:Nat}:fO Tryz.prog 3 d:=fO.int Tryz.underlying3
set_option maxRecDepth 100000 in
theorem fl29 {d:Nat}:fO Tryz.prog 29 (d + 1):=fO.struct Tryz.underlying29 (.cons rfl rfl fl3 (.cons rfl rfl fl3 (.cons rfl rfl fl3 (.nil (by decide)))))
set_option maxRecDepth 100000 in
theorem fl142 {d:Nat}:fO Tryz.prog 142 (d + 2):=fO.struct Tryz.underlying142 (.cons rfl rfl fl9 (.cons rfl rfl fl3 (.cons rfl rfl fl3 (.cons rfl rfl fl29 (.nil (by decide))))))
set_option maxRecDepth 100000 in
theorem fl143 {d:Nat}:fO Tryz.prog 143 (d + 3):=fO.arr Tryz.underlying143 (by kernel_rfl) fl142
theorem rd4:eo Tryz.prog 4 eB:=eo.bool Tryz.underlying4 (by kernel_rfl)
theorem rd23:eo Tryz.prog 23 (eA16 .u32):=eo.arr (g:=aP.of) Tryz.underlying23 Tryz.underlying22 (by kernel_rfl) (by kernel_rfl) (fun _=>rfl) (fun l h=>by unfold eA16; rw [aP.uU h])
set_option maxRecDepth 100000 in
theorem rd25:eo Tryz.prog 25 au:=eo.struct (fun b=>⟨b.1,b.2.1,b.2.2.1⟩) Tryz.underlying25 (.cons rfl rfl rd4 (.cons rfl rfl rd4 (.cons rfl rfl rd23 (.nil (by decide))))) (fun _=>by kernel_rfl) (fun _=>rfl)
set_option maxRecDepth 100000 in
theorem rd27:eo Tryz.prog 27 aI:=eo.struct (fun b=>⟨b.1,b.2.1⟩) Tryz.underlying27 (.cons rfl rfl rd25 (.cons rfl rfl rd25 (.nil (by decide)))) (fun _=>by kernel_rfl) (fun _=>rfl)
theorem rd3:eo Tryz.prog 3 eI:=eo.int Tryz.underlying3 (by kernel_rfl)
set_option maxRecDepth 100000 in
theorem rd29:eo Tryz.prog 29 aZ:=eo.struct (fun b=>⟨b.1,b.2.1,b.2.2.1⟩) Tryz.underlying29 (.cons rfl rfl rd3 (.cons rfl rfl rd3 (.cons rfl rfl rd3 (.nil (by decide))))) (fun _=>by kernel_rfl) (fun _=>rfl)
set_option maxRecDepth 100000 in
theorem rd31:eo Tryz.prog 31 ap:=eo.struct (fun b=>⟨b.1,b.2.1⟩) Tryz.underlying31 (.cons rfl rfl rd27 (.cons rfl rfl rd29 (.nil (by decide)))) (fun _=>by kernel_rfl) (fun _=>rfl)
set_option maxRecDepth 100000 in
theorem table {W:World} (h:laidMetH Tryz.prog Rows.unitConvertsAsSpecifiedRow.laid W) (hsh:W.ShapedOpen Tryz.prog):∃ mx,dR (bj mx) (full W) W:=by
  have h0:laidMet Tryz.prog Rows.unitConvertsAsSpecifiedRow.laid W:=by rw [MakeChecks.laidMetH_plain _ _ _ (by kernel_rfl)] at h; exact h
  have h1:=nV h0
  have h2:=nV h1
  have h3:=nV h2
  obtain ⟨m,hm⟩:=dR.open1 (g:=1) (t:=3) (zero:=#[.int .i64 0]) (k:=.i64) hsh (by decide +kernel) (by kernel_rfl) rfl (by kernel_rfl) (by kernel_rfl) Tryz.underlying3
  refine ⟨m,?_⟩
  unfold bj
  rw [(by rw [List.map_map]; rfl:(Lib.deBruijn32tab.map fun z:Nat=>Value.int .u8 (z:Int)) = (Lib.deBruijn32tab.map fun z:Nat=>(z:Int)).map fun z=>Value.int .u8 z)]
  exact hm (dR.cons (name := "math/bits.deBruijn32tab") (k:=.u8) (zs:=Lib.deBruijn32tab.map fun z:Nat=>(z:Int)) (g:=3) (by kernel_rfl) (Lib.tabIs_of_head (g:=3) (by kernel_rfl) (by kernel_rfl) Tryz.underlying216 Tryz.underlying5 (by kernel_rfl) (by kernel_rfl) h0) (by decide) (dR.cons (name := "internal/strconv.uint64pow10") (k:=.u64) (zs:=Lib.pow10Tab) (g:=2) (by kernel_rfl) (Lib.tabIs_of_head (g:=2) (by kernel_rfl) (by kernel_rfl) Tryz.underlying213 Tryz.underlying145 (by kernel_rfl) (by kernel_rfl) h2) (by decide) (dR.consV (name := "skewback/unit.names") (g:=0) (by kernel_rfl) (by kernel_rfl) (fl143 (d:=0)) h3 (cs:=(cE.map qo).flatten) (by kernel_rfl) (by decide) dR.nil)))
set_option maxRecDepth 100000 in
theorem D7 (H:Type) (enc:TypeId × Value → H) (W:World) (base:Nat) (args:Array Value) (ds gs:List (DataW H)) (before:List MemPlace)
    (hval:∀ (j:Nat) t v,Tryz.f3.params[j]? = some t → args[j]? = some v → Value.okWide Tryz.prog W .any base t v)
    (hW:DataW.Whole enc Tryz.prog Tryz.f3.params.toList Rows.unitConvertsAsSpecifiedSpec.vars false W args.toList ds gs before) (hL:laidMetH Tryz.prog Rows.unitConvertsAsSpecifiedRow.laid W) (hsh:W.ShapedOpen Tryz.prog) :
    Calls Tryz.prog 3 args W fun e W'=>∃ v,e = .returned v ∧ Rows.unitConvertsAsSpecifiedSpec.post enc Tryz.prog Tryz.f3 false true false false W args v W':=by
  have hW':=hW
  obtain ⟨p,q,hA0,hV,rfl,hfz,hnd⟩:=hW
  have hA:DataW.TrodAll enc Tryz.prog W 0 (fun _=>true) true Tryz.f3.params.toList args.toList ds p:=hA0
  rw [Tryz.params3] at hA hval
  obtain ⟨v0,vs0,d0,ds0,p0,q0,hargs0,rfl,rfl,h0,r0⟩:=trodAll_cons hA
  obtain ⟨v1,vs1,d1,ds1,p1,q1,hargs1,rfl,rfl,h1,r1⟩:=trodAll_cons r0
  subst hargs1
  obtain ⟨hnil,rfl,rfl⟩:=trodAll_nil r1
  subst hnil
  obtain rfl:args = #[v0,v1]:=by cases args; simp_all
  obtain ⟨rfl,rfl⟩:=trodVars_none hV
  obtain ⟨x0,hx0⟩:=BL Tryz.underlying31 rd31 (hval 0 31 v0 rfl rfl) h0
  obtain ⟨x1,hx1⟩:=BK Tryz.underlying9 (hval 1 9 v1 rfl rfl)
  obtain ⟨mx,htab⟩:=table hL hsh
  refine law_end (vals:=[v0,v1]) (w5 x0 x1 (inQ_of hx0)) htab (.cons hx0 (.cons hx1 .nil)) fun W' hk'=>⟨_,rfl,wW kids zA (of_decide_eq_true (by kernel_rfl)) hW' rfl rfl rfl hk' (fun _ _ _=>trodAll_mk1 (shut_bool Tryz.underlying4 true)) (ok_one (by kernel_rfl) rfl (okWide_bool_mk Tryz.underlying4 _))⟩
noncomputable def se (os:Os):World:={ World.holding Tryz.prog os ⟨#[],#[],[]⟩ with heap:=(((((World.holding Tryz.prog os ⟨#[],#[],[]⟩).heap.modify 3 fun | .cells _ t fz=>.cells (Lib.deBruijn32tab.map fun z:Nat=>Value.int .u8 (z:Int)).toArray t fz | o=>o).modify 4 fun | .cells _ t fz=>.cells (Lib.deBruijn64tab.map fun z:Nat=>Value.int .u8 (z:Int)).toArray t fz | o=>o).modify 2 fun | .cells _ t fz=>.cells (Lib.pow10Tab.map fun z:Int=>Value.int .u64 z).toArray t fz | o=>o).modify 0 fun | .cells _ t fz=>.cells ((cE.map qo).flatten).toArray t fz | o=>o) }
set_option maxRecDepth 100000 in
theorem DJ (os:Os):laidMetH Tryz.prog Rows.unitConvertsAsSpecifiedRow.laid ((se os).forCall (fun _ _=>0) ⟨#[],#[.agg (Array.append #[.bool false,.bool false,.int .u32 0,.int .u32 0,.int .u32 0,.int .u32 0,.int .u32 0,.int .u32 0,.int .u32 0,.int .u32 0,.int .u32 0,.int .u32 0,.int .u32 0,.int .u32 0,.int .u32 0,.int .u32 0,.int .u32 0,.int .u32 0,.bool false,.bool false,.int .u32 0,.int .u32 0,.int .u32 0,.int .u32 0] #[.int .u32 0,.int .u32 0,.int .u32 0,.int .u32 0,.int .u32 0,.int .u32 0,.int .u32 0,.int .u32 0,.int .u32 0,.int .u32 0,.int .u32 0,.int .u32 0,.int .i64 0,.int .i64 0,.int .i64 0]),.string ⟨#[]⟩],[]⟩).memory:=by
  rw [MakeChecks.laidMetH_plain _ _ _ (by kernel_rfl)]
  exact laidMet_of_run' 8 (by kernel_rfl) (by kernel_rfl)
set_option maxRecDepth 100000 in
theorem reads (os:Os) {H:Type} (enc:TypeId × Value → H):∃ places,DataW.whole enc Tryz.prog ((se os).forCall (fun _ _=>0) ⟨#[],#[.agg (Array.append #[.bool false,.bool false,.int .u32 0,.int .u32 0,.int .u32 0,.int .u32 0,.int .u32 0,.int .u32 0,.int .u32 0,.int .u32 0,.int .u32 0,.int .u32 0,.int .u32 0,.int .u32 0,.int .u32 0,.int .u32 0,.int .u32 0,.int .u32 0,.bool false,.bool false,.int .u32 0,.int .u32 0,.int .u32 0,.int .u32 0] #[.int .u32 0,.int .u32 0,.int .u32 0,.int .u32 0,.int .u32 0,.int .u32 0,.int .u32 0,.int .u32 0,.int .u32 0,.int .u32 0,.int .u32 0,.int .u32 0,.int .i64 0,.int .i64 0,.int .i64 0]),.string ⟨#[]⟩],[]⟩).memory Tryz.f3.params.toList Rows.unitConvertsAsSpecifiedSpec.vars false (#[.agg (Array.append #[.bool false,.bool false,.int .u32 0,.int .u32 0,.int .u32 0,.int .u32 0,.int .u32 0,.int .u32 0,.int .u32 0,.int .u32 0,.int .u32 0,.int .u32 0,.int .u32 0,.int .u32 0,.int .u32 0,.int .u32 0,.int .u32 0,.int .u32 0,.bool false,.bool false,.int .u32 0,.int .u32 0,.int .u32 0,.int .u32 0] #[.int .u32 0,.int .u32 0,.int .u32 0,.int .u32 0,.int .u32 0,.int .u32 0,.int .u32 0,.int .u32 0,.int .u32 0,.int .u32 0,.int .u32 0,.int .u32 0,.int .i64 0,.int .i64 0,.int .i64 0]),.string ⟨#[]⟩]:Array Value).toList 8 = some ([.agg [.agg [.agg [.lit (.bool false),.lit (.bool false),.agg [.lit (.int .u32 0),.lit (.int .u32 0),.lit (.int .u32 0),.lit (.int .u32 0),.lit (.int .u32 0),.lit (.int .u32 0),.lit (.int .u32 0),.lit (.int .u32 0),.lit (.int .u32 0),.lit (.int .u32 0),.lit (.int .u32 0),.lit (.int .u32 0),.lit (.int .u32 0),.lit (.int .u32 0),.lit (.int .u32 0),.lit (.int .u32 0)]],.agg [.lit (.bool false),.lit (.bool false),.agg [.lit (.int .u32 0),.lit (.int .u32 0),.lit (.int .u32 0),.lit (.int .u32 0),.lit (.int .u32 0),.lit (.int .u32 0),.lit (.int .u32 0),.lit (.int .u32 0),.lit (.int .u32 0),.lit (.int .u32 0),.lit (.int .u32 0),.lit (.int .u32 0),.lit (.int .u32 0),.lit (.int .u32 0),.lit (.int .u32 0),.lit (.int .u32 0)]]],.agg [.lit (.int .i64 0),.lit (.int .i64 0),.lit (.int .i64 0)]],.lit (.string [])],[],places):=⟨[],by kernel_rfl⟩
set_option maxRecDepth 100000 in
theorem lifted (os:Os) (started:os.Started) (H:Type) (enc:TypeId × Value → H) (F:Stop.Interp) :
    ReturnsInHanded {} Tryz.checked os 3 .any ((OpenSpec.ofChange Rows.unitConvertsAsSpecifiedSpec).preRow enc Tryz.prog Tryz.f3 Rows.unitConvertsAsSpecifiedRow.domain false Rows.unitConvertsAsSpecifiedRow.laid) (((OpenSpec.ofChange Rows.unitConvertsAsSpecifiedSpec).at F).post enc Tryz.prog Tryz.f3 false true false false):=by
  obtain ⟨places,hx⟩:=reads os enc
  refine returnsInHanded_of_row (C:=Tryz.checked) (s:=OpenSpec.ofChange Rows.unitConvertsAsSpecifiedSpec) own started (by kernel_rfl) Tryz.func3
    (witness_row_at (enc:=enc) (C:=Tryz.checked) false (se os) #[.agg (Array.append #[.bool false,.bool false,.int .u32 0,.int .u32 0,.int .u32 0,.int .u32 0,.int .u32 0,.int .u32 0,.int .u32 0,.int .u32 0,.int .u32 0,.int .u32 0,.int .u32 0,.int .u32 0,.int .u32 0,.int .u32 0,.int .u32 0,.int .u32 0,.bool false,.bool false,.int .u32 0,.int .u32 0,.int .u32 0,.int .u32 0] #[.int .u32 0,.int .u32 0,.int .u32 0,.int .u32 0,.int .u32 0,.int .u32 0,.int .u32 0,.int .u32 0,.int .u32 0,.int .u32 0,.int .u32 0,.int .u32 0,.int .i64 0,.int .i64 0,.int .i64 0]),.string ⟨#[]⟩] rfl (by kernel_rfl) (by kernel_rfl) (by kernel_rfl)
      (OpenSpec.preRow_of_cond 8 hx (by kernel_rfl) (fun k hk=>by cases hk) (by kernel_rfl) (DJ os))) ?_
  intro W base args ds gs before hval hW _ _ _ hL hsh _
  exact D7 H enc W base args ds gs before hval hW hL hsh
theorem said:Rows.UnitConvertsAsSpecifiedSaid :=
  OpenClaim.holds_of_cond 3 Tryz.f3 rfl rfl rfl rfl rfl rfl rfl ⟨rfl,rfl,rfl,rfl,rfl⟩ rfl rfl rfl rfl rfl (by kernel_rfl) Tryz.func3 (by kernel_rfl)
    (of_decide_eq_true (by kernel_rfl)) (by unfold Func.isWrapper; first | (rw [if_pos (by decide +kernel)]; kernel_rfl) | (rw [if_neg (by decide +kernel)]; exact ⟨rfl,rfl⟩))
    (fun os started H enc _ F=>by rw [OpenClaim.pre_eq_preRow]; exact lifted os started H enc F)
theorem plain (f:FuncId) (fn:Func) (hf:Tryz.pinned.checked.prog.funcNamed "skewback/skewbacklaw11.UnitConvertsAsSpecified" = some f) (hfn:Tryz.pinned.checked.prog.funcs[f]? = some fn) :
    false = Tryz.pinned.checked.prog.looks [] ∧ ∀ (j:Nat) t,fn.params[j]? = some t → Tryz.pinned.checked.prog.wantsStandIn t = false:=by
  obtain rfl:f = 3:=Option.some.inj ((show Tryz.prog.funcNamed "skewback/skewbacklaw11.UnitConvertsAsSpecified" = some 3 by kernel_rfl).symm.trans hf) |>.symm
  obtain rfl:fn = Tryz.f3:=(Option.some.inj (Tryz.func3.symm.trans hfn)).symm
  refine ⟨by kernel_rfl,fun j t ht=>?_⟩
  rw [Tryz.params3] at ht
  have hm:=Array.mem_of_getElem? ht
  have hor:t = 31 ∨ t = 9:=by simpa using hm
  rcases hor with rfl | rfl
  · exact (show Tryz.prog.wantsStandIn 31 = false by kernel_rfl)
  · exact (show Tryz.prog.wantsStandIn 9 = false by kernel_rfl)
end Go.Proofs.YtcbbilehdaaffaaGreatDoor.gp
namespace Go.Proofs.YtcbbilehdaaffaaGreatDoor
open Go
/-- THE STATEMENT -/
theorem unitConvertsAsSpecified_proved:Rows.UnitConvertsAsSpecifiedCardSaid :=
  Claim7.holds_tied_plain_at .later [] _ _ _ _ gp.said (fun _ h=>by cases h) (by kernel_rfl) (fun _ h=>by cases h) unitConvertsAsSpecified_row_tie rfl ⟨rfl,rfl⟩ (by kernel_rfl) rfl gp.plain (by kernel_rfl)
end Go.Proofs.YtcbbilehdaaffaaGreatDoor
