/- Proved: for every input the law LexerNumbersAreExact returns true, and each argument reads afterwards as before; conditions: none (the card: the tables of the library that it names hold what the text of the program lays). (From the walk to the statement; printed by a program of the prover, lawgen.py.) -/
import Derived.Test.YtbcdabflmkgkiaaGreatDoorCards
import Derived.Test.YtbcdabflmkgkiaaGreatDoorTie
import Derived.Test.YtbcdabflmkgkiaaGreatDoorP2
import Derived.WalkKit
import Derived.ProofKit
import Derived.OpenShut
import Derived.Deep.DeepHandedRow
import Derived.Lib.LaidTab
namespace Go.Proofs.YtbcdabflmkgkiaaGreatDoor.gO
open Go Go.Sk Go.ChangeShapes Go.WideShapes Go.ChangeAt Go.RowKit
set_option linter.unusedVariables false
theorem own:ownKnob Tryz.prog.godebug = Option.none:=by kernel_rfl
theorem kids:Kids Tryz.prog (· < Tryz.prog.types.size):=kids_rows (by kernel_rfl) (by kernel_rfl)
theorem zn:∀ t e,t < Tryz.prog.types.size → Tryz.prog.underlying t = some (.slice e) → 0 < Tryz.prog.cellsOf e:=slices_full_of Tryz.prog (by kernel_rfl)
theorem fl9 {d:Nat}:gx Tryz.prog 9 d:=gx.str Tryz.underlying9
set_option maxRecDepth 100000 in
theorem fl131 {d:Nat}:gx Tryz.prog 131 (d + 1):=gx.arr Tryz.underlying131 (by kernel_rfl) fl9
set_option maxRecDepth 100000 in
theorem fl88 {d:Nat}:gx Tryz.prog 88 (d + 1):=gx.arr Tryz.underlying88 (by kernel_rfl) fl9
set_option maxRecDepth 100000 in
theorem table {W:World} (h:laidMetH Tryz.prog Rows.lexerNumbersAreExactRow.laid W) (hsh:W.ShapedOpen Tryz.prog):∃ mx,cS (bh mx) (full W) W:=by
  have h0:laidMet Tryz.prog Rows.lexerNumbersAreExactRow.laid W:=by rw [MakeChecks.laidMetH_plain _ _ _ (by kernel_rfl)] at h; exact h
  have h1:=nP h0
  have h2:=nP h1
  have h3:=nP h2
  obtain ⟨m,hm⟩:=cS.open1 (g:=2) (t:=3) (zero:=#[.int .i64 0]) (k:=.i64) hsh (by decide +kernel) (by kernel_rfl) rfl (by kernel_rfl) (by kernel_rfl) Tryz.underlying3
  refine ⟨m,?_⟩
  unfold bh
  exact hm (cS.consV (name := "skewback/lexer.words") (g:=0) (by kernel_rfl) (by kernel_rfl) (fl88 (d:=0)) h1 (cs:=tz eP) (by kernel_rfl) (by decide) (cS.consV (name := "skewback/lexer.signs") (g:=1) (by kernel_rfl) (by kernel_rfl) (fl131 (d:=0)) h2 (cs:=tz dA) (by kernel_rfl) (by decide) cS.nil))
set_option maxRecDepth 100000 in
theorem D8 (H:Type) (enc:TypeId × Value → H) (W:World) (base:Nat) (args:Array Value) (ds gs:List (DataW H)) (before:List MemPlace)
    (hval:∀ (j:Nat) t v,Tryz.f7.params[j]? = some t → args[j]? = some v → Value.okWide Tryz.prog W .any base t v)
    (hW:DataW.Whole enc Tryz.prog Tryz.f7.params.toList Rows.lexerNumbersAreExactSpec.vars false W args.toList ds gs before) (hL:laidMetH Tryz.prog Rows.lexerNumbersAreExactRow.laid W) (hsh:W.ShapedOpen Tryz.prog) :
    Calls Tryz.prog 7 args W fun e W'=>∃ v,e = .returned v ∧ Rows.lexerNumbersAreExactSpec.post enc Tryz.prog Tryz.f7 false true false false W args v W':=by
  have hW':=hW
  obtain ⟨p,q,hA0,hV,rfl,hfz,hnd⟩:=hW
  have hA:DataW.TrodAll enc Tryz.prog W 0 (fun _=>true) true Tryz.f7.params.toList args.toList ds p:=hA0
  rw [Tryz.params7] at hA hval
  obtain ⟨v0,vs0,d0,ds0,p0,q0,hargs0,rfl,rfl,h0,r0⟩:=trodAll_cons hA
  obtain ⟨v1,vs1,d1,ds1,p1,q1,hargs1,rfl,rfl,h1,r1⟩:=trodAll_cons r0
  subst hargs1
  obtain ⟨hnil,rfl,rfl⟩:=trodAll_nil r1
  subst hnil
  obtain rfl:args = #[v0,v1]:=by cases args; simp_all
  obtain ⟨rfl,rfl⟩:=trodVars_none hV
  obtain ⟨x0,hx0⟩:=vy Tryz.underlying54 (hval 0 54 v0 rfl rfl)
  obtain ⟨x1,hx1⟩:=vy Tryz.underlying54 (hval 1 54 v1 rfl rfl)
  obtain ⟨mx,htab⟩:=table hL hsh
  refine law_end (vals:=[v0,v1]) (BK x0 x1 (xF hx0) (xF hx1)) htab (.cons hx0 (.cons hx1 .nil)) fun W' hk'=>⟨_,rfl,wV kids zn (of_decide_eq_true (by kernel_rfl)) hW' rfl rfl rfl hk' (fun _ _ _=>trodAll_mk1 (shut_bool Tryz.underlying4 true)) (ok_one (by kernel_rfl) rfl (okWide_bool_mk Tryz.underlying4 _))⟩
noncomputable def sr (os:Os):World:={ World.holding Tryz.prog os ⟨#[],#[],[]⟩ with heap:=(((((World.holding Tryz.prog os ⟨#[],#[],[]⟩).heap.modify 4 fun | .cells _ t fz=>.cells (([128,191,160,191,128,159,144,191,128,143,0,0,0,0,0,0,0,0,0,0,0,0,0,0,0,0,0,0,0,0,0,0]:List Int).map fun z:Int=>Value.int .u8 z).toArray t fz | o=>o).modify 0 fun | .cells _ t fz=>.cells (tz eP).toArray t fz | o=>o).modify 1 fun | .cells _ t fz=>.cells (tz dA).toArray t fz | o=>o).modify 3 fun | .cells _ t fz=>.cells (Go.Pinned.utf8FirstZ.map fun z:Nat=>Value.int .u8 (z:Int)).toArray t fz | o=>o) }
set_option maxRecDepth 100000 in
theorem DS (os:Os):laidMetH Tryz.prog Rows.lexerNumbersAreExactRow.laid ((sr os).forCall (fun _ _=>0) ⟨#[],#[.int .u64 0,.int .u64 0],[]⟩).memory:=by
  rw [MakeChecks.laidMetH_plain _ _ _ (by kernel_rfl)]
  exact laidMet_of_run' 8 (by kernel_rfl) (by kernel_rfl)
set_option maxRecDepth 100000 in
theorem reads (os:Os) {H:Type} (enc:TypeId × Value → H):∃ places,DataW.whole enc Tryz.prog ((sr os).forCall (fun _ _=>0) ⟨#[],#[.int .u64 0,.int .u64 0],[]⟩).memory Tryz.f7.params.toList Rows.lexerNumbersAreExactSpec.vars false (#[.int .u64 0,.int .u64 0]:Array Value).toList 8 = some ([.lit (.int .u64 0),.lit (.int .u64 0)],[],places):=⟨[],by kernel_rfl⟩
set_option maxRecDepth 100000 in
theorem lifted (os:Os) (started:os.Started) (H:Type) (enc:TypeId × Value → H) (F:Stop.Interp) :
    ReturnsInHanded {} Tryz.checked os 7 .any ((OpenSpec.ofChange Rows.lexerNumbersAreExactSpec).preRow enc Tryz.prog Tryz.f7 Rows.lexerNumbersAreExactRow.domain false Rows.lexerNumbersAreExactRow.laid) (((OpenSpec.ofChange Rows.lexerNumbersAreExactSpec).at F).post enc Tryz.prog Tryz.f7 false true false false):=by
  obtain ⟨places,hx⟩:=reads os enc
  refine returnsInHanded_of_row (C:=Tryz.checked) (s:=OpenSpec.ofChange Rows.lexerNumbersAreExactSpec) own started (by kernel_rfl) Tryz.func7
    (witness_row_at (enc:=enc) (C:=Tryz.checked) false (sr os) #[.int .u64 0,.int .u64 0] rfl (by kernel_rfl) (by kernel_rfl) (by kernel_rfl)
      (OpenSpec.preRow_of_cond 8 hx (by kernel_rfl) (fun k hk=>by cases hk) (by kernel_rfl) (DS os))) ?_
  intro W base args ds gs before hval hW _ hk _ hL hsh _
  exact D8 H enc W base args ds gs before hval hW hL hsh
theorem said:Rows.LexerNumbersAreExactSaid :=
  OpenClaim.holds_of_cond 7 Tryz.f7 rfl rfl rfl rfl rfl rfl rfl ⟨rfl,rfl,rfl,rfl,rfl⟩ rfl rfl rfl rfl rfl (by kernel_rfl) Tryz.func7 (by kernel_rfl)
    (of_decide_eq_true (by kernel_rfl)) (by unfold Func.isWrapper; first | (rw [if_pos (by decide +kernel)]; kernel_rfl) | (rw [if_neg (by decide +kernel)]; exact ⟨rfl,rfl⟩))
    (fun os started H enc _ F=>by rw [OpenClaim.pre_eq_preRow]; exact lifted os started H enc F)
theorem plain (f:FuncId) (fn:Func) (hf:Tryz.pinned.checked.prog.funcNamed "skewback/skewbacklaw28.LexerNumbersAreExact" = some f) (hfn:Tryz.pinned.checked.prog.funcs[f]? = some fn) :
    true = Tryz.pinned.checked.prog.looks [] ∧ ∀ (j:Nat) t,fn.params[j]? = some t → Tryz.pinned.checked.prog.wantsStandIn t = false:=by
  obtain rfl:f = 7:=Option.some.inj ((show Tryz.prog.funcNamed "skewback/skewbacklaw28.LexerNumbersAreExact" = some 7 by kernel_rfl).symm.trans hf) |>.symm
  obtain rfl:fn = Tryz.f7:=(Option.some.inj (Tryz.func7.symm.trans hfn)).symm
  refine ⟨by kernel_rfl,fun j t ht=>?_⟩
  rw [Tryz.params7] at ht
  have hm:=Array.mem_of_getElem? ht
  have hor:t = 54:=by simpa using hm
  rcases hor with rfl
  · exact (show Tryz.prog.wantsStandIn 54 = false by kernel_rfl)
end Go.Proofs.YtbcdabflmkgkiaaGreatDoor.gO
namespace Go.Proofs.YtbcdabflmkgkiaaGreatDoor
open Go
/-- THE STATEMENT -/
theorem lexerNumbersAreExact_proved:Rows.LexerNumbersAreExactCardSaid :=
  Claim7.holds_tied_plain_at .later [] _ _ _ _ gO.said (fun _ h=>by cases h) (by kernel_rfl) (fun _ h=>by cases h) lexerNumbersAreExact_row_tie rfl ⟨rfl,rfl⟩ (by kernel_rfl) rfl gO.plain (by kernel_rfl)
end Go.Proofs.YtbcdabflmkgkiaaGreatDoor
