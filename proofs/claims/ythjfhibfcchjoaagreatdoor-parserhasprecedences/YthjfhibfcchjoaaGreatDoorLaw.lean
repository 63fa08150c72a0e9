/- Proved: for every input the law ParserHasPrecedences returns true, and each argument reads afterwards as before; conditions: none (the card: the tables of the library that it names hold what the text of the program lays). (From the walk to the statement; printed by a program of the prover, lawgen.py.) -/
import Derived.Test.YthjfhibfcchjoaaGreatDoorCards
import Derived.Test.YthjfhibfcchjoaaGreatDoorTie
import Derived.Test.YthjfhibfcchjoaaGreatDoorP1
import Derived.WalkKit
import Derived.ProofKit
import Derived.OpenShut
import Derived.Deep.DeepHandedRow
import Derived.Lib.LaidTab
namespace Go.Proofs.YthjfhibfcchjoaaGreatDoor.eR
open Go Go.Sk Go.Dn Go.ChangeShapes Go.WideShapes Go.ChangeAt Go.RowKit
set_option linter.unusedVariables false
theorem own:ownKnob Tryz.prog.godebug = Option.none:=by kernel_rfl
theorem kids:Kids Tryz.prog (· < Tryz.prog.types.size):=kids_rows (by kernel_rfl) (by kernel_rfl)
theorem GU:∀ t e,t < Tryz.prog.types.size → Tryz.prog.underlying t = some (.slice e) → 0 < Tryz.prog.cellsOf e:=slices_full_of Tryz.prog (by kernel_rfl)
theorem fl9 {d:Nat}:jj Tryz.prog 9 d:=jj.str Tryz.underlying9
set_option maxRecDepth 100000 in
theorem fl193 {d:Nat}:jj Tryz.prog 193 (d + 1):=jj.arr Tryz.underlying193 (by kernel_rfl) fl9
set_option maxRecDepth 100000 in
theorem fl226 {d:Nat}:jj Tryz.prog 226 (d + 1):=jj.arr Tryz.underlying226 (by kernel_rfl) fl9
theorem rd5:ji Tryz.prog 5 (eK .u8):=ji.int Tryz.underlying5 (by kernel_rfl)
set_option maxRecDepth 100000 in
theorem table {W:World} (h:laidMetH Tryz.prog Rows.parserHasPrecedencesRow.laid W) (hsh:W.ShapedOpen Tryz.prog):∃ mx,cC (Go.Dn.ax mx) (full W) W:=by
  have h0:laidMet Tryz.prog Rows.parserHasPrecedencesRow.laid W:=by rw [MakeChecks.laidMetH_plain _ _ _ (by kernel_rfl)] at h; exact h
  have h1:=j6 h0
  have h2:=j6 h1
  have h3:=j6 h2
  have h4:=j6 h3
  have h5:=j6 h4
  have h6:=j6 h5
  obtain ⟨m,hm⟩:=cC.open1 (g:=2) (t:=3) (zero:=#[.int .i64 0]) (k:=.i64) hsh (by decide +kernel) (by kernel_rfl) rfl (by kernel_rfl) (by kernel_rfl) Tryz.underlying3
  refine ⟨m,?_⟩
  have hall:=hm (cC.consV (name := "skewback/lexer.words") (g:=1) (by kernel_rfl) (by kernel_rfl) (fl226 (d:=0)) h4 (cs:=BX gU) (by kernel_rfl) (by decide) (cC.consV (name := "skewback/lexer.signs") (g:=0) (by kernel_rfl) (by kernel_rfl) (fl193 (d:=0)) h5 (cs:=BX ga) (by kernel_rfl) (by decide) (cC.cons (name := "internal/strconv.uint64pow10") (k:=.u64) (zs:=Lib.pow10Tab) (g:=3) (by kernel_rfl) (Lib.tabIs_of_head (g:=3) (by kernel_rfl) (by kernel_rfl) Tryz.underlying279 Tryz.underlying212 (by kernel_rfl) (by kernel_rfl) h2) (by decide) cC.nil)))
  exact fun g' c' hm'=>hall g' c' (by
    simp only [Go.Dn.ax,List.mem_cons,List.cons_append,List.nil_append,List.not_mem_nil,or_false] at hm' ⊢
    rcases hm' with h | h | h | h
    · exact .inl h
    · exact .inr (.inl h)
    · exact .inr (.inr (.inr h))
    · exact .inr (.inr (.inl h)))
set_option maxRecDepth 100000 in
theorem Mq (H:Type) (enc:TypeId × Value → H) (W:World) (base:Nat) (args:Array Value) (ds gs:List (DataW H)) (before:List MemPlace)
    (hval:∀ (j:Nat) t v,Tryz.f3.params[j]? = some t → args[j]? = some v → Value.okWide Tryz.prog W .any base t v)
    (hW:DataW.Whole enc Tryz.prog Tryz.f3.params.toList Rows.parserHasPrecedencesSpec.vars false W args.toList ds gs before) (hL:laidMetH Tryz.prog Rows.parserHasPrecedencesRow.laid W) (hsh:W.ShapedOpen Tryz.prog) :
    Calls Tryz.prog 3 args W fun e W'=>∃ v,e = .returned v ∧ Rows.parserHasPrecedencesSpec.post enc Tryz.prog Tryz.f3 false true false false W args v W':=by
  have hW':=hW
  obtain ⟨p,q,hA0,hV,rfl,hfz,hnd⟩:=hW
  have hA:DataW.TrodAll enc Tryz.prog W 0 (fun _=>true) true Tryz.f3.params.toList args.toList ds p:=hA0
  rw [Tryz.params3] at hA hval
  obtain ⟨v0,vs0,d0,ds0,p0,q0,hargs0,rfl,rfl,h0,r0⟩:=trodAll_cons hA
  obtain ⟨hnil,rfl,rfl⟩:=trodAll_nil r0
  subst hnil
  obtain rfl:args = #[v0]:=by cases args; simp_all
  obtain ⟨rfl,rfl⟩:=trodVars_none hV
  obtain ⟨x0,hx0,hl0⟩:=open_sl Tryz.underlying22 rd5 (size:=1) (by kernel_rfl) (by decide) (hval 0 22 v0 rfl rfl) h0
  obtain ⟨mx,htab⟩:=table hL hsh
  refine law_end (vals:=[v0]) (has_ctr x0 (L8 hx0)) htab (.cons hx0 .nil) fun W' hk'=>⟨_,rfl,D1 kids GU (of_decide_eq_true (by kernel_rfl)) hW' rfl rfl rfl hk' (fun _ _ _=>trodAll_mk1 (shut_bool Tryz.underlying4 true)) (ok_one (by kernel_rfl) rfl (okWide_bool_mk Tryz.underlying4 _))⟩
noncomputable def yq (os:Os):World:={ World.holding Tryz.prog os ⟨#[],#[],[]⟩ with heap:=((((((((World.holding Tryz.prog os ⟨#[],#[],[]⟩).heap.modify 4 fun | .cells _ t fz=>.cells (Lib.deBruijn32tab.map fun z:Nat=>Value.int .u8 (z:Int)).toArray t fz | o=>o).modify 5 fun | .cells _ t fz=>.cells (Lib.deBruijn64tab.map fun z:Nat=>Value.int .u8 (z:Int)).toArray t fz | o=>o).modify 3 fun | .cells _ t fz=>.cells (Lib.pow10Tab.map fun z:Int=>Value.int .u64 z).toArray t fz | o=>o).modify 7 fun | .cells _ t fz=>.cells (([128,191,160,191,128,159,144,191,128,143,0,0,0,0,0,0,0,0,0,0,0,0,0,0,0,0,0,0,0,0,0,0]:List Int).map fun z:Int=>Value.int .u8 z).toArray t fz | o=>o).modify 1 fun | .cells _ t fz=>.cells (BX gU).toArray t fz | o=>o).modify 0 fun | .cells _ t fz=>.cells (BX ga).toArray t fz | o=>o).modify 6 fun | .cells _ t fz=>.cells (Go.Pinned.utf8FirstZ.map fun z:Nat=>Value.int .u8 (z:Int)).toArray t fz | o=>o) }
set_option maxRecDepth 100000 in
theorem L4 (os:Os):laidMetH Tryz.prog Rows.parserHasPrecedencesRow.laid ((yq os).forCall (fun _ _=>0) ⟨#[],#[.slice none 0 0],[]⟩).memory:=by
  rw [MakeChecks.laidMetH_plain _ _ _ (by kernel_rfl)]
  exact laidMet_of_run' 8 (by kernel_rfl) (by kernel_rfl)
set_option maxRecDepth 100000 in
theorem reads (os:Os) {H:Type} (enc:TypeId × Value → H):∃ places,DataW.whole enc Tryz.prog ((yq os).forCall (fun _ _=>0) ⟨#[],#[.slice none 0 0],[]⟩).memory Tryz.f3.params.toList Rows.parserHasPrecedencesSpec.vars false (#[.slice none 0 0]:Array Value).toList 8 = some ([.nil],[],places):=⟨[],by kernel_rfl⟩
set_option maxRecDepth 100000 in
theorem lifted (os:Os) (started:os.Started) (H:Type) (enc:TypeId × Value → H) (F:Stop.Interp) :
    ReturnsInHanded {} Tryz.checked os 3 .any ((OpenSpec.ofChange Rows.parserHasPrecedencesSpec).preRow enc Tryz.prog Tryz.f3 Rows.parserHasPrecedencesRow.domain false Rows.parserHasPrecedencesRow.laid) (((OpenSpec.ofChange Rows.parserHasPrecedencesSpec).at F).post enc Tryz.prog Tryz.f3 false true false false):=by
  obtain ⟨places,hx⟩:=reads os enc
  refine returnsInHanded_of_row (C:=Tryz.checked) (s:=OpenSpec.ofChange Rows.parserHasPrecedencesSpec) own started (by kernel_rfl) Tryz.func3
    (witness_row_at (enc:=enc) (C:=Tryz.checked) false (yq os) #[.slice none 0 0] rfl (by kernel_rfl) (by kernel_rfl) (by kernel_rfl)
      (OpenSpec.preRow_of_cond 8 hx (by kernel_rfl) (fun k hk=>by cases hk) (by kernel_rfl) (L4 os))) ?_
  intro W base args ds gs before hval hW _ hk _ hL hsh _
  exact Mq H enc W base args ds gs before hval hW hL hsh
theorem said:Rows.ParserHasPrecedencesSaid :=
  OpenClaim.holds_of_cond 3 Tryz.f3 rfl rfl rfl rfl rfl rfl rfl ⟨rfl,rfl,rfl,rfl,rfl⟩ rfl rfl rfl rfl rfl (by kernel_rfl) Tryz.func3 closed
    (of_decide_eq_true (by kernel_rfl)) (by unfold Func.isWrapper; first | (rw [if_pos (by decide +kernel)]; kernel_rfl) | (rw [if_neg (by decide +kernel)]; exact ⟨rfl,rfl⟩))
    (fun os started H enc _ F=>by rw [OpenClaim.pre_eq_preRow]; exact lifted os started H enc F)
theorem plain (f:FuncId) (fn:Func) (hf:Tryz.pinned.checked.prog.funcNamed "skewback/skewbacklaw29.ParserHasPrecedences" = some f) (hfn:Tryz.pinned.checked.prog.funcs[f]? = some fn) :
    true = Tryz.pinned.checked.prog.looks [] ∧ ∀ (j:Nat) t,fn.params[j]? = some t → Tryz.pinned.checked.prog.wantsStandIn t = false:=by
  obtain rfl:f = 3:=Option.some.inj ((show Tryz.prog.funcNamed "skewback/skewbacklaw29.ParserHasPrecedences" = some 3 by kernel_rfl).symm.trans hf) |>.symm
  obtain rfl:fn = Tryz.f3:=(Option.some.inj (Tryz.func3.symm.trans hfn)).symm
  refine ⟨by kernel_rfl,fun j t ht=>?_⟩
  rw [Tryz.params3] at ht
  have hm:=Array.mem_of_getElem? ht
  have hor:t = 22:=by simpa using hm
  rcases hor with rfl
  · exact (show Tryz.prog.wantsStandIn 22 = false by kernel_rfl)
end Go.Proofs.YthjfhibfcchjoaaGreatDoor.eR
namespace Go.Proofs.YthjfhibfcchjoaaGreatDoor
open Go
/-- THE STATEMENT -/
theorem parserHasPrecedences_proved:Rows.ParserHasPrecedencesCardSaid :=
  Claim7.holds_tied_plain_at .later [] _ _ _ _ eR.said (fun _ h=>by cases h) (by kernel_rfl) (fun _ h=>by cases h) parserHasPrecedences_row_tie rfl ⟨rfl,rfl⟩ (by kernel_rfl) rfl eR.plain (by kernel_rfl)
end Go.Proofs.YthjfhibfcchjoaaGreatDoor
