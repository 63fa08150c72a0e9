/- Proved: for every input the law LexerWritesAsSpecified returns true, and each argument reads afterwards as before; conditions: what the arguments hold is of bulk at most 1048576 (the card: the tables of the library that it names hold what the text of the program lays). (From the walk to the statement; printed by a program of the prover, lawgen.py.) -/
import Derived.Test.YtbcdabflmkgkiaaGreatDoorCards
import Derived.Test.YtbcdabflmkgkiaaGreatDoorTie
import Derived.Test.YtbcdabflmkgkiaaGreatDoorP2
import Derived.WalkKit
import Derived.ProofKit
import Derived.OpenShut
import Derived.Deep.DeepHandedRow
import Derived.Lib.LaidTab
namespace Go.Proofs.YtbcdabflmkgkiaaGreatDoor.ij
open Go Go.Sk Go.ChangeShapes Go.WideShapes Go.ChangeAt Go.RowKit
set_option linter.unusedVariables false
theorem own:ownKnob Tryz.prog.godebug = Option.none:=by kernel_rfl
theorem kids:Kids Tryz.prog (· < Tryz.prog.types.size):=kids_rows (by kernel_rfl) (by kernel_rfl)
theorem B0:∀ t e,t < Tryz.prog.types.size → Tryz.prog.underlying t = some (.slice e) → 0 < Tryz.prog.cellsOf e:=slices_full_of Tryz.prog (by kernel_rfl)
theorem fl9 {d:Nat}:iO Tryz.prog 9 d:=iO.str Tryz.underlying9
set_option maxRecDepth 100000 in
theorem fl131 {d:Nat}:iO Tryz.prog 131 (d + 1):=iO.arr Tryz.underlying131 (by kernel_rfl) fl9
set_option maxRecDepth 100000 in
theorem fl88 {d:Nat}:iO Tryz.prog 88 (d + 1):=iO.arr Tryz.underlying88 (by kernel_rfl) fl9
theorem rd3:iE Tryz.prog 3 eI:=iE.int Tryz.underlying3 (by kernel_rfl)
theorem rdB3:gE Tryz.prog 3 eI (fun _ _=>True):=(rd3).vD
theorem rdB9:gE Tryz.prog 9 eS (fun x n=>x.length ≤ n):=gE.str Tryz.underlying9 (by kernel_rfl)
set_option maxRecDepth 100000 in
theorem rdB31:gE Tryz.prog 31 aC (fun a n=>a.S.length ≤ n):=gE.struct (fun b=>⟨b.1,b.2.1,b.2.2.1⟩) Tryz.underlying31 (.cons rfl rfl rdB3 (.cons rfl rfl rdB3 (.cons rfl rfl rdB9 (.nil (by decide))))) (fun _=>by kernel_rfl) (fun _=>rfl) (fun b n h=>h.2.2.1) (fun a n m h hnm=>Nat.le_trans h hnm)
set_option maxRecDepth 100000 in
theorem table {W:World} (h:laidMetH Tryz.prog Rows.lexerWritesAsSpecifiedUptoRow.laid W) (hsh:W.ShapedOpen Tryz.prog):∃ mx,dz (bd mx) (full W) W:=by
  have h0:laidMet Tryz.prog Rows.lexerWritesAsSpecifiedUptoRow.laid W:=by rw [MakeChecks.laidMetH_plain _ _ _ (by kernel_rfl)] at h; exact h
  have h1:=pS h0
  have h2:=pS h1
  have h3:=pS h2
  obtain ⟨m,hm⟩:=dz.open1 (g:=2) (t:=3) (zero:=#[.int .i64 0]) (k:=.i64) hsh (by decide +kernel) (by kernel_rfl) rfl (by kernel_rfl) (by kernel_rfl) Tryz.underlying3
  refine ⟨m,?_⟩
  unfold bd
  exact hm (dz.consV (name := "skewback/lexer.words") (g:=0) (by kernel_rfl) (by kernel_rfl) (fl88 (d:=0)) h1 (cs:=wi fJ) (by kernel_rfl) (by decide) (dz.consV (name := "skewback/lexer.signs") (g:=1) (by kernel_rfl) (by kernel_rfl) (fl131 (d:=0)) h2 (cs:=wi dr) (by kernel_rfl) (by decide) dz.nil))
set_option maxRecDepth 100000 in
theorem GV (H:Type) (enc:TypeId × Value → H) (W:World) (base:Nat) (args:Array Value) (ds gs:List (DataW H)) (before:List MemPlace)
    (hval:∀ (j:Nat) t v,Tryz.f3.params[j]? = some t → args[j]? = some v → Value.okWide Tryz.prog W .any base t v)
    (hW:DataW.Whole enc Tryz.prog Tryz.f3.params.toList Rows.lexerWritesAsSpecifiedSpec.vars false W args.toList ds gs before) (hL:laidMetH Tryz.prog Rows.lexerWritesAsSpecifiedUptoRow.laid W) (hsh:W.ShapedOpen Tryz.prog) (hk:Rows.uptoSmall H (ds ++ gs) = true) :
    Calls Tryz.prog 3 args W fun e W'=>∃ v,e = .returned v ∧ Rows.lexerWritesAsSpecifiedSpec.post enc Tryz.prog Tryz.f3 false true false false W args v W':=by
  have hW':=hW
  obtain ⟨p,q,hA0,hV,rfl,hfz,hnd⟩:=hW
  have hA:DataW.TrodAll enc Tryz.prog W 0 (fun _=>true) true Tryz.f3.params.toList args.toList ds p:=hA0
  rw [Tryz.params3] at hA hval
  obtain ⟨v0,vs0,d0,ds0,p0,q0,hargs0,rfl,rfl,h0,r0⟩:=trodAll_cons hA
  obtain ⟨hnil,rfl,rfl⟩:=trodAll_nil r0
  subst hnil
  obtain rfl:args = #[v0]:=by cases args; simp_all
  obtain ⟨rfl,rfl⟩:=trodVars_none hV
  obtain ⟨x0,hx0,hb0⟩:=Gl Tryz.underlying22 rdB31 (size:=3) (by kernel_rfl) (by decide) (by kernel_rfl) (hval 0 22 v0 rfl rfl) h0
  obtain ⟨mx,htab⟩:=table hL hsh
  refine law_end (vals:=[v0]) (BM x0 (fun y hy=>by have h1:=(hb0 Rows.uptoBulk bulk_ok).2 y hy; have h2:=Co hk; simp only [List.cons_append,List.nil_append,Rows.uptoBulkAll] at h2; omega)) htab (.cons hx0 .nil) fun W' hk'=>⟨_,rfl,zm kids B0 (of_decide_eq_true (by kernel_rfl)) hW' rfl rfl rfl hk' (fun _ _ _=>trodAll_mk1 (shut_bool Tryz.underlying4 true)) (ok_one (by kernel_rfl) rfl (okWide_bool_mk Tryz.underlying4 _))⟩
noncomputable def uU (os:Os):World:={ World.holding Tryz.prog os ⟨#[],#[],[]⟩ with heap:=(((((World.holding Tryz.prog os ⟨#[],#[],[]⟩).heap.modify 4 fun | .cells _ t fz=>.cells (([128,191,160,191,128,159,144,191,128,143,0,0,0,0,0,0,0,0,0,0,0,0,0,0,0,0,0,0,0,0,0,0]:List Int).map fun z:Int=>Value.int .u8 z).toArray t fz | o=>o).modify 0 fun | .cells _ t fz=>.cells (wi fJ).toArray t fz | o=>o).modify 1 fun | .cells _ t fz=>.cells (wi dr).toArray t fz | o=>o).modify 3 fun | .cells _ t fz=>.cells (Go.Pinned.utf8FirstZ.map fun z:Nat=>Value.int .u8 (z:Int)).toArray t fz | o=>o) }
set_option maxRecDepth 100000 in
theorem GG (os:Os):laidMetH Tryz.prog Rows.lexerWritesAsSpecifiedUptoRow.laid ((uU os).forCall (fun _ _=>0) ⟨#[],#[.slice none 0 0],[]⟩).memory:=by
  rw [MakeChecks.laidMetH_plain _ _ _ (by kernel_rfl)]
  exact laidMet_of_run' 8 (by kernel_rfl) (by kernel_rfl)
set_option maxRecDepth 100000 in
theorem reads (os:Os) {H:Type} (enc:TypeId × Value → H):∃ places,DataW.whole enc Tryz.prog ((uU os).forCall (fun _ _=>0) ⟨#[],#[.slice none 0 0],[]⟩).memory Tryz.f3.params.toList Rows.lexerWritesAsSpecifiedSpec.vars false (#[.slice none 0 0]:Array Value).toList 8 = some ([.nil],[],places):=⟨[],by kernel_rfl⟩
set_option maxRecDepth 100000 in
theorem lifted (os:Os) (started:os.Started) (H:Type) (enc:TypeId × Value → H) (F:Stop.Interp) :
    ReturnsInHanded {} Tryz.checked os 3 .any ((Rows.OpenSpec.upto Rows.lexerWritesAsSpecifiedSpec).preRow enc Tryz.prog Tryz.f3 Rows.lexerWritesAsSpecifiedUptoRow.domain false Rows.lexerWritesAsSpecifiedUptoRow.laid) (((Rows.OpenSpec.upto Rows.lexerWritesAsSpecifiedSpec).at F).post enc Tryz.prog Tryz.f3 false true false false):=by
  obtain ⟨places,hx⟩:=reads os enc
  refine returnsInHanded_of_row (C:=Tryz.checked) (s:=Rows.OpenSpec.upto Rows.lexerWritesAsSpecifiedSpec) own started (by kernel_rfl) Tryz.func3
    (witness_row_at (enc:=enc) (C:=Tryz.checked) false (uU os) #[.slice none 0 0] rfl (by kernel_rfl) (by kernel_rfl) (by kernel_rfl)
      (OpenSpec.preRow_of_cond 8 hx (by kernel_rfl) (fun k hk=>by cases hk; kernel_rfl) (by kernel_rfl) (GG os))) ?_
  intro W base args ds gs before hval hW _ hk _ hL hsh _
  exact GV H enc W base args ds gs before hval hW hL hsh (hk _ rfl)
theorem said:Rows.LexerWritesAsSpecifiedUptoSaid :=
  OpenClaim.holds_of_cond 3 Tryz.f3 rfl rfl rfl rfl rfl rfl rfl ⟨rfl,rfl,rfl,rfl,rfl⟩ rfl rfl rfl rfl rfl (by kernel_rfl) Tryz.func3 (by kernel_rfl)
    (of_decide_eq_true (by kernel_rfl)) (by unfold Func.isWrapper; first | (rw [if_pos (by decide +kernel)]; kernel_rfl) | (rw [if_neg (by decide +kernel)]; exact ⟨rfl,rfl⟩))
    (fun os started H enc _ F=>by rw [OpenClaim.pre_eq_preRow]; exact lifted os started H enc F)
theorem plain (f:FuncId) (fn:Func) (hf:Tryz.pinned.checked.prog.funcNamed "skewback/skewbacklaw28.LexerWritesAsSpecified" = some f) (hfn:Tryz.pinned.checked.prog.funcs[f]? = some fn) :
    true = Tryz.pinned.checked.prog.looks [] ∧ ∀ (j:Nat) t,fn.params[j]? = some t → Tryz.pinned.checked.prog.wantsStandIn t = false:=by
  obtain rfl:f = 3:=Option.some.inj ((show Tryz.prog.funcNamed "skewback/skewbacklaw28.LexerWritesAsSpecified" = some 3 by kernel_rfl).symm.trans hf) |>.symm
  obtain rfl:fn = Tryz.f3:=(Option.some.inj (Tryz.func3.symm.trans hfn)).symm
  refine ⟨by kernel_rfl,fun j t ht=>?_⟩
  rw [Tryz.params3] at ht
  have hm:=Array.mem_of_getElem? ht
  have hor:t = 22:=by simpa using hm
  rcases hor with rfl
  · exact (show Tryz.prog.wantsStandIn 22 = false by kernel_rfl)
end Go.Proofs.YtbcdabflmkgkiaaGreatDoor.ij
namespace Go.Proofs.YtbcdabflmkgkiaaGreatDoor
open Go
/-- THE STATEMENT -/
theorem lexerWritesAsSpecified_proved:Rows.LexerWritesAsSpecifiedUptoCardSaid :=
  Claim7.holds_tied_plain_at .later [] _ _ _ _ ij.said (fun _ h=>by cases h) (by kernel_rfl) (fun _ h=>by cases h) lexerWritesAsSpecifiedUpto_row_tie rfl ⟨rfl,rfl⟩ (by kernel_rfl) rfl ij.plain (by kernel_rfl)
end Go.Proofs.YtbcdabflmkgkiaaGreatDoor
