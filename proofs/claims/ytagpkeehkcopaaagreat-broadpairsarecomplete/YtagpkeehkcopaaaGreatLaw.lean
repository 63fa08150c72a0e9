/- Proved: for every input the law BroadPairsAreComplete returns true, and each argument reads afterwards as before; conditions: none. (From the walk to the statement; printed by a program of the prover, lawgen.py.) -/
import Derived.Test.YtagpkeehkcopaaaGreatP1
import Derived.WalkKit
import Derived.ProofKit
import Derived.OpenShut
import Derived.Deep.DeepHandedRow
namespace Go.Proofs.YtagpkeehkcopaaaGreat.fu
open Go Go.Sk Go.ChangeShapes Go.WideShapes Go.ChangeAt Go.RowKit
set_option linter.unusedVariables false
theorem own:ownKnob Tryz.prog.godebug = none:=by kernel_rfl
theorem kids:Kids Tryz.prog (· < Tryz.prog.types.size):=kids_rows (by kernel_rfl) (by kernel_rfl)
theorem ra:∀ t e,t < Tryz.prog.types.size → Tryz.prog.underlying t = some (.slice e) → 0 < Tryz.prog.cellsOf e:=slices_full_of Tryz.prog (by kernel_rfl)
theorem rd23:dy Tryz.prog 23 (cJ .i64):=dy.arr (g:=A3.of) Tryz.underlying23 Tryz.underlying3 (by kernel_rfl) (by kernel_rfl) (fun _=>rfl) (fun l h=>by unfold cJ; rw [A3.l_of h])
set_option maxRecDepth 100000 in
theorem rd25:dy Tryz.prog 25 ak:=dy.struct (fun b=>⟨b.1,b.2.1⟩) Tryz.underlying25 (.cons rfl rfl rd23 (.cons rfl rfl rd23 (.nil (by decide)))) (fun _=>by kernel_rfl) (fun _=>rfl)
set_option maxRecDepth 100000 in
theorem uo (H:Type) (enc:TypeId × Value → H) (W:World) (base:Nat) (args:Array Value) (ds gs:List (DataW H)) (before:List MemPlace)
    (hval:∀ (j:Nat) t v,Tryz.f5.params[j]? = some t → args[j]? = some v → Value.okWide Tryz.prog W .any base t v)
    (hW:DataW.Whole enc Tryz.prog Tryz.f5.params.toList Rows.broadPairsAreCompleteSpec.vars false W args.toList ds gs before) :
    Calls Tryz.prog 5 args W fun e W'=>∃ v,e = .returned v ∧ Rows.broadPairsAreCompleteSpec.post enc Tryz.prog Tryz.f5 false true false false W args v W':=by
  have hW':=hW
  obtain ⟨p,q,hA0,hV,rfl,hfz,hnd⟩:=hW
  have hA:DataW.TrodAll enc Tryz.prog W 0 (fun _=>true) true Tryz.f5.params.toList args.toList ds p:=hA0
  rw [Tryz.params5] at hA hval
  obtain ⟨v0,vs0,d0,ds0,p0,q0,hargs0,rfl,rfl,h0,r0⟩:=trodAll_cons hA
  obtain ⟨hnil,rfl,rfl⟩:=trodAll_nil r0
  subst hnil
  obtain rfl:args = #[v0]:=by cases args; simp_all
  obtain ⟨rfl,rfl⟩:=trodVars_none hV
  obtain ⟨x0,hx0,hl0⟩:=open_sl Tryz.underlying34 rd25 (size:=6) (by kernel_rfl) (by decide) (hval 0 34 v0 rfl rfl) h0
  refine law_end (vals:=[v0]) (pv x0) cg.nil (.cons hx0 .nil) fun W' hk'=>⟨_,rfl,pn kids ra (of_decide_eq_true (by kernel_rfl)) hW' rfl rfl rfl hk' (fun _ _ _=>trodAll_mk1 (shut_bool Tryz.underlying4 true)) (ok_one (by kernel_rfl) rfl (okWide_bool_mk Tryz.underlying4 _))⟩
set_option maxRecDepth 100000 in
theorem lifted (os:Os) (started:os.Started) (H:Type) (enc:TypeId × Value → H) :
    ReturnsInHanded {} Tryz.checked os 5 .any (Rows.broadPairsAreCompleteSpec.pre6 enc Tryz.prog Tryz.f5 Rows.broadPairsAreCompleteRow.domain false) (Rows.broadPairsAreCompleteSpec.post enc Tryz.prog Tryz.f5 false true false false):=by
  refine returnsInHanded_of_change (C:=Tryz.checked) own started (by kernel_rfl) Tryz.func5
    (ChangeSpec.witness6 (enc:=enc) (C:=Tryz.checked) false ⟨#[],#[.slice none 0 0],[]⟩ 8 (by kernel_rfl) (by kernel_rfl) (by kernel_rfl) (by kernel_rfl)) ?_
  intro W base args ds gs before hval hW _ _
  exact uo H enc W base args ds gs before hval hW
end Go.Proofs.YtagpkeehkcopaaaGreat.fu
namespace Go.Proofs.YtagpkeehkcopaaaGreat
open Go Go.ChangeShapes Go.WideShapes Go.ChangeAt Go.RowKit
/-- THE STATEMENT -/
theorem broadPairsAreComplete_proved:Rows.BroadPairsAreCompleteSaid :=
  OpenClaim.holds_of_wide 5 Tryz.f5 rfl rfl rfl rfl rfl rfl rfl ⟨rfl,rfl,rfl,rfl,rfl⟩ rfl rfl rfl rfl rfl (by kernel_rfl) Tryz.func5 (by kernel_rfl)
    (of_decide_eq_true (by kernel_rfl)) (by unfold Func.isWrapper; first | (rw [if_pos (by decide +kernel)]; kernel_rfl) | (rw [if_neg (by decide +kernel)]; exact ⟨rfl,rfl⟩))
    (fun os started H enc _=>fu.lifted os started H enc)
end Go.Proofs.YtagpkeehkcopaaaGreat
