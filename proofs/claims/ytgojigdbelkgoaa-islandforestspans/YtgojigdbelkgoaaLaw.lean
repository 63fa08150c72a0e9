/- Proved: for every input the law IslandForestSpans returns true, and each argument reads afterwards as before; conditions: none. (From the walk to the statement; printed by a program of the prover, lawgen.py.) -/
import Derived.Test.YtgojigdbelkgoaaP1
import Derived.WalkKit
import Derived.ProofKit
import Derived.OpenShut
import Derived.Deep.DeepHandedRow
namespace Go.Proofs.Ytgojigdbelkgoaa.iD
open Go Go.Sk Go.ChangeShapes Go.WideShapes Go.ChangeAt Go.RowKit
set_option linter.unusedVariables false
theorem own:ownKnob Try.prog.godebug = none:=by kernel_rfl
theorem kids:Kids Try.prog (· < Try.prog.types.size):=kids_rows (by kernel_rfl) (by kernel_rfl)
theorem qR:∀ t e,t < Try.prog.types.size → Try.prog.underlying t = some (.slice e) → 0 < Try.prog.cellsOf e:=slices_full_of Try.prog (by kernel_rfl)
theorem rd4:dQ Try.prog 4 eB:=dQ.bool Try.underlying4 (by kernel_rfl)
theorem rd44:dQ Try.prog 44 (cy .i64):=dQ.arr (g:=A2.of) Try.underlying44 Try.underlying3 (by kernel_rfl) (by kernel_rfl) (fun _=>rfl) (fun l h=>by unfold cy; rw [A2.l_of h])
set_option maxRecDepth 100000 in
theorem tU (H:Type) (enc:TypeId × Value → H) (W:World) (base:Nat) (args:Array Value) (ds gs:List (DataW H)) (before:List MemPlace)
    (hval:∀ (j:Nat) t v,Try.f8.params[j]? = some t → args[j]? = some v → Value.okWide Try.prog W .any base t v)
    (hW:DataW.Whole enc Try.prog Try.f8.params.toList Rows.islandForestSpansSpec.vars false W args.toList ds gs before) :
    Calls Try.prog 8 args W fun e W'=>∃ v,e = .returned v ∧ Rows.islandForestSpansSpec.post enc Try.prog Try.f8 false true false false W args v W':=by
  have hW':=hW
  obtain ⟨p,q,hA0,hV,rfl,hfz,hnd⟩:=hW
  have hA:DataW.TrodAll enc Try.prog W 0 (fun _=>true) true Try.f8.params.toList args.toList ds p:=hA0
  rw [Try.params8] at hA hval
  obtain ⟨v0,vs0,d0,ds0,p0,q0,hargs0,rfl,rfl,h0,r0⟩:=trodAll_cons hA
  obtain ⟨v1,vs1,d1,ds1,p1,q1,hargs1,rfl,rfl,h1,r1⟩:=trodAll_cons r0
  subst hargs1
  obtain ⟨hnil,rfl,rfl⟩:=trodAll_nil r1
  subst hnil
  obtain rfl:args = #[v0,v1]:=by cases args; simp_all
  obtain ⟨rfl,rfl⟩:=trodVars_none hV
  obtain ⟨x0,hx0,hl0⟩:=rz Try.underlying22 rd4 (size:=1) (by kernel_rfl) (by decide) (hval 0 22 v0 rfl rfl) h0
  obtain ⟨x1,hx1,hl1⟩:=rz Try.underlying23 rd44 (size:=2) (by kernel_rfl) (by decide) (hval 1 23 v1 rfl rfl) h1
  refine law_end (vals:=[v0,v1]) (rU x0 x1) dR.nil (.cons hx0 (.cons hx1 .nil)) fun W' hk'=>⟨_,rfl,pC kids qR (of_decide_eq_true (by kernel_rfl)) hW' rfl rfl rfl hk' (fun _ _ _=>trodAll_mk1 (shut_bool Try.underlying4 true)) (ok_one (by kernel_rfl) rfl (okWide_bool_mk Try.underlying4 _))⟩
set_option maxRecDepth 100000 in
theorem lifted (os:Os) (started:os.Started) (H:Type) (enc:TypeId × Value → H) :
    ReturnsInHanded {} Try.checked os 8 .any (Rows.islandForestSpansSpec.pre6 enc Try.prog Try.f8 Rows.islandForestSpansRow.domain false) (Rows.islandForestSpansSpec.post enc Try.prog Try.f8 false true false false):=by
  refine returnsInHanded_of_change (C:=Try.checked) own started (by kernel_rfl) Try.func8
    (ChangeSpec.witness6 (enc:=enc) (C:=Try.checked) false ⟨#[],#[.slice none 0 0,.slice none 0 0],[]⟩ 8 (by kernel_rfl) (by kernel_rfl) (by kernel_rfl) (by kernel_rfl)) ?_
  intro W base args ds gs before hval hW _ _
  exact tU H enc W base args ds gs before hval hW
end Go.Proofs.Ytgojigdbelkgoaa.iD
namespace Go.Proofs.Ytgojigdbelkgoaa
open Go Go.ChangeShapes Go.WideShapes Go.ChangeAt Go.RowKit
/-- THE STATEMENT -/
theorem islandForestSpans_proved:Rows.IslandForestSpansSaid :=
  OpenClaim.holds_of_wide 8 Try.f8 rfl rfl rfl rfl rfl rfl rfl ⟨rfl,rfl,rfl,rfl,rfl⟩ rfl rfl rfl rfl rfl (by kernel_rfl) Try.func8 (by kernel_rfl)
    (of_decide_eq_true (by kernel_rfl)) (by unfold Func.isWrapper; first | (rw [if_pos (by decide +kernel)]; kernel_rfl) | (rw [if_neg (by decide +kernel)]; exact ⟨rfl,rfl⟩))
    (fun os started H enc _=>iD.lifted os started H enc)
end Go.Proofs.Ytgojigdbelkgoaa
