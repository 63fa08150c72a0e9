/- Proved: for every input the law IslandsMeetInParts returns true, and each argument reads afterwards as before; conditions: none. (From the walk to the statement; printed by a program of the prover, lawgen.py.) -/
import Derived.Test.YtgojigdbelkgoaaP1
import Derived.WalkKit
import Derived.ProofKit
import Derived.OpenShut
import Derived.Deep.DeepHandedRow
namespace Go.Proofs.Ytgojigdbelkgoaa.gE
open Go Go.Sk Go.ChangeShapes Go.WideShapes Go.ChangeAt Go.RowKit
set_option linter.unusedVariables false
theorem own:ownKnob Try.prog.godebug = none:=by kernel_rfl
theorem kids:Kids Try.prog (· < Try.prog.types.size):=kids_rows (by kernel_rfl) (by kernel_rfl)
theorem pA:∀ t e,t < Try.prog.types.size → Try.prog.underlying t = some (.slice e) → 0 < Try.prog.cellsOf e:=slices_full_of Try.prog (by kernel_rfl)
theorem rd4:dn Try.prog 4 eB:=dn.bool Try.underlying4 (by kernel_rfl)
theorem rd44:dn Try.prog 44 (ah .i64):=dn.arr (g:=A2.of) Try.underlying44 Try.underlying3 (by kernel_rfl) (by kernel_rfl) (fun _=>rfl) (fun l h=>by unfold ah; rw [A2.l_of h])
theorem rd5:dn Try.prog 5 (eK .u8):=dn.int Try.underlying5 (by kernel_rfl)
set_option maxRecDepth 100000 in
theorem sj (H:Type) (enc:TypeId × Value → H) (W:World) (base:Nat) (args:Array Value) (ds gs:List (DataW H)) (before:List MemPlace)
    (hval:∀ (j:Nat) t v,Try.f7.params[j]? = some t → args[j]? = some v → Value.okWide Try.prog W .any base t v)
    (hW:DataW.Whole enc Try.prog Try.f7.params.toList Rows.islandsMeetInPartsSpec.vars false W args.toList ds gs before) :
    Calls Try.prog 7 args W fun e W'=>∃ v,e = .returned v ∧ Rows.islandsMeetInPartsSpec.post enc Try.prog Try.f7 false true false false W args v W':=by
  have hW':=hW
  obtain ⟨p,q,hA0,hV,rfl,hfz,hnd⟩:=hW
  have hA:DataW.TrodAll enc Try.prog W 0 (fun _=>true) true Try.f7.params.toList args.toList ds p:=hA0
  rw [Try.params7] at hA hval
  obtain ⟨v0,vs0,d0,ds0,p0,q0,hargs0,rfl,rfl,h0,r0⟩:=trodAll_cons hA
  obtain ⟨v1,vs1,d1,ds1,p1,q1,hargs1,rfl,rfl,h1,r1⟩:=trodAll_cons r0
  subst hargs1
  obtain ⟨v2,vs2,d2,ds2,p2,q2,hargs2,rfl,rfl,h2,r2⟩:=trodAll_cons r1
  subst hargs2
  obtain ⟨hnil,rfl,rfl⟩:=trodAll_nil r2
  subst hnil
  obtain rfl:args = #[v0,v1,v2]:=by cases args; simp_all
  obtain ⟨rfl,rfl⟩:=trodVars_none hV
  obtain ⟨x0,hx0,hl0⟩:=nP Try.underlying22 rd4 (size:=1) (by kernel_rfl) (by decide) (hval 0 22 v0 rfl rfl) h0
  obtain ⟨x1,hx1,hl1⟩:=nP Try.underlying23 rd44 (size:=2) (by kernel_rfl) (by decide) (hval 1 23 v1 rfl rfl) h1
  obtain ⟨x2,hx2,hl2⟩:=nP Try.underlying45 rd5 (size:=1) (by kernel_rfl) (by decide) (hval 2 45 v2 rfl rfl) h2
  refine law_end (vals:=[v0,v1,v2]) (qu x0 x1 x2 (fun y hy=>sm hx2 hy)) dC.nil (.cons hx0 (.cons hx1 (.cons hx2 .nil))) fun W' hk'=>⟨_,rfl,n6 kids pA (of_decide_eq_true (by kernel_rfl)) hW' rfl rfl rfl hk' (fun _ _ _=>trodAll_mk1 (shut_bool Try.underlying4 true)) (ok_one (by kernel_rfl) rfl (okWide_bool_mk Try.underlying4 _))⟩
set_option maxRecDepth 100000 in
theorem lifted (os:Os) (started:os.Started) (H:Type) (enc:TypeId × Value → H) :
    ReturnsInHanded {} Try.checked os 7 .any (Rows.islandsMeetInPartsSpec.pre6 enc Try.prog Try.f7 Rows.islandsMeetInPartsRow.domain false) (Rows.islandsMeetInPartsSpec.post enc Try.prog Try.f7 false true false false):=by
  refine returnsInHanded_of_change (C:=Try.checked) own started (by kernel_rfl) Try.func7
    (ChangeSpec.witness6 (enc:=enc) (C:=Try.checked) false ⟨#[],#[.slice none 0 0,.slice none 0 0,.slice none 0 0],[]⟩ 8 (by kernel_rfl) (by kernel_rfl) (by kernel_rfl) (by kernel_rfl)) ?_
  intro W base args ds gs before hval hW _ _
  exact sj H enc W base args ds gs before hval hW
end Go.Proofs.Ytgojigdbelkgoaa.gE
namespace Go.Proofs.Ytgojigdbelkgoaa
open Go Go.ChangeShapes Go.WideShapes Go.ChangeAt Go.RowKit
/-- THE STATEMENT -/
theorem islandsMeetInParts_proved:Rows.IslandsMeetInPartsSaid :=
  OpenClaim.holds_of_wide 7 Try.f7 rfl rfl rfl rfl rfl rfl rfl ⟨rfl,rfl,rfl,rfl,rfl⟩ rfl rfl rfl rfl rfl (by kernel_rfl) Try.func7 (by kernel_rfl)
    (of_decide_eq_true (by kernel_rfl)) (by unfold Func.isWrapper; first | (rw [if_pos (by decide +kernel)]; kernel_rfl) | (rw [if_neg (by decide +kernel)]; exact ⟨rfl,rfl⟩))
    (fun os started H enc _=>gE.lifted os started H enc)
end Go.Proofs.Ytgojigdbelkgoaa
