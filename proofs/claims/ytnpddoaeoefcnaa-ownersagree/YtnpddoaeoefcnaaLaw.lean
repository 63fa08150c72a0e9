/- Proved: for every input the law OwnersAgree returns true, and each argument reads afterwards as before; conditions: none. (From the walk to the statement; printed by a program of the prover, lawgen.py.) -/
import Derived.Test.YtnpddoaeoefcnaaP1
import Derived.WalkKit
import Derived.ProofKit
import Derived.OpenShut
import Derived.Deep.DeepHandedRow
namespace Go.Proofs.Ytnpddoaeoefcnaa.pY
open Go Go.Sk Go.ChangeShapes Go.WideShapes Go.ChangeAt Go.RowKit
set_option linter.unusedVariables false
theorem own:ownKnob Try.prog.godebug = none:=by kernel_rfl
theorem kids:Kids Try.prog (· < Try.prog.types.size):=kids_rows (by kernel_rfl) (by kernel_rfl)
theorem uW:∀ t e,t < Try.prog.types.size → Try.prog.underlying t = some (.slice e) → 0 < Try.prog.cellsOf e:=slices_full_of Try.prog (by kernel_rfl)
theorem rd3:eu Try.prog 3 eI:=eu.int Try.underlying3 (by kernel_rfl)
theorem rd22:eu Try.prog 22 (eL 1 eI):=eu.sl Try.underlying22 (by kernel_rfl) rd3 (size:=1) (by kernel_rfl) (by decide)
theorem rd23:eu Try.prog 23 (eL 1 (eL 1 eI)):=eu.sl Try.underlying23 (by kernel_rfl) rd22 (size:=1) (by kernel_rfl) (by decide)
theorem rd5:eu Try.prog 5 (eK .u8):=eu.int Try.underlying5 (by kernel_rfl)
set_option maxRecDepth 100000 in
theorem yy (H:Type) (enc:TypeId × Value → H) (W:World) (base:Nat) (args:Array Value) (ds gs:List (DataW H)) (before:List MemPlace)
    (hval:∀ (j:Nat) t v,Try.f5.params[j]? = some t → args[j]? = some v → Value.okWide Try.prog W .any base t v)
    (hW:DataW.Whole enc Try.prog Try.f5.params.toList Rows.ownersAgreeSpec.vars false W args.toList ds gs before) :
    Calls Try.prog 5 args W fun e W'=>∃ v,e = .returned v ∧ Rows.ownersAgreeSpec.post enc Try.prog Try.f5 false true false false W args v W':=by
  have hW':=hW
  obtain ⟨p,q,hA0,hV,rfl,hfz,hnd⟩:=hW
  have hA:DataW.TrodAll enc Try.prog W 0 (fun _=>true) true Try.f5.params.toList args.toList ds p:=hA0
  rw [Try.params5] at hA hval
  obtain ⟨v0,vs0,d0,ds0,p0,q0,hargs0,rfl,rfl,h0,r0⟩:=trodAll_cons hA
  obtain ⟨v1,vs1,d1,ds1,p1,q1,hargs1,rfl,rfl,h1,r1⟩:=trodAll_cons r0
  subst hargs1
  obtain ⟨v2,vs2,d2,ds2,p2,q2,hargs2,rfl,rfl,h2,r2⟩:=trodAll_cons r1
  subst hargs2
  obtain ⟨v3,vs3,d3,ds3,p3,q3,hargs3,rfl,rfl,h3,r3⟩:=trodAll_cons r2
  subst hargs3
  obtain ⟨hnil,rfl,rfl⟩:=trodAll_nil r3
  subst hnil
  obtain rfl:args = #[v0,v1,v2,v3]:=by cases args; simp_all
  obtain ⟨rfl,rfl⟩:=trodVars_none hV
  obtain ⟨x0,hx0⟩:=wC Try.underlying3 (hval 0 3 v0 rfl rfl)
  obtain ⟨x1,hx1,hl1⟩:=sH Try.underlying22 rd3 (size:=1) (by kernel_rfl) (by decide) (hval 1 22 v1 rfl rfl) h1
  obtain ⟨x2,hx2,hl2⟩:=sH Try.underlying60 rd23 (size:=1) (by kernel_rfl) (by decide) (hval 2 60 v2 rfl rfl) h2
  obtain ⟨x3,hx3,hl3⟩:=sH Try.underlying61 rd5 (size:=1) (by kernel_rfl) (by decide) (hval 3 61 v3 rfl rfl) h3
  refine law_end (vals:=[v0,v1,v2,v3]) (w9 x0 x1 x2 x3 (fun y hy=>wS hx2 hy) (fun y hy=>yz hx3 hy)) fb.nil (.cons hx0 (.cons hx1 (.cons hx2 (.cons hx3 .nil)))) fun W' hk'=>⟨_,rfl,sX kids uW (of_decide_eq_true (by kernel_rfl)) hW' rfl rfl rfl hk' (fun _ _ _=>trodAll_mk1 (shut_bool Try.underlying4 true)) (ok_one (by kernel_rfl) rfl (okWide_bool_mk Try.underlying4 _))⟩
set_option maxRecDepth 100000 in
theorem lifted (os:Os) (started:os.Started) (H:Type) (enc:TypeId × Value → H) :
    ReturnsInHanded {} Try.checked os 5 .any (Rows.ownersAgreeSpec.pre6 enc Try.prog Try.f5 Rows.ownersAgreeRow.domain false) (Rows.ownersAgreeSpec.post enc Try.prog Try.f5 false true false false):=by
  refine returnsInHanded_of_change (C:=Try.checked) own started (by kernel_rfl) Try.func5
    (ChangeSpec.witness6 (enc:=enc) (C:=Try.checked) false ⟨#[],#[.int .i64 0,.slice none 0 0,.slice none 0 0,.slice none 0 0],[]⟩ 8 (by kernel_rfl) (by kernel_rfl) (by kernel_rfl) (by kernel_rfl)) ?_
  intro W base args ds gs before hval hW _ _
  exact yy H enc W base args ds gs before hval hW
end Go.Proofs.Ytnpddoaeoefcnaa.pY
namespace Go.Proofs.Ytnpddoaeoefcnaa
open Go Go.ChangeShapes Go.WideShapes Go.ChangeAt Go.RowKit
/-- THE STATEMENT -/
theorem ownersAgree_proved:Rows.OwnersAgreeSaid :=
  OpenClaim.holds_of_wide 5 Try.f5 rfl rfl rfl rfl rfl rfl rfl ⟨rfl,rfl,rfl,rfl,rfl⟩ rfl rfl rfl rfl rfl (by kernel_rfl) Try.func5 (by kernel_rfl)
    (of_decide_eq_true (by kernel_rfl)) (by unfold Func.isWrapper; first | (rw [if_pos (by decide +kernel)]; kernel_rfl) | (rw [if_neg (by decide +kernel)]; exact ⟨rfl,rfl⟩))
    (fun os started H enc _=>pY.lifted os started H enc)
end Go.Proofs.Ytnpddoaeoefcnaa
