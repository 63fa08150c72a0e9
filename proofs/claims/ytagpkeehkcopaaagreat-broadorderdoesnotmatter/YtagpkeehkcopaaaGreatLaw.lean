/- Proved: for every input the law BroadOrderDoesNotMatter returns true, and each argument reads afterwards as before; conditions: none. (From the walk to the statement; printed by a program of the prover, lawgen.py.) -/
import Derived.Test.YtagpkeehkcopaaaGreatP1
import Derived.WalkKit
import Derived.ProofKit
import Derived.OpenShut
import Derived.Deep.DeepHandedRow
namespace Go.Proofs.YtagpkeehkcopaaaGreat.fi
open Go Go.Sk Go.ChangeShapes Go.WideShapes Go.ChangeAt Go.RowKit
set_option linter.unusedVariables false
theorem own:ownKnob Tryz.prog.godebug = none:=by kernel_rfl
theorem kids:Kids Tryz.prog (· < Tryz.prog.types.size):=kids_rows (by kernel_rfl) (by kernel_rfl)
theorem rJ:∀ t e,t < Tryz.prog.types.size → Tryz.prog.underlying t = some (.slice e) → 0 < Tryz.prog.cellsOf e:=slices_full_of Tryz.prog (by kernel_rfl)
theorem rd23:dt Tryz.prog 23 (cS .i64):=dt.arr (g:=A3.of) Tryz.underlying23 Tryz.underlying3 (by kernel_rfl) (by kernel_rfl) (fun _=>rfl) (fun l h=>by unfold cS; rw [A3.l_of h])
set_option maxRecDepth 100000 in
theorem rd25:dt Tryz.prog 25 aj:=dt.struct (fun b=>⟨b.1,b.2.1⟩) Tryz.underlying25 (.cons rfl rfl rd23 (.cons rfl rfl rd23 (.nil (by decide)))) (fun _=>by kernel_rfl) (fun _=>rfl)
set_option maxRecDepth 100000 in
theorem uO (H:Type) (enc:TypeId × Value → H) (W:World) (base:Nat) (args:Array Value) (ds gs:List (DataW H)) (before:List MemPlace)
    (hval:∀ (j:Nat) t v,Tryz.f8.params[j]? = some t → args[j]? = some v → Value.okWide Tryz.prog W .any base t v)
    (hW:DataW.Whole enc Tryz.prog Tryz.f8.params.toList Rows.broadOrderDoesNotMatterSpec.vars false W args.toList ds gs before) :
    Calls Tryz.prog 8 args W fun e W'=>∃ v,e = .returned v ∧ Rows.broadOrderDoesNotMatterSpec.post enc Tryz.prog Tryz.f8 false true false false W args v W':=by
  have hW':=hW
  obtain ⟨p,q,hA0,hV,rfl,hfz,hnd⟩:=hW
  have hA:DataW.TrodAll enc Tryz.prog W 0 (fun _=>true) true Tryz.f8.params.toList args.toList ds p:=hA0
  rw [Tryz.params8] at hA hval
  obtain ⟨v0,vs0,d0,ds0,p0,q0,hargs0,rfl,rfl,h0,r0⟩:=trodAll_cons hA
  obtain ⟨v1,vs1,d1,ds1,p1,q1,hargs1,rfl,rfl,h1,r1⟩:=trodAll_cons r0
  subst hargs1
  obtain ⟨v2,vs2,d2,ds2,p2,q2,hargs2,rfl,rfl,h2,r2⟩:=trodAll_cons r1
  subst hargs2
  obtain ⟨hnil,rfl,rfl⟩:=trodAll_nil r2
  subst hnil
  obtain rfl:args = #[v0,v1,v2]:=by cases args; simp_all
  obtain ⟨rfl,rfl⟩:=trodVars_none hV
  obtain ⟨x0,hx0,hl0⟩:=su Tryz.underlying34 rd25 (size:=6) (by kernel_rfl) (by decide) (hval 0 34 v0 rfl rfl) h0
  obtain ⟨x1,hx1,hl1⟩:=su Tryz.underlying34 rd25 (size:=6) (by kernel_rfl) (by decide) (hval 1 34 v1 rfl rfl) h1
  obtain ⟨x2,hx2⟩:=sX Tryz.underlying25 rd25 (hval 2 25 v2 rfl rfl) h2
  refine law_end (vals:=[v0,v1,v2]) (sW x0 x1 x2) cB.nil (.cons hx0 (.cons hx1 (.cons hx2 .nil))) fun W' hk'=>⟨_,rfl,pU kids rJ (of_decide_eq_true (by kernel_rfl)) hW' rfl rfl rfl hk' (fun _ _ _=>trodAll_mk1 (shut_bool Tryz.underlying4 true)) (ok_one (by kernel_rfl) rfl (okWide_bool_mk Tryz.underlying4 _))⟩
set_option maxRecDepth 100000 in
theorem lifted (os:Os) (started:os.Started) (H:Type) (enc:TypeId × Value → H) :
    ReturnsInHanded {} Tryz.checked os 8 .any (Rows.broadOrderDoesNotMatterSpec.pre6 enc Tryz.prog Tryz.f8 Rows.broadOrderDoesNotMatterRow.domain false) (Rows.broadOrderDoesNotMatterSpec.post enc Tryz.prog Tryz.f8 false true false false):=by
  refine returnsInHanded_of_change (C:=Tryz.checked) own started (by kernel_rfl) Tryz.func8
    (ChangeSpec.witness6 (enc:=enc) (C:=Tryz.checked) false ⟨#[],#[.slice none 0 0,.slice none 0 0,.agg #[.int .i64 0,.int .i64 0,.int .i64 0,.int .i64 0,.int .i64 0,.int .i64 0]],[]⟩ 8 (by kernel_rfl) (by kernel_rfl) (by kernel_rfl) (by kernel_rfl)) ?_
  intro W base args ds gs before hval hW _ _
  exact uO H enc W base args ds gs before hval hW
end Go.Proofs.YtagpkeehkcopaaaGreat.fi
namespace Go.Proofs.YtagpkeehkcopaaaGreat
open Go Go.ChangeShapes Go.WideShapes Go.ChangeAt Go.RowKit
/-- THE STATEMENT -/
theorem broadOrderDoesNotMatter_proved:Rows.BroadOrderDoesNotMatterSaid :=
  OpenClaim.holds_of_wide 8 Tryz.f8 rfl rfl rfl rfl rfl rfl rfl ⟨rfl,rfl,rfl,rfl,rfl⟩ rfl rfl rfl rfl rfl (by kernel_rfl) Tryz.func8 (by kernel_rfl)
    (of_decide_eq_true (by kernel_rfl)) (by unfold Func.isWrapper; first | (rw [if_pos (by decide +kernel)]; kernel_rfl) | (rw [if_neg (by decide +kernel)]; exact ⟨rfl,rfl⟩))
    (fun os started H enc _=>fi.lifted os started H enc)
end Go.Proofs.YtagpkeehkcopaaaGreat
