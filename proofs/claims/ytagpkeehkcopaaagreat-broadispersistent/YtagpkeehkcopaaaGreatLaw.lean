/- Proved: for every input the law BroadIsPersistent returns true, and each argument reads afterwards as before; conditions: none. (From the walk to the statement; printed by a program of the prover, lawgen.py.) -/
import Derived.Test.YtagpkeehkcopaaaGreatP1
import Derived.WalkKit
import Derived.ProofKit
import Derived.OpenShut
import Derived.Deep.DeepHandedRow
namespace Go.Proofs.YtagpkeehkcopaaaGreat.jl
open Go Go.Sk Go.ChangeShapes Go.WideShapes Go.ChangeAt Go.RowKit
set_option linter.unusedVariables false
theorem own:ownKnob Tryz.prog.godebug = none:=by kernel_rfl
theorem kids:Kids Tryz.prog (· < Tryz.prog.types.size):=kids_rows (by kernel_rfl) (by kernel_rfl)
theorem tt:∀ t e,t < Tryz.prog.types.size → Tryz.prog.underlying t = some (.slice e) → 0 < Tryz.prog.cellsOf e:=slices_full_of Tryz.prog (by kernel_rfl)
theorem rd3:dt Tryz.prog 3 eI:=dt.int Tryz.underlying3 (by kernel_rfl)
theorem rd23:dt Tryz.prog 23 (c3 .i64):=dt.arr (g:=A3.of) Tryz.underlying23 Tryz.underlying3 (by kernel_rfl) (by kernel_rfl) (fun _=>rfl) (fun l h=>by unfold c3; rw [A3.l_of h])
set_option maxRecDepth 100000 in
theorem rd25:dt Tryz.prog 25 ao:=dt.struct (fun b=>⟨b.1,b.2.1⟩) Tryz.underlying25 (.cons rfl rfl rd23 (.cons rfl rfl rd23 (.nil (by decide)))) (fun _=>by kernel_rfl) (fun _=>rfl)
set_option maxRecDepth 100000 in
theorem rd55:dt Tryz.prog 55 bd:=dt.struct (fun b=>⟨b.1,b.2.1,b.2.2.1⟩) Tryz.underlying55 (.cons rfl rfl rd3 (.cons rfl rfl rd3 (.cons rfl rfl rd25 (.nil (by decide))))) (fun _=>by kernel_rfl) (fun _=>rfl)
set_option maxRecDepth 100000 in
theorem wI (H:Type) (enc:TypeId × Value → H) (W:World) (base:Nat) (args:Array Value) (ds gs:List (DataW H)) (before:List MemPlace)
    (hval:∀ (j:Nat) t v,Tryz.f10.params[j]? = some t → args[j]? = some v → Value.okWide Tryz.prog W .any base t v)
    (hW:DataW.Whole enc Tryz.prog Tryz.f10.params.toList Rows.broadIsPersistentSpec.vars false W args.toList ds gs before) :
    Calls Tryz.prog 10 args W fun e W'=>∃ v,e = .returned v ∧ Rows.broadIsPersistentSpec.post enc Tryz.prog Tryz.f10 false true false false W args v W':=by
  have hW':=hW
  obtain ⟨p,q,hA0,hV,rfl,hfz,hnd⟩:=hW
  have hA:DataW.TrodAll enc Tryz.prog W 0 (fun _=>true) true Tryz.f10.params.toList args.toList ds p:=hA0
  rw [Tryz.params10] at hA hval
  obtain ⟨v0,vs0,d0,ds0,p0,q0,hargs0,rfl,rfl,h0,r0⟩:=trodAll_cons hA
  obtain ⟨v1,vs1,d1,ds1,p1,q1,hargs1,rfl,rfl,h1,r1⟩:=trodAll_cons r0
  subst hargs1
  obtain ⟨v2,vs2,d2,ds2,p2,q2,hargs2,rfl,rfl,h2,r2⟩:=trodAll_cons r1
  subst hargs2
  obtain ⟨v3,vs3,d3,ds3,p3,q3,hargs3,rfl,rfl,h3,r3⟩:=trodAll_cons r2
  subst hargs3
  obtain ⟨hnil,rfl,rfl⟩:=trodAll_nil r3
  subst hnil
  obtain rfl:args = #[v0,v1,v2,v3]:=by cases args; simp_all
  obtain ⟨rfl,rfl⟩:=trodVars_none hV
  obtain ⟨x0,hx0,hl0⟩:=qX Tryz.underlying41 rd55 (size:=8) (by kernel_rfl) (by decide) (hval 0 41 v0 rfl rfl) h0
  obtain ⟨x1,hx1,hl1⟩:=qX Tryz.underlying41 rd55 (size:=8) (by kernel_rfl) (by decide) (hval 1 41 v1 rfl rfl) h1
  obtain ⟨x2,hx2,hl2⟩:=qX Tryz.underlying41 rd55 (size:=8) (by kernel_rfl) (by decide) (hval 2 41 v2 rfl rfl) h2
  obtain ⟨x3,hx3⟩:=uK Tryz.underlying25 rd25 (hval 3 25 v3 rfl rfl) h3
  refine law_end (vals:=[v0,v1,v2,v3]) (sn x0 x1 x2 x3) cZ.nil (.cons hx0 (.cons hx1 (.cons hx2 (.cons hx3 .nil)))) fun W' hk'=>⟨_,rfl,re kids tt (of_decide_eq_true (by kernel_rfl)) hW' rfl rfl rfl hk' (fun _ _ _=>trodAll_mk1 (shut_bool Tryz.underlying4 true)) (ok_one (by kernel_rfl) rfl (okWide_bool_mk Tryz.underlying4 _))⟩
set_option maxRecDepth 100000 in
theorem lifted (os:Os) (started:os.Started) (H:Type) (enc:TypeId × Value → H) :
    ReturnsInHanded {} Tryz.checked os 10 .any (Rows.broadIsPersistentSpec.pre6 enc Tryz.prog Tryz.f10 Rows.broadIsPersistentRow.domain false) (Rows.broadIsPersistentSpec.post enc Tryz.prog Tryz.f10 false true false false):=by
  refine returnsInHanded_of_change (C:=Tryz.checked) own started (by kernel_rfl) Tryz.func10
    (ChangeSpec.witness6 (enc:=enc) (C:=Tryz.checked) false ⟨#[],#[.slice none 0 0,.slice none 0 0,.slice none 0 0,.agg #[.int .i64 0,.int .i64 0,.int .i64 0,.int .i64 0,.int .i64 0,.int .i64 0]],[]⟩ 8 (by kernel_rfl) (by kernel_rfl) (by kernel_rfl) (by kernel_rfl)) ?_
  intro W base args ds gs before hval hW _ _
  exact wI H enc W base args ds gs before hval hW
end Go.Proofs.YtagpkeehkcopaaaGreat.jl
namespace Go.Proofs.YtagpkeehkcopaaaGreat
open Go Go.ChangeShapes Go.WideShapes Go.ChangeAt Go.RowKit
/-- THE STATEMENT -/
theorem broadIsPersistent_proved:Rows.BroadIsPersistentSaid :=
  OpenClaim.holds_of_wide 10 Tryz.f10 rfl rfl rfl rfl rfl rfl rfl ⟨rfl,rfl,rfl,rfl,rfl⟩ rfl rfl rfl rfl rfl (by kernel_rfl) Tryz.func10 (by kernel_rfl)
    (of_decide_eq_true (by kernel_rfl)) (by unfold Func.isWrapper; first | (rw [if_pos (by decide +kernel)]; kernel_rfl) | (rw [if_neg (by decide +kernel)]; exact ⟨rfl,rfl⟩))
    (fun os started H enc _=>jl.lifted os started H enc)
end Go.Proofs.YtagpkeehkcopaaaGreat
