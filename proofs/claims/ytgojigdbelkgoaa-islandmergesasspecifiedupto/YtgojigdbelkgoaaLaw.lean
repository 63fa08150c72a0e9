/- Proved: for every input the law IslandMergesAsSpecified returns true, and each argument reads afterwards as before; conditions: what the arguments hold is of bulk at most 1048576. (From the walk to the statement; printed by a program of the prover, lawgen.py.) -/
import Derived.Test.YtgojigdbelkgoaaP1
import Derived.WalkKit
import Derived.ProofKit
import Derived.OpenShut
import Derived.Deep.DeepHandedRow
namespace Go.Proofs.Ytgojigdbelkgoaa.eD
open Go Go.Sk Go.ChangeShapes Go.WideShapes Go.ChangeAt Go.RowKit
set_option linter.unusedVariables false
theorem own:ownKnob Try.prog.godebug = none:=by kernel_rfl
theorem kids:Kids Try.prog (· < Try.prog.types.size):=kids_rows (by kernel_rfl) (by kernel_rfl)
theorem oT:∀ t e,t < Try.prog.types.size → Try.prog.underlying t = some (.slice e) → 0 < Try.prog.cellsOf e:=slices_full_of Try.prog (by kernel_rfl)
theorem rd3:dP Try.prog 3 eI:=dP.int Try.underlying3 (by kernel_rfl)
theorem rdB3:dV Try.prog 3 eI (fun _ _=>True):=(rd3).toB
theorem rdB30:dV Try.prog 30 (eL 1 eI) (fun x n=>x.length ≤ n ∧ ∀ a ∈ x,(fun _ _=>True) a n):=dV.sl Try.underlying30 (by kernel_rfl) rdB3 (size:=1) (by kernel_rfl) (by decide)
set_option maxRecDepth 100000 in
theorem rE (H:Type) (enc:TypeId × Value → H) (W:World) (base:Nat) (args:Array Value) (ds gs:List (DataW H)) (before:List MemPlace) (hk:Rows.uptoSmall H (ds ++ gs) = true)
    (hval:∀ (j:Nat) t v,Try.f5.params[j]? = some t → args[j]? = some v → Value.okWide Try.prog W .any base t v)
    (hW:DataW.Whole enc Try.prog Try.f5.params.toList Rows.islandMergesAsSpecifiedSpec.vars false W args.toList ds gs before) :
    Calls Try.prog 5 args W fun e W'=>∃ v,e = .returned v ∧ Rows.islandMergesAsSpecifiedSpec.post enc Try.prog Try.f5 false true false false W args v W':=by
  have hW':=hW
  obtain ⟨p,q,hA0,hV,rfl,hfz,hnd⟩:=hW
  have hA:DataW.TrodAll enc Try.prog W 0 (fun _=>true) true Try.f5.params.toList args.toList ds p:=hA0
  rw [Try.params5] at hA hval
  obtain ⟨v0,vs0,d0,ds0,p0,q0,hargs0,rfl,rfl,h0,r0⟩:=trodAll_cons hA
  obtain ⟨v1,vs1,d1,ds1,p1,q1,hargs1,rfl,rfl,h1,r1⟩:=trodAll_cons r0
  subst hargs1
  obtain ⟨hnil,rfl,rfl⟩:=trodAll_nil r1
  subst hnil
  obtain rfl:args = #[v0,v1]:=by cases args; simp_all
  obtain ⟨rfl,rfl⟩:=trodVars_none hV
  obtain ⟨x0,hx0,hb0⟩:=nY Try.underlying26 rdB30 (size:=1) (by kernel_rfl) (by decide) (by kernel_rfl) (hval 0 26 v0 rfl rfl) h0
  obtain ⟨x1,hx1,hb1⟩:=nY Try.underlying26 rdB30 (size:=1) (by kernel_rfl) (by decide) (by kernel_rfl) (hval 1 26 v1 rfl rfl) h1
  refine law_end (vals:=[v0,v1]) (pb x0 x1 (by have h1:=(hb0 Rows.uptoBulk pQ).1; have h2:=mu hk; simp only [List.cons_append,List.nil_append,Rows.uptoBulkAll] at h2; omega) (by have h1:=(hb1 Rows.uptoBulk pQ).1; have h2:=mu hk; simp only [List.cons_append,List.nil_append,Rows.uptoBulkAll] at h2; omega)) dh.nil (.cons hx0 (.cons hx1 .nil)) fun W' hk'=>⟨_,rfl,nI kids oT (of_decide_eq_true (by kernel_rfl)) hW' rfl rfl rfl hk' (fun _ _ _=>trodAll_mk1 (shut_bool Try.underlying4 true)) (ok_one (by kernel_rfl) rfl (okWide_bool_mk Try.underlying4 _))⟩
set_option maxRecDepth 100000 in
theorem lifted (os:Os) (started:os.Started) (H:Type) (enc:TypeId × Value → H) (F:Stop.Interp) :
    ReturnsInHanded {} Try.checked os 5 .any ((Rows.OpenSpec.upto Rows.islandMergesAsSpecifiedSpec).pre6 enc Try.prog Try.f5 Rows.islandMergesAsSpecifiedUptoRow.domain false) (((Rows.OpenSpec.upto Rows.islandMergesAsSpecifiedSpec).at F).post enc Try.prog Try.f5 false true false false):=by
  refine returnsInHanded_of_cond (C:=Try.checked) (s:=Rows.OpenSpec.upto Rows.islandMergesAsSpecifiedSpec) (k:=Rows.uptoSmall) rfl own started (by kernel_rfl) Try.func5
    (OpenSpec.witness (enc:=enc) (C:=Try.checked) (s:=Rows.OpenSpec.upto Rows.islandMergesAsSpecifiedSpec) (k:=Rows.uptoSmall) rfl false ⟨#[],#[.slice none 0 0,.slice none 0 0],[]⟩ 8 (by kernel_rfl) (by kernel_rfl) (by kernel_rfl)
      (x:=([.nil,.nil],[],[])) (by kernel_rfl) rfl (by kernel_rfl)) ?_
  intro W base args ds gs before hval hW _ hk _
  exact rE H enc W base args ds gs before hk hval hW
end Go.Proofs.Ytgojigdbelkgoaa.eD
namespace Go.Proofs.Ytgojigdbelkgoaa
open Go Go.ChangeShapes Go.WideShapes Go.ChangeAt Go.RowKit
/-- THE STATEMENT -/
theorem islandMergesAsSpecified_proved:Rows.IslandMergesAsSpecifiedUptoSaid :=
  OpenClaim.holds_of_cond 5 Try.f5 rfl rfl rfl rfl rfl rfl rfl ⟨rfl,rfl,rfl,rfl,rfl⟩ rfl rfl rfl rfl rfl (by kernel_rfl) Try.func5 (by kernel_rfl)
    (of_decide_eq_true (by kernel_rfl)) (by unfold Func.isWrapper; first | (rw [if_pos (by decide +kernel)]; kernel_rfl) | (rw [if_neg (by decide +kernel)]; exact ⟨rfl,rfl⟩))
    (fun os started H enc _ F=>eD.lifted os started H enc F)
end Go.Proofs.Ytgojigdbelkgoaa
