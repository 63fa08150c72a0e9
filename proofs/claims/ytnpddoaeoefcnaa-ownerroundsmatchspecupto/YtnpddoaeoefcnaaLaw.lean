/- Proved: for every input the law OwnerRoundsMatchSpec returns true, and each argument reads afterwards as before; conditions: what the arguments hold is of bulk at most 1048576. (From the walk to the statement; printed by a program of the prover, lawgen.py.) -/
import Derived.Test.YtnpddoaeoefcnaaP1
import Derived.WalkKit
import Derived.ProofKit
import Derived.OpenShut
import Derived.Deep.DeepHandedRow
namespace Go.Proofs.Ytnpddoaeoefcnaa.kq
open Go Go.Sk Go.ChangeShapes Go.WideShapes Go.ChangeAt Go.RowKit
set_option linter.unusedVariables false
theorem own:ownKnob Try.prog.godebug = none:=by kernel_rfl
theorem kids:Kids Try.prog (· < Try.prog.types.size):=kids_rows (by kernel_rfl) (by kernel_rfl)
theorem vq:∀ t e,t < Try.prog.types.size → Try.prog.underlying t = some (.slice e) → 0 < Try.prog.cellsOf e:=slices_full_of Try.prog (by kernel_rfl)
theorem rd3:fw Try.prog 3 eI:=fw.int Try.underlying3 (by kernel_rfl)
theorem rd22:fw Try.prog 22 (eL 1 eI):=fw.sl Try.underlying22 (by kernel_rfl) rd3 (size:=1) (by kernel_rfl) (by decide)
theorem rd9:fw Try.prog 9 eS:=fw.str Try.underlying9 (by kernel_rfl)
theorem wM:eC Try.prog 3 eI (fun _ _=>True):=(rd3).toB
theorem rdB22:eC Try.prog 22 (eL 1 eI) (fun x n=>x.length ≤ n ∧ ∀ a ∈ x,(fun _ _=>True) a n):=eC.sl Try.underlying22 (by kernel_rfl) wM (size:=1) (by kernel_rfl) (by decide)
theorem rdB23:eC Try.prog 23 (eL 1 (eL 1 eI)) (fun x n=>x.length ≤ n ∧ ∀ a ∈ x,(fun x n=>x.length ≤ n ∧ ∀ a ∈ x,(fun _ _=>True) a n) a n):=eC.sl Try.underlying23 (by kernel_rfl) rdB22 (size:=1) (by kernel_rfl) (by decide)
theorem rdB9:eC Try.prog 9 eS (fun _ _=>True):=(rd9).toB
theorem rdB24:eC Try.prog 24 (eL 1 eS) (fun x n=>x.length ≤ n ∧ ∀ a ∈ x,(fun _ _=>True) a n):=eC.sl Try.underlying24 (by kernel_rfl) rdB9 (size:=1) (by kernel_rfl) (by decide)
set_option maxRecDepth 100000 in
theorem rdB42:eC Try.prog 42 ah (fun a n=>a.States.length ≤ n):=eC.struct (fun b=>⟨b.1,b.2.1,b.2.2.1,b.2.2.2.1,b.2.2.2.2.1,b.2.2.2.2.2.1,b.2.2.2.2.2.2.1⟩) Try.underlying42 (.cons rfl rfl wM (.cons rfl rfl wM (.cons rfl rfl wM (.cons rfl rfl wM (.cons rfl rfl rdB23 (.cons rfl rfl rdB22 (.cons rfl rfl rdB24 (.nil (by decide))))))))) (fun _=>by kernel_rfl) (fun _=>rfl) (fun b n h=>h.2.2.2.2.2.2.1.1) (fun a n m h hnm=>Nat.le_trans h hnm)
theorem rd4:fw Try.prog 4 eB:=fw.bool Try.underlying4 (by kernel_rfl)
theorem rdB4:eC Try.prog 4 eB (fun _ _=>True):=(rd4).toB
set_option maxRecDepth 100000 in
theorem rdB44:eC Try.prog 44 dC (fun a n=>a.L.States.length ≤ n):=eC.struct (fun b=>⟨b.1,b.2.1,b.2.2.1,b.2.2.2.1⟩) Try.underlying44 (.cons rfl rfl rdB42 (.cons rfl rfl rdB4 (.cons rfl rfl wM (.cons rfl rfl rdB24 (.nil (by decide)))))) (fun _=>by kernel_rfl) (fun _=>rfl) (fun b n h=>h.1) (fun a n m h hnm=>Nat.le_trans h hnm)
set_option maxRecDepth 100000 in
theorem yQ (H:Type) (enc:TypeId × Value → H) (W:World) (base:Nat) (args:Array Value) (ds gs:List (DataW H)) (before:List MemPlace) (hk:Rows.uptoSmall H (ds ++ gs) = true)
    (hval:∀ (j:Nat) t v,Try.f3.params[j]? = some t → args[j]? = some v → Value.okWide Try.prog W .any base t v)
    (hW:DataW.Whole enc Try.prog Try.f3.params.toList Rows.ownerRoundsMatchSpecSpec.vars false W args.toList ds gs before) :
    Calls Try.prog 3 args W fun e W'=>∃ v,e = .returned v ∧ Rows.ownerRoundsMatchSpecSpec.post enc Try.prog Try.f3 false true false false W args v W':=by
  have hW':=hW
  obtain ⟨p,q,hA0,hV,rfl,hfz,hnd⟩:=hW
  have hA:DataW.TrodAll enc Try.prog W 0 (fun _=>true) true Try.f3.params.toList args.toList ds p:=hA0
  rw [Try.params3] at hA hval
  obtain ⟨v0,vs0,d0,ds0,p0,q0,hargs0,rfl,rfl,h0,r0⟩:=trodAll_cons hA
  obtain ⟨v1,vs1,d1,ds1,p1,q1,hargs1,rfl,rfl,h1,r1⟩:=trodAll_cons r0
  subst hargs1
  obtain ⟨v2,vs2,d2,ds2,p2,q2,hargs2,rfl,rfl,h2,r2⟩:=trodAll_cons r1
  subst hargs2
  obtain ⟨v3,vs3,d3,ds3,p3,q3,hargs3,rfl,rfl,h3,r3⟩:=trodAll_cons r2
  subst hargs3
  obtain ⟨v4,vs4,d4,ds4,p4,q4,hargs4,rfl,rfl,h4,r4⟩:=trodAll_cons r3
  subst hargs4
  obtain ⟨v5,vs5,d5,ds5,p5,q5,hargs5,rfl,rfl,h5,r5⟩:=trodAll_cons r4
  subst hargs5
  obtain ⟨v6,vs6,d6,ds6,p6,q6,hargs6,rfl,rfl,h6,r6⟩:=trodAll_cons r5
  subst hargs6
  obtain ⟨hnil,rfl,rfl⟩:=trodAll_nil r6
  subst hnil
  obtain rfl:args = #[v0,v1,v2,v3,v4,v5,v6]:=by cases args; simp_all
  obtain ⟨rfl,rfl⟩:=trodVars_none hV
  obtain ⟨x0,hx0⟩:=qm Try.underlying3 (hval 0 3 v0 rfl rfl)
  obtain ⟨x1,hx1⟩:=qm Try.underlying3 (hval 1 3 v1 rfl rfl)
  obtain ⟨x2,hx2⟩:=qm Try.underlying3 (hval 2 3 v2 rfl rfl)
  obtain ⟨x3,hx3,hl3⟩:=tk Try.underlying22 rd3 (size:=1) (by kernel_rfl) (by decide) (hval 3 22 v3 rfl rfl) h3
  obtain ⟨x4,hx4,hl4⟩:=tk Try.underlying23 rd22 (size:=1) (by kernel_rfl) (by decide) (hval 4 23 v4 rfl rfl) h4
  obtain ⟨x5,hx5,hl5⟩:=tk Try.underlying24 rd9 (size:=1) (by kernel_rfl) (by decide) (hval 5 24 v5 rfl rfl) h5
  obtain ⟨x6,hx6,hb6⟩:=yy Try.underlying25 rdB44 (size:=10) (by kernel_rfl) (by decide) (by kernel_rfl) (hval 6 25 v6 rfl rfl) h6
  refine law_end (vals:=[v0,v1,v2,v3,v4,v5,v6]) (vv x0 x1 x2 x3 x4 x5 x6 (by have:=uV hx4; rw [fO] at this; simpa using this) (fun y hy=>act_len hx6 hy (by have:=(hb6 Rows.uptoBulk bulk_ok).2 y hy; have:=vO hk; simp only [List.cons_append,List.nil_append,Rows.uptoBulkAll] at this; omega))) gy.nil (.cons hx0 (.cons hx1 (.cons hx2 (.cons hx3 (.cons hx4 (.cons hx5 (.cons hx6 .nil))))))) fun W' hk'=>⟨_,rfl,tx kids vq (of_decide_eq_true (by kernel_rfl)) hW' rfl rfl rfl hk' (fun _ _ _=>trodAll_mk1 (shut_bool Try.underlying4 true)) (ok_one (by kernel_rfl) rfl (okWide_bool_mk Try.underlying4 _))⟩
set_option maxRecDepth 100000 in
theorem lifted (os:Os) (started:os.Started) (H:Type) (enc:TypeId × Value → H) (F:Stop.Interp) :
    ReturnsInHanded {} Try.checked os 3 .any ((Rows.OpenSpec.upto Rows.ownerRoundsMatchSpecSpec).pre6 enc Try.prog Try.f3 Rows.ownerRoundsMatchSpecUptoRow.domain false) (((Rows.OpenSpec.upto Rows.ownerRoundsMatchSpecSpec).at F).post enc Try.prog Try.f3 false true false false):=by
  refine returnsInHanded_of_cond (C:=Try.checked) (s:=Rows.OpenSpec.upto Rows.ownerRoundsMatchSpecSpec) (k:=Rows.uptoSmall) rfl own started (by kernel_rfl) Try.func3
    (OpenSpec.witness (enc:=enc) (C:=Try.checked) (s:=Rows.OpenSpec.upto Rows.ownerRoundsMatchSpecSpec) (k:=Rows.uptoSmall) rfl false ⟨#[],#[.int .i64 0,.int .i64 0,.int .i64 0,.slice none 0 0,.slice none 0 0,.slice none 0 0,.slice none 0 0],[]⟩ 8 (by kernel_rfl) (by kernel_rfl) (by kernel_rfl)
      (x:=([.lit (.int .i64 0),.lit (.int .i64 0),.lit (.int .i64 0),.nil,.nil,.nil,.nil],[],[])) (by kernel_rfl) rfl (by kernel_rfl)) ?_
  intro W base args ds gs before hval hW _ hk _
  exact yQ H enc W base args ds gs before hk hval hW
end Go.Proofs.Ytnpddoaeoefcnaa.kq
namespace Go.Proofs.Ytnpddoaeoefcnaa
open Go Go.ChangeShapes Go.WideShapes Go.ChangeAt Go.RowKit
/-- THE STATEMENT -/
theorem ownerRoundsMatchSpec_proved:Rows.OwnerRoundsMatchSpecUptoSaid :=
  OpenClaim.holds_of_cond 3 Try.f3 rfl rfl rfl rfl rfl rfl rfl ⟨rfl,rfl,rfl,rfl,rfl⟩ rfl rfl rfl rfl rfl (by kernel_rfl) Try.func3 (by kernel_rfl)
    (of_decide_eq_true (by kernel_rfl)) (by unfold Func.isWrapper; first | (rw [if_pos (by decide +kernel)]; kernel_rfl) | (rw [if_neg (by decide +kernel)]; exact ⟨rfl,rfl⟩))
    (fun os started H enc _ F=>kq.lifted os started H enc F)
end Go.Proofs.Ytnpddoaeoefcnaa
