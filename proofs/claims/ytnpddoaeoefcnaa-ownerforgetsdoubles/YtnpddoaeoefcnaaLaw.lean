/- Proved: for every input the law OwnerForgetsDoubles returns true, and each argument reads afterwards as before; conditions: none. (From the walk to the statement; printed by a program of the prover, lawgen.py.) -/
import Derived.Test.YtnpddoaeoefcnaaP1
import Derived.WalkKit
import Derived.ProofKit
import Derived.OpenShut
import Derived.Deep.DeepHandedRow
namespace Go.Proofs.Ytnpddoaeoefcnaa.ownerForgetsDoubles
open Go Go.Sk Go.ChangeShapes Go.WideShapes Go.ChangeAt Go.RowKit
set_option linter.unusedVariables false
theorem own : ownKnob Try.prog.godebug = none := by kernel_rfl
theorem kids : Kids Try.prog (· < Try.prog.types.size) := kids_rows (by kernel_rfl) (by kernel_rfl)
theorem slicesFull : ∀ t e, t < Try.prog.types.size → Try.prog.underlying t = some (.slice e) → 0 < Try.prog.cellsOf e := slices_full_of Try.prog (by kernel_rfl)
theorem rd3 : TyRead Try.prog 3 eI := TyRead.int Try.underlying3 (by kernel_rfl)
theorem rd22 : TyRead Try.prog 22 (eL 1 eI) := TyRead.sl Try.underlying22 (by kernel_rfl) rd3 (size := 1) (by kernel_rfl) (by decide)
theorem rd9 : TyRead Try.prog 9 eS := TyRead.str Try.underlying9 (by kernel_rfl)
theorem rd23 : TyRead Try.prog 23 (eL 1 (eL 1 eI)) := TyRead.sl Try.underlying23 (by kernel_rfl) rd22 (size := 1) (by kernel_rfl) (by decide)
theorem rd24 : TyRead Try.prog 24 (eL 1 eS) := TyRead.sl Try.underlying24 (by kernel_rfl) rd9 (size := 1) (by kernel_rfl) (by decide)
set_option maxRecDepth 100000 in
theorem rd42 : TyRead Try.prog 42 eNotice := TyRead.struct (fun b => ⟨b.1, b.2.1, b.2.2.1, b.2.2.2.1, b.2.2.2.2.1, b.2.2.2.2.2.1, b.2.2.2.2.2.2.1⟩) Try.underlying42 (.cons rfl rfl rd3 (.cons rfl rfl rd3 (.cons rfl rfl rd3 (.cons rfl rfl rd3 (.cons rfl rfl rd23 (.cons rfl rfl rd22 (.cons rfl rfl rd24 (.nil (by decide))))))))) (fun _ => by kernel_rfl) (fun _ => rfl)
set_option maxRecDepth 100000 in
theorem contract (H : Type) (enc : TypeId × Value → H) (W : World) (base : Nat) (args : Array Value) (ds gs : List (DataW H)) (before : List MemPlace)
    (hval : ∀ (j : Nat) t v, Try.f6.params[j]? = some t → args[j]? = some v → Value.okWide Try.prog W .any base t v)
    (hW : DataW.Whole enc Try.prog Try.f6.params.toList Rows.ownerForgetsDoublesSpec.vars false W args.toList ds gs before) :
    Calls Try.prog 6 args W fun e W' => ∃ v, e = .returned v ∧ Rows.ownerForgetsDoublesSpec.post enc Try.prog Try.f6 false true false false W args v W' := by
  have hW' := hW
  obtain ⟨p, q, hA0, hV, rfl, hfz, hnd⟩ := hW
  have hA : DataW.TrodAll enc Try.prog W 0 (fun _ => true) true Try.f6.params.toList args.toList ds p := hA0
  rw [Try.params6] at hA hval
  obtain ⟨v0, vs0, d0, ds0, p0, q0, hargs0, rfl, rfl, h0, r0⟩ := trodAll_cons hA
  obtain ⟨v1, vs1, d1, ds1, p1, q1, hargs1, rfl, rfl, h1, r1⟩ := trodAll_cons r0
  subst hargs1
  obtain ⟨v2, vs2, d2, ds2, p2, q2, hargs2, rfl, rfl, h2, r2⟩ := trodAll_cons r1
  subst hargs2
  obtain ⟨v3, vs3, d3, ds3, p3, q3, hargs3, rfl, rfl, h3, r3⟩ := trodAll_cons r2
  subst hargs3
  obtain ⟨v4, vs4, d4, ds4, p4, q4, hargs4, rfl, rfl, h4, r4⟩ := trodAll_cons r3
  subst hargs4
  obtain ⟨v5, vs5, d5, ds5, p5, q5, hargs5, rfl, rfl, h5, r5⟩ := trodAll_cons r4
  subst hargs5
  obtain ⟨v6, vs6, d6, ds6, p6, q6, hargs6, rfl, rfl, h6, r6⟩ := trodAll_cons r5
  subst hargs6
  obtain ⟨hnil, rfl, rfl⟩ := trodAll_nil r6
  subst hnil
  obtain rfl : args = #[v0, v1, v2, v3, v4, v5, v6] := by cases args; simp_all
  obtain ⟨rfl, rfl⟩ := trodVars_none hV
  obtain ⟨x0, hx0⟩ := open_int1 Try.underlying3 (hval 0 3 v0 rfl rfl)
  obtain ⟨x1, hx1⟩ := open_int1 Try.underlying3 (hval 1 3 v1 rfl rfl)
  obtain ⟨x2, hx2, hl2⟩ := open_sl Try.underlying22 rd3 (size := 1) (by kernel_rfl) (by decide) (hval 2 22 v2 rfl rfl) h2
  obtain ⟨x3, hx3, hl3⟩ := open_sl Try.underlying23 rd22 (size := 1) (by kernel_rfl) (by decide) (hval 3 23 v3 rfl rfl) h3
  obtain ⟨x4, hx4, hl4⟩ := open_sl Try.underlying24 rd9 (size := 1) (by kernel_rfl) (by decide) (hval 4 24 v4 rfl rfl) h4
  obtain ⟨x5, hx5, hl5⟩ := open_sl Try.underlying32 rd42 (size := 7) (by kernel_rfl) (by decide) (hval 5 32 v5 rfl rfl) h5
  obtain ⟨x6, hx6⟩ := open_agg1 Try.underlying42 rd42 (hval 6 42 v6 rfl rfl) h6
  refine law_end (vals := [v0, v1, v2, v3, v4, v5, v6]) (doubles_ctr x0 x1 x2 x3 x4 x5 x6 (by have := len_le hx3; rw [maxLen_eq] at this; simpa using this) (fun y hy => notice_len hx5 hy) (notice_len1 hx6)) TabsOk.nil (.cons hx0 (.cons hx1 (.cons hx2 (.cons hx3 (.cons hx4 (.cons hx5 (.cons hx6 .nil))))))) fun W' hk' => ⟨_, rfl, post_of_kept kids slicesFull (of_decide_eq_true (by kernel_rfl)) hW' rfl rfl rfl hk' (fun _ _ _ => trodAll_mk1 (shut_bool Try.underlying4 true)) (ok_one (by kernel_rfl) rfl (okWide_bool_mk Try.underlying4 _))⟩
set_option maxRecDepth 100000 in
theorem lifted (os : Os) (started : os.Started) (H : Type) (enc : TypeId × Value → H) :
    ReturnsInHanded {} Try.checked os 6 .any (Rows.ownerForgetsDoublesSpec.pre6 enc Try.prog Try.f6 Rows.ownerForgetsDoublesRow.domain false) (Rows.ownerForgetsDoublesSpec.post enc Try.prog Try.f6 false true false false) := by
  refine returnsInHanded_of_change (C := Try.checked) own started (by kernel_rfl) Try.func6
    (ChangeSpec.witness6 (enc := enc) (C := Try.checked) false ⟨#[], #[.int .i64 0, .int .i64 0, .slice none 0 0, .slice none 0 0, .slice none 0 0, .slice none 0 0, .agg #[.int .i64 0, .int .i64 0, .int .i64 0, .int .i64 0, .slice none 0 0, .slice none 0 0, .slice none 0 0]], []⟩ 8 (by kernel_rfl) (by kernel_rfl) (by kernel_rfl) (by kernel_rfl)) ?_
  intro W base args ds gs before hval hW _ _
  exact contract H enc W base args ds gs before hval hW
end Go.Proofs.Ytnpddoaeoefcnaa.ownerForgetsDoubles
namespace Go.Proofs.Ytnpddoaeoefcnaa
open Go Go.ChangeShapes Go.WideShapes Go.ChangeAt Go.RowKit
/-- THE STATEMENT -/
theorem ownerForgetsDoubles_proved : Rows.OwnerForgetsDoublesSaid :=
  OpenClaim.holds_of_wide 6 Try.f6 rfl rfl rfl rfl rfl rfl rfl ⟨rfl, rfl, rfl, rfl, rfl⟩ rfl rfl rfl rfl rfl (by kernel_rfl) Try.func6 (by kernel_rfl)
    (of_decide_eq_true (by kernel_rfl)) (by unfold Func.isWrapper; first | (rw [if_pos (by decide +kernel)]; kernel_rfl) | (rw [if_neg (by decide +kernel)]; exact ⟨rfl, rfl⟩))
    (fun os started H enc _ => ownerForgetsDoubles.lifted os started H enc)
end Go.Proofs.Ytnpddoaeoefcnaa
