/- printed walks -/
import Derived.Test.YtaigaoifloldcaaDoorTypes
namespace Go.Proofs.YtaigaoifloldcaaDoor
open Go.Sk
set_option maxHeartbeats 1000000
set_option maxRecDepth 4000
set_option linter.unusedSimpArgs false
set_option linter.unusedVariables false
/-- the tables -/
def tabs : Tabs := [(0, Lib.deBruijn32tab.map fun z : Nat => Value.int .u8 (z : Int)), (1, Lib.pow10Tab.map fun z : Int => Value.int .u64 z)]
theorem tyFld25_2 : TyField Tryd.prog 25 2 2 23 := ⟨⟨_, _, Tryd.t23, Tryd.underlying25, rfl, rfl, rfl, by kernel_rfl, by decide⟩⟩
theorem tyArr23 : TyArr Tryd.prog 23 22 16 1 := ⟨Tryd.underlying23, ⟨Tryd.t22, by kernel_rfl, by kernel_rfl⟩⟩
theorem tyOne22 : TyOne Tryd.prog 22 := ⟨⟨_, Tryd.underlying22, rfl⟩, ⟨Tryd.t22, by kernel_rfl, by kernel_rfl⟩⟩
theorem tyFld25_0 : TyField Tryd.prog 25 0 0 4 := ⟨⟨_, _, Tryd.t4, Tryd.underlying25, rfl, rfl, rfl, by kernel_rfl, by decide⟩⟩
theorem tyOne4 : TyOne Tryd.prog 4 := ⟨⟨_, Tryd.underlying4, rfl⟩, ⟨Tryd.t4, by kernel_rfl, by kernel_rfl⟩⟩
theorem tyFld25_1 : TyField Tryd.prog 25 1 1 4 := ⟨⟨_, _, Tryd.t4, Tryd.underlying25, rfl, rfl, rfl, by kernel_rfl, by decide⟩⟩
theorem tyAgg25 : TyAgg Tryd.prog 25 18 := ⟨⟨_, Tryd.underlying25, rfl⟩, ⟨Tryd.t25, by kernel_rfl, by kernel_rfl⟩⟩
theorem goes24 : Goes Tryd.prog 24 := ⟨Tryd.call24⟩
theorem goes35 : Goes Tryd.prog 35 := ⟨Tryd.call35⟩
theorem undi22 : Tryd.prog.underlying 22 = some (.int .u32) := Tryd.underlying22
theorem undi3 : Tryd.prog.underlying 3 = some (.int .i64) := Tryd.underlying3
theorem und54 : Tryd.prog.underlying 54 = some (.slice 3) := Tryd.underlying54
theorem tySl54 : TySl Tryd.prog 54 3 1 8 [.i 0] := ⟨Tryd.underlying54, ⟨Tryd.t3, _, by kernel_rfl, rfl, rfl, rfl, rfl, by decide, rfl⟩⟩
theorem tyOne3 : TyOne Tryd.prog 3 := ⟨⟨_, Tryd.underlying3, rfl⟩, ⟨Tryd.t3, by kernel_rfl, by kernel_rfl⟩⟩
theorem tyZero25 : TyZero Tryd.prog 25 (.bool false :: .bool false :: ((eA16 .u32) A16.zero)) := ⟨⟨Tryd.t25, _, by kernel_rfl, rfl, rfl⟩⟩
theorem tyBuild25 : TyBuild Tryd.prog 25 [(0, 1), (1, 1), (2, 16)] (.bool false :: .bool false :: ((eA16 .u32) A16.zero)) := ⟨⟨Tryd.t25, _, _, by kernel_rfl, rfl, rfl, Tryd.underlying25, by kernel_rfl⟩⟩
theorem goes70 : Goes Tryd.prog 70 := ⟨Tryd.call70⟩
theorem goes51 : Goes Tryd.prog 51 := ⟨Tryd.call51⟩
theorem mixed : Tryd.prog.follows .mixedOrders = true := by kernel_rfl
theorem goes76 : Goes Tryd.prog 76 := ⟨Tryd.call76⟩
theorem goes53 : Goes Tryd.prog 53 := ⟨Tryd.call53⟩
theorem goes54 : Goes Tryd.prog 54 := ⟨Tryd.call54⟩
theorem goes49 : Goes Tryd.prog 49 := ⟨Tryd.call49⟩
theorem goes50 : Goes Tryd.prog 50 := ⟨Tryd.call50⟩
theorem goes52 : Goes Tryd.prog 52 := ⟨Tryd.call52⟩
theorem und4 : Tryd.prog.underlying 4 = some .bool := Tryd.underlying4
theorem goes55 : Goes Tryd.prog 55 := ⟨Tryd.call55⟩
theorem goes56 : Goes Tryd.prog 56 := ⟨Tryd.call56⟩
theorem tyAgg23 : TyAgg Tryd.prog 23 16 := ⟨⟨_, Tryd.underlying23, rfl⟩, ⟨Tryd.t23, by kernel_rfl, by kernel_rfl⟩⟩
theorem tyBuild23 : TyBuildA Tryd.prog 23 1 ((eA16 .u32) A16.zero) := ⟨⟨Tryd.t23, _, _, _, Tryd.t22, by kernel_rfl, rfl, rfl, Tryd.underlying23, by kernel_rfl, by kernel_rfl⟩⟩
theorem eqPart23 (x y : A16) {d : Nat} : EqPart Tryd.prog (d + 2) 23 16 ((eA16 .u32) x) ((eA16 .u32) y) (decide (x = y)) :=
  (EqPart.arr (l := x.l) (l' := y.l) tyAgg23 Tryd.underlying23 tyOne22 Tryd.underlying22).cast (by rw [Bool.eq_iff_iff]; simp [A16.l_inj])
theorem eqAgg23 (x y : A16) : EqAgg Tryd.prog 23 ((eA16 .u32) x) ((eA16 .u32) y) (decide (x = y)) := EqAgg.ofPart (by kernel_rfl) tyAgg23 (eqPart23 x y (d := 9998)) rfl rfl
theorem undi63 : Tryd.prog.underlying 63 = some (.int .u64) := Tryd.underlying63
theorem goes46 : Goes Tryd.prog 46 := ⟨Tryd.call46⟩
theorem und85 : Tryd.prog.underlying 85 = some (.slice 25) := Tryd.underlying85
theorem tySl85 : TySl Tryd.prog 85 25 18 68 (.bool false :: .bool false :: ((eA16 .u32) A16.zero)) := ⟨Tryd.underlying85, ⟨Tryd.t25, _, by kernel_rfl, rfl, rfl, rfl, rfl, by decide, rfl⟩⟩
theorem goes23 : Goes Tryd.prog 23 := ⟨Tryd.call23⟩
theorem goes43 : Goes Tryd.prog 43 := ⟨Tryd.call43⟩
theorem goes44 : Goes Tryd.prog 44 := ⟨Tryd.call44⟩
theorem tyZero62 : TyZero Tryd.prog 62 ((eA32 .u32) A32.zero) := ⟨⟨Tryd.t62, _, by kernel_rfl, rfl, rfl⟩⟩
theorem goes57 : Goes Tryd.prog 57 := ⟨Tryd.call57⟩
theorem tyArr62 : TyArr Tryd.prog 62 22 32 1 := ⟨Tryd.underlying62, ⟨Tryd.t22, by kernel_rfl, by kernel_rfl⟩⟩
theorem tyZero23 : TyZero Tryd.prog 23 ((eA16 .u32) A16.zero) := ⟨⟨Tryd.t23, _, by kernel_rfl, rfl, rfl⟩⟩
theorem und71 : Tryd.prog.underlying 71 = some (.slice 9) := Tryd.underlying71
theorem tySl71 : TySl Tryd.prog 71 9 1 16 [.str []] := ⟨Tryd.underlying71, ⟨Tryd.t9, _, by kernel_rfl, rfl, rfl, rfl, rfl, by decide, rfl⟩⟩
theorem tyOne9 : TyOne Tryd.prog 9 := ⟨⟨_, Tryd.underlying9, rfl⟩, ⟨Tryd.t9, by kernel_rfl, by kernel_rfl⟩⟩
theorem goes65 : Goes Tryd.prog 65 := ⟨Tryd.call65⟩
theorem goes66 : Goes Tryd.prog 66 := ⟨Tryd.call66⟩
theorem und9 : Tryd.prog.underlying 9 = some .string := Tryd.underlying9
theorem goes67 : Goes Tryd.prog 67 := ⟨Tryd.call67⟩
theorem goes68 : Goes Tryd.prog 68 := ⟨Tryd.call68⟩
theorem goes69 : Goes Tryd.prog 69 := ⟨Tryd.call69⟩
theorem undi5 : Tryd.prog.underlying 5 = some (.int .u8) := Tryd.underlying5
theorem goes58 : Goes Tryd.prog 58 := ⟨Tryd.call58⟩
theorem goes20 : Goes Tryd.prog 20 := ⟨Tryd.call20⟩
theorem goes90 : Goes Tryd.prog 90 := ⟨Tryd.call90⟩
theorem goes75 : Goes Tryd.prog 75 := ⟨Tryd.call75⟩
theorem tyArr100 : TyArr Tryd.prog 100 22 17 1 := ⟨Tryd.underlying100, ⟨Tryd.t22, by kernel_rfl, by kernel_rfl⟩⟩
theorem goes47 : Goes Tryd.prog 47 := ⟨Tryd.call47⟩
theorem goes85 : Goes Tryd.prog 85 := ⟨Tryd.call85⟩
theorem goes73 : Goes Tryd.prog 73 := ⟨Tryd.call73⟩
theorem tyZero100 : TyZero Tryd.prog 100 ((eA17 .u32) A17.zero) := ⟨⟨Tryd.t100, _, by kernel_rfl, rfl, rfl⟩⟩
theorem tySl64 : TySl Tryd.prog 64 22 1 4 [.int .u32 0] := ⟨Tryd.underlying64, ⟨Tryd.t22, _, by kernel_rfl, rfl, rfl, rfl, rfl, by decide, rfl⟩⟩
theorem goes86 : Goes Tryd.prog 86 := ⟨Tryd.call86⟩
theorem goes87 : Goes Tryd.prog 87 := ⟨Tryd.call87⟩
theorem goes88 : Goes Tryd.prog 88 := ⟨Tryd.call88⟩
theorem goes74 : Goes Tryd.prog 74 := ⟨Tryd.call74⟩
theorem goes45 : Goes Tryd.prog 45 := ⟨Tryd.call45⟩
theorem goes48 : Goes Tryd.prog 48 := ⟨Tryd.call48⟩
theorem goes14 : Goes Tryd.prog 14 := ⟨Tryd.call14⟩
theorem goes10 : Goes Tryd.prog 10 := ⟨Tryd.call10⟩
theorem goes18 : Goes Tryd.prog 18 := ⟨Tryd.call18⟩
theorem goes39 : Goes Tryd.prog 39 := ⟨Tryd.call39⟩
theorem goes38 : Goes Tryd.prog 38 := ⟨Tryd.call38⟩
theorem goes71 : Goes Tryd.prog 71 := ⟨Tryd.call71⟩
theorem goes12 : Goes Tryd.prog 12 := ⟨Tryd.call12⟩
theorem goes62 : Goes Tryd.prog 62 := ⟨Tryd.call62⟩
theorem goes40 : Goes Tryd.prog 40 := ⟨Tryd.call40⟩
theorem goes16 : Goes Tryd.prog 16 := ⟨Tryd.call16⟩
theorem goes97 : Goes Tryd.prog 97 := ⟨Tryd.call97⟩
theorem goes89 : Goes Tryd.prog 89 := ⟨Tryd.call89⟩
theorem goes72 : Goes Tryd.prog 72 := ⟨Tryd.call72⟩
theorem goes42 : Goes Tryd.prog 42 := ⟨Tryd.call42⟩
theorem goes29 : Goes Tryd.prog 29 := ⟨Tryd.call29⟩
theorem goes25 : Goes Tryd.prog 25 := ⟨Tryd.call25⟩
theorem und79 : Tryd.prog.underlying 79 = some (.slice 5) := Tryd.underlying79
theorem tySl79 : TySl Tryd.prog 79 5 1 1 [.int .u8 0] := ⟨Tryd.underlying79, ⟨Tryd.t5, _, by kernel_rfl, rfl, rfl, rfl, rfl, by decide, rfl⟩⟩
theorem tyOne5 : TyOne Tryd.prog 5 := ⟨⟨_, Tryd.underlying5, rfl⟩, ⟨Tryd.t5, by kernel_rfl, by kernel_rfl⟩⟩
theorem goes27 : Goes Tryd.prog 27 := ⟨Tryd.call27⟩
theorem goes33 : Goes Tryd.prog 33 := ⟨Tryd.call33⟩
theorem eqPart25 (x y : Big) {d : Nat} : EqPart Tryd.prog (d + 3) 25 18 (eBig x) (eBig y) (decide (x = y)) :=
  (EqPart.struct (d := d + 2) (rs := [x.Bad == y.Bad, x.Neg == y.Neg, decide (x.W = y.W)]) tyAgg25 Tryd.stoodInHeld25 Tryd.underlying25 (⟨by decide, ⟨_, [.bool x.Bad], [.bool y.Bad], rfl, rfl, rfl, rfl, (.bool tyOne4 Tryd.underlying4)⟩, ⟨by decide, ⟨_, [.bool x.Neg], [.bool y.Neg], rfl, rfl, rfl, rfl, (.bool tyOne4 Tryd.underlying4)⟩, ⟨by decide, ⟨_, ((eA16 .u32) x.W), ((eA16 .u32) y.W), rfl, rfl, rfl, rfl, eqPart23 _ _⟩, trivial⟩⟩⟩) rfl).cast
    (by cases x; cases y; rw [Bool.eq_iff_iff]; simp [Big.mk.injEq])
theorem eqAgg25 (x y : Big) : EqAgg Tryd.prog 25 (eBig x) (eBig y) (decide (x = y)) := EqAgg.ofPart (by kernel_rfl) tyAgg25 (eqPart25 x y (d := 9997)) rfl rfl
theorem goes31 : Goes Tryd.prog 31 := ⟨Tryd.call31⟩
theorem goes41 : Goes Tryd.prog 41 := ⟨Tryd.call41⟩
theorem goes36 : Goes Tryd.prog 36 := ⟨Tryd.call36⟩
theorem goes61 : Goes Tryd.prog 61 := ⟨Tryd.call61⟩
theorem goes22 : Goes Tryd.prog 22 := ⟨Tryd.call22⟩
theorem goes34 : Goes Tryd.prog 34 := ⟨Tryd.call34⟩
theorem goes37 : Goes Tryd.prog 37 := ⟨Tryd.call37⟩
def strconv_Itoa_S (F : Nat) (n0 : Int) : Option Str := itoa? n0
theorem strconv_Itoa_spec {F : Nat} {n0 : Int} {r : Str} (h : strconv_Itoa_S F n0 = some r) : Meets Tryd.prog tabs 66 [] [.one (.i n0)] (Is [] (.b (.one (.str r)))) := meets_Itoa Tryd.laysM171 (gb := 1) (by kernel_rfl) (by simp [tabs]) h

def strings_Repeat_S (F : Nat) (s0 : Str) (c0 : Int) : Option Str := repeat? s0 c0
theorem strings_Repeat_spec {F : Nat} {s0 : Str} {c0 : Int} {r : Str} (h : strings_Repeat_S F s0 c0 = some r) : Meets Tryd.prog tabs 67 [] [.one (.str s0), .one (.i c0)] (Is [] (.b (.one (.str r)))) := meets_Repeat Tryd.lays105 Tryd.Builder_Extra_105 h

def strings_Join_S (F : Nat) (l0 : List Str) (s0 : Str) : Option Str := join? l0 s0
theorem strings_Join_spec {F : Nat} {l0 : List Str} {s0 : Str} {r : Str} (h : strings_Join_S F l0 s0 = some r) : Meets Tryd.prog tabs 69 [] [.one (.sl 1 (l0.map eS)), .one (.str s0)] (Is [] (.b (.one (.str r)))) := meets_Join Tryd.lays156 Tryd.Builder_Extra_156 h

def bits_TZ32_S (F : Nat) (x0 : Int) : Option Int := some (ctz32 x0)
theorem bits_TZ32_spec {F : Nat} {x0 : Int} {r : Int} (h : bits_TZ32_S F x0 = some r) : Meets Tryd.prog tabs 97 [] [.one (.int .u32 x0)] (Is [] (I r)) := meets_TZ32 Tryd.lays7_28 (by simp [tabs, Tryd.lays7_28_ren]) (Option.some.inj h)

def skewbackref03_Valid_S (F : Nat) (x0 : Big) : Option Bool :=
 Option.bind (iter F (un2 fun zero_2 k_3 => if (decide (k_3 < 16)) = true then (Option.bind (gcall zero_2 (idx? x0.W.l k_3)) (fun x_5 => some (.inl (zero_2 && (decide (x_5 = 0)), IntKind.i64.wrap (k_3 + 1))))) else (some (.inr zero_2))) (true, 0)) (fun zero_1 => if x0.Bad = true then (some (zero_1 && (!x0.Neg))) else (some ((!zero_1) || (!x0.Neg))))
theorem skewbackref03_Valid_spec {F : Nat} {x0 : Big} {r : Bool} (h : skewbackref03_Valid_S F x0 = some r) : Meets Tryd.prog tabs 24 [] [.agg (eBig x0)] (Is [] (.b (.one (.bool r)))) := by
  unfold skewbackref03_Valid_S at h
  refine Meets.intro 32 Tryd.func24 Tryd.ntmps24 rfl (by simp) fun E => ?_
  show Tri _ E ⟨32, [], []⟩ _ ⟨[(0, .b (.agg (eBig x0)))], []⟩ _
  refine Tri.seq ?_
  refine Tri.regionL ?_
  refine OpsL.cons rfl (op_box (k := 101) rfl rfl) ?_
  refine OpsL.cons rfl (op_assign rfl) ?_
  refine OpsL.nilK [1] [101] (s' := ⟨[(1, .b (.ptr 101 0))], [(101, .box 25 (eBig x0))]⟩) rfl ?_
  refine Tri.seq ?_
  refine Tri.regionL ?_
  refine OpsL.cons rfl (op_assign rfl) ?_
  refine OpsL.nilK [1, 3] [101] (s' := ⟨[(1, .b (.ptr 101 0)), (3, B true)], [(101, .box 25 (eBig x0))]⟩) rfl ?_
  obtain ⟨v1, h2, h⟩ := bnd h
  refine Tri.seqJ (v := v1) (fun (zero_1 : Bool) => ⟨[(1, .b (.ptr 101 0)), (3, B zero_1)], [(101, .box 25 (eBig x0))]⟩) (fun z => z) ?_ ?_
  · refine Tri.seq ?_
    refine Tri.regionL ?_
    refine OpsL.cons rfl (op_assign rfl) ?_
    refine OpsL.nilK [1, 3, 4] [101] (s' := ⟨[(1, .b (.ptr 101 0)), (3, B true), (4, I 0)], [(101, .box 25 (eBig x0))]⟩) rfl ?_
    refine Tri.block ?_
    refine Tri.loopJ h2 (un2 fun (zero_2 : Bool) (k_3 : Int) => ⟨[(1, .b (.ptr 101 0)), (3, B zero_2), (4, I k_3)], [(101, .box 25 (eBig x0))]⟩) [1, 3, 4] [101] rfl ?_
    rintro ⟨zero_2, k_3⟩ o3 h4 hy5
    refine Tri.seq ?_
    refine Tri.seq ?_
    refine Tri.regionL ?_
    refine OpsL.cons rfl (op_move rfl) ?_
    refine OpsL.cons rfl (op_lss rfl rfl) ?_
    refine OpsL.nilK [1, 3, 4, 6] [101] (s' := ⟨[(1, .b (.ptr 101 0)), (3, B zero_2), (4, I k_3), (6, B (decide (k_3 < 16)))], [(101, .box 25 (eBig x0))]⟩) rfl ?_
    refine Tri.ite h4 rfl (fun _ h4 => ?_) (fun _ h4 => ?_)
    · refine Tri.skip ?_
      refine Fin.keep [1, 3, 4] [101] (s' := ⟨[(1, .b (.ptr 101 0)), (3, B zero_2), (4, I k_3)], [(101, .box 25 (eBig x0))]⟩) rfl ?_
      refine Fin.then ?_
      refine Tri.seq ?_
      refine Tri.block ?_
      refine Tri.regionL ?_
      refine OpsL.cons rfl (op_move rfl) ?_
      refine OpsL.cons rfl (op_move rfl) ?_
      refine OpsL.consG zero_2 99 [] (.plain rfl) (eq_t _) rfl rfl (fun g6 => trivial) (fun g6 => op_move rfl) ?_
      refine OpsL.consG zero_2 99 [] (.plain rfl) (eq_t _) rfl rfl (fun g7 => trivial) (fun g7 => op_field_p tyFld25_2 rfl rfl) ?_
      obtain ⟨x_5, e9, h4⟩ := bnd h4
      refine OpsL.consG zero_2 99 [11, 12] (.plain rfl) (eq_t _) rfl rfl (fun g8 => ⟨g8, g8, trivial⟩) (fun g8 => op_index_p tyArr23 (ix_lo (gc e9 g8)) (ix_hi (gc e9 g8)) rfl rfl rfl) ?_
      refine OpsL.consG zero_2 99 [13] (.plain rfl) (eq_t _) rfl rfl (fun g10 => ⟨g10, trivial⟩) (fun g10 => op_load_p1 tyOne22 rfl rfl (arr_get (post := []) (k := .u32) [.bool x0.Bad, .bool x0.Neg] (gc e9 g10) rfl rfl rfl)) ?_
      refine OpsL.consG zero_2 99 [14] (.plain rfl) (eq_t _) rfl rfl (fun g11 => ⟨g11, trivial⟩) (fun g11 => op_eql rfl rfl) ?_
      refine OpsL.cons rfl (op_pick_and (fun e => e) rfl rfl rfl rfl) ?_
      refine OpsL.cons rfl (op_assign rfl) ?_
      refine OpsL.nil ?_
      refine Fin.block_normal ?_
      refine Fin.keep [1, 3, 4] [101] (s' := ⟨[(1, .b (.ptr 101 0)), (3, B (zero_2 && (decide (x_5 = 0)))), (4, I k_3)], [(101, .box 25 (eBig x0))]⟩) rfl ?_
      refine Fin.then ?_
      refine Tri.regionL ?_
      refine OpsL.cons rfl (op_move rfl) ?_
      refine OpsL.cons rfl (op_add rfl rfl) ?_
      refine OpsL.cons rfl (op_assign rfl) ?_
      refine OpsL.nil ?_
      exact Fin.againJ [1, 3, 4] [101] (zero_2 && (decide (x_5 = 0)), IntKind.i64.wrap (k_3 + 1)) (Option.some.inj h4) rfl
    · refine Tri.exit ?_
      refine Fin.then_exit ?_
      obtain rfl := hy5 _ (Option.some.inj h4).symm
      refine Fin.then_exit ?_
      refine Fin.block_exit ?_
      exact Fin.join [1, 3] [101] zero_2 rfl rfl
  · rintro zero_1 hv
    subst v1
    refine Tri.seq ?_
    refine Tri.seq ?_
    refine Tri.regionL ?_
    refine OpsL.cons rfl (op_field_p tyFld25_0 rfl rfl) ?_
    refine OpsL.cons rfl (op_load_p1 tyOne4 rfl rfl rfl) ?_
    refine OpsL.nilK [1, 3, 18] [101] (s' := ⟨[(1, .b (.ptr 101 0)), (3, B zero_1), (18, B x0.Bad)], [(101, .box 25 (eBig x0))]⟩) rfl ?_
    refine Tri.ite h rfl (fun _ h => ?_) (fun _ h => ?_)
    · refine Tri.seq ?_
      refine Tri.regionL ?_
      refine OpsL.cons rfl (op_move rfl) ?_
      refine OpsL.cons rfl (op_move rfl) ?_
      refine OpsL.consG zero_1 99 [] (.plain rfl) (eq_t _) rfl rfl (fun g12 => trivial) (fun g12 => op_field_p tyFld25_1 rfl rfl) ?_
      refine OpsL.consG zero_1 99 [21] (.plain rfl) (eq_t _) rfl rfl (fun g13 => ⟨g13, trivial⟩) (fun g13 => op_load_p1 tyOne4 rfl rfl rfl) ?_
      refine OpsL.consG zero_1 99 [22] (.plain rfl) (eq_t _) rfl rfl (fun g14 => ⟨g14, trivial⟩) (fun g14 => op_not rfl) ?_
      refine OpsL.cons rfl (op_pick_and (fun e => e) rfl rfl rfl rfl) ?_
      refine OpsL.cons rfl (op_assign rfl) ?_
      refine OpsL.nilK [2] [] (s' := ⟨[(2, B (zero_1 && (!x0.Neg)))], []⟩) rfl ?_
      refine Tri.ret ?_
      refine Fin.then_ret ?_
      obtain rfl := Option.some.inj h
      refine Fin.keep [2] [] (s' := ⟨[(2, B (zero_1 && (!x0.Neg)))], []⟩) rfl ?_
      refine Fin.result' [.one (.bool (zero_1 && (!x0.Neg)))] (.inl rfl) rfl (.cons (.tmp rfl) .nil) ⟨rfl, rfl⟩
    · refine Tri.skip ?_
      refine Fin.keep [1, 3] [101] (s' := ⟨[(1, .b (.ptr 101 0)), (3, B zero_1)], [(101, .box 25 (eBig x0))]⟩) rfl ?_
      refine Fin.then ?_
      refine Tri.seq ?_
      refine Tri.regionL ?_
      refine OpsL.cons rfl (op_move rfl) ?_
      refine OpsL.cons rfl (op_not rfl) ?_
      refine OpsL.cons rfl (op_move rfl) ?_
      refine OpsL.consG (!(!zero_1)) 99 [] (.plain rfl) (eq_f _) rfl rfl (fun g15 => trivial) (fun g15 => op_field_p tyFld25_1 rfl rfl) ?_
      refine OpsL.consG (!(!zero_1)) 99 [28] (.plain rfl) (eq_f _) rfl rfl (fun g16 => ⟨g16, trivial⟩) (fun g16 => op_load_p1 tyOne4 rfl rfl rfl) ?_
      refine OpsL.consG (!(!zero_1)) 99 [29] (.plain rfl) (eq_f _) rfl rfl (fun g17 => ⟨g17, trivial⟩) (fun g17 => op_not rfl) ?_
      refine OpsL.cons rfl (op_pick_or (fun e => by rw [e]; rfl) rfl rfl rfl rfl) ?_
      refine OpsL.cons rfl (op_assign rfl) ?_
      refine OpsL.nilK [2] [] (s' := ⟨[(2, B ((!zero_1) || (!x0.Neg)))], []⟩) rfl ?_
      refine Tri.ret ?_
      obtain rfl := Option.some.inj h
      refine Fin.keep [2] [] (s' := ⟨[(2, B ((!zero_1) || (!x0.Neg)))], []⟩) rfl ?_
      refine Fin.result' [.one (.bool ((!zero_1) || (!x0.Neg)))] (.inl rfl) rfl (.cons (.tmp rfl) .nil) ⟨rfl, rfl⟩

def skewbackref03_Good_S (F : Nat) (x0 : Big) : Option Bool :=
 Option.bind (skewbackref03_Valid_S F x0) (fun x_1 => some (x_1 && (!x0.Bad)))
theorem skewbackref03_Good_spec {F : Nat} {x0 : Big} {r : Bool} (h : skewbackref03_Good_S F x0 = some r) : Meets Tryd.prog tabs 35 [] [.agg (eBig x0)] (Is [] (.b (.one (.bool r)))) := by
  unfold skewbackref03_Good_S at h
  refine Meets.intro 12 Tryd.func35 Tryd.ntmps35 rfl (by simp) fun E => ?_
  show Tri _ E ⟨12, [], []⟩ _ ⟨[(0, .b (.agg (eBig x0)))], []⟩ _
  refine Tri.seq ?_
  refine Tri.regionL ?_
  refine OpsL.cons rfl (op_box (k := 101) rfl rfl) ?_
  refine OpsL.cons rfl (op_assign rfl) ?_
  refine OpsL.nilK [1] [101] (s' := ⟨[(1, .b (.ptr 101 0))], [(101, .box 25 (eBig x0))]⟩) rfl ?_
  refine Tri.seq ?_
  refine Tri.regionL ?_
  refine OpsL.cons rfl (op_load_p tyAgg25 rfl rfl rfl rfl) ?_
  obtain ⟨x_1, e1, h⟩ := bnd h
  refine OpsL.cons rfl (op_call0 (skewbackref03_Valid_spec e1) goes24 rfl rfl) ?_
  refine OpsL.cons rfl (op_assign rfl) ?_
  refine OpsL.nilK [1, 3] [101] (s' := ⟨[(1, .b (.ptr 101 0)), (3, B x_1)], [(101, .box 25 (eBig x0))]⟩) rfl ?_
  refine Tri.seq ?_
  refine Tri.regionL ?_
  refine OpsL.cons rfl (op_move rfl) ?_
  refine OpsL.cons rfl (op_move rfl) ?_
  refine OpsL.consG x_1 99 [] (.plain rfl) (eq_t _) rfl rfl (fun g2 => trivial) (fun g2 => op_field_p tyFld25_0 rfl rfl) ?_
  refine OpsL.consG x_1 99 [8] (.plain rfl) (eq_t _) rfl rfl (fun g3 => ⟨g3, trivial⟩) (fun g3 => op_load_p1 tyOne4 rfl rfl rfl) ?_
  refine OpsL.consG x_1 99 [9] (.plain rfl) (eq_t _) rfl rfl (fun g4 => ⟨g4, trivial⟩) (fun g4 => op_not rfl) ?_
  refine OpsL.cons rfl (op_pick_and (fun e => e) rfl rfl rfl rfl) ?_
  refine OpsL.cons rfl (op_assign rfl) ?_
  refine OpsL.nilK [2] [] (s' := ⟨[(2, B (x_1 && (!x0.Bad)))], []⟩) rfl ?_
  refine Tri.ret ?_
  obtain rfl := Option.some.inj h
  refine Fin.keep [2] [] (s' := ⟨[(2, B (x_1 && (!x0.Bad)))], []⟩) rfl ?_
  refine Fin.result' [.one (.bool (x_1 && (!x0.Bad)))] (.inl rfl) rfl (.cons (.tmp rfl) .nil) ⟨rfl, rfl⟩

def skewbackref03_word_S (F : Nat) (x0 : Big) : Option (Int × Bool) :=
 Option.bind (skewbackref03_Good_S F x0) (fun x_1 => if ((!x_1) || (decide (1073741824 ≤ x0.W.a1))) = true then (some (0, false)) else (Option.bind (iter F (fun k_2 => if (decide (k_2 < 16)) = true then (Option.bind (idx? x0.W.l k_2) (fun x_3 => if (decide (x_3 ≠ 0)) = true then (some (.inr (.inr (0, false)))) else (some (.inl (IntKind.i64.wrap (k_2 + 1)))))) else (some (.inr (.inl ())))) 2) (alt2 (fun _ => letN (IntKind.i64.wrap ((IntKind.i64.wrap x0.W.a1) * 4294967296)) fun x_4 => letN (IntKind.i64.wrap (x_4 + (IntKind.i64.wrap x0.W.a0))) fun x_5 => if x0.Neg = true then (some (IntKind.i64.wrap (-x_5), true)) else (some (x_5, true))) (fun y => some y))))
theorem skewbackref03_word_spec {F : Nat} {x0 : Big} {r : Int × Bool} (h : skewbackref03_word_S F x0 = some r) : Meets Tryd.prog tabs 49 [] [.agg (eBig x0)] (Is [] (.tup [.one (.i r.1), .one (.bool r.2)])) := by
  unfold skewbackref03_word_S at h
  refine Meets.intro 41 Tryd.func49 Tryd.ntmps49 rfl (by simp) fun E => ?_
  show Tri _ E ⟨41, [], []⟩ _ ⟨[(0, .b (.agg (eBig x0)))], []⟩ _
  refine Tri.seq ?_
  refine Tri.regionL ?_
  refine OpsL.cons rfl (op_box (k := 101) rfl rfl) ?_
  refine OpsL.cons rfl (op_assign rfl) ?_
  refine OpsL.cons rfl (op_assign rfl) ?_
  refine OpsL.nilK [1] [101] (s' := ⟨[(1, .b (.ptr 101 0))], [(101, .box 25 (eBig x0))]⟩) rfl ?_
  refine Tri.seq ?_
  refine Tri.regionL ?_
  refine OpsL.cons rfl (op_load_p tyAgg25 rfl rfl rfl rfl) ?_
  obtain ⟨x_1, e1, h⟩ := bnd h
  refine OpsL.cons rfl (op_call0 (skewbackref03_Good_spec e1) goes35 rfl rfl) ?_
  refine OpsL.cons rfl (op_assign rfl) ?_
  refine OpsL.nilK [1, 4] [101] (s' := ⟨[(1, .b (.ptr 101 0)), (4, B x_1)], [(101, .box 25 (eBig x0))]⟩) rfl ?_
  refine Tri.seq ?_
  refine Tri.seq ?_
  refine Tri.regionL ?_
  refine OpsL.cons rfl (op_move rfl) ?_
  refine OpsL.cons rfl (op_not rfl) ?_
  refine OpsL.cons rfl (op_move rfl) ?_
  refine OpsL.consG (!(!x_1)) 99 [] (.plain rfl) (eq_f _) rfl rfl (fun g2 => trivial) (fun g2 => op_field_p tyFld25_2 rfl rfl) ?_
  refine OpsL.consG (!(!x_1)) 99 [12] (.plain rfl) (eq_f _) rfl rfl (fun g3 => ⟨g3, trivial⟩) (fun g3 => op_index_p tyArr23 (by decide) (by decide) rfl rfl rfl) ?_
  refine OpsL.consG (!(!x_1)) 99 [13] (.plain rfl) (eq_f _) rfl rfl (fun g4 => ⟨g4, trivial⟩) (fun g4 => op_load_p1 tyOne22 rfl rfl rfl) ?_
  refine OpsL.consG (!(!x_1)) 99 [14] (.plain rfl) (eq_f _) rfl rfl (fun g5 => ⟨g5, trivial⟩) (fun g5 => op_geq rfl rfl) ?_
  refine OpsL.cons rfl (op_pick_or (fun e => by rw [e]; rfl) rfl rfl rfl rfl) ?_
  refine OpsL.nilK [1, 16] [101] (s' := ⟨[(1, .b (.ptr 101 0)), (16, B ((!x_1) || (decide (1073741824 ≤ x0.W.a1))))], [(101, .box 25 (eBig x0))]⟩) rfl ?_
  refine Tri.ite h rfl (fun _ h => ?_) (fun _ h => ?_)
  · refine Tri.seq ?_
    refine Tri.regionL ?_
    refine OpsL.cons rfl (op_assign rfl) ?_
    refine OpsL.cons rfl (op_assign rfl) ?_
    refine OpsL.nilK [2, 3] [] (s' := ⟨[(2, I 0), (3, B false)], []⟩) rfl ?_
    refine Tri.ret ?_
    refine Fin.then_ret ?_
    obtain rfl := Option.some.inj h
    refine Fin.keep [2, 3] [] (s' := ⟨[(2, I 0), (3, B false)], []⟩) rfl ?_
    refine Fin.result' [.one (.i 0), .one (.bool false)] (.inl rfl) rfl (.cons (.tmp rfl) (.cons (.tmp rfl) .nil)) ⟨rfl, rfl⟩
  · refine Tri.skip ?_
    refine Fin.keep [1] [101] (s' := ⟨[(1, .b (.ptr 101 0))], [(101, .box 25 (eBig x0))]⟩) rfl ?_
    refine Fin.then ?_
    obtain ⟨v6, h7, h⟩ := bnd h
    refine Tri.seqJ (v := v6) (fun (_ : Unit) => ⟨[(1, .b (.ptr 101 0))], [(101, .box 25 (eBig x0))]⟩) (fun z => .inl z) ?_ ?_
    · refine Tri.seq ?_
      refine Tri.regionL ?_
      refine OpsL.cons rfl (op_assign rfl) ?_
      refine OpsL.nilK [1, 5] [101] (s' := ⟨[(1, .b (.ptr 101 0)), (5, I 2)], [(101, .box 25 (eBig x0))]⟩) rfl ?_
      refine Tri.block ?_
      refine Tri.loopJ h7 (fun (k_2 : Int) => ⟨[(1, .b (.ptr 101 0)), (5, I k_2)], [(101, .box 25 (eBig x0))]⟩) [1, 5] [101] rfl ?_
      rintro k_2 o8 h9 hy10
      refine Tri.seq ?_
      refine Tri.seq ?_
      refine Tri.regionL ?_
      refine OpsL.cons rfl (op_move rfl) ?_
      refine OpsL.cons rfl (op_lss rfl rfl) ?_
      refine OpsL.nilK [1, 5, 18] [101] (s' := ⟨[(1, .b (.ptr 101 0)), (5, I k_2), (18, B (decide (k_2 < 16)))], [(101, .box 25 (eBig x0))]⟩) rfl ?_
      refine Tri.ite h9 rfl (fun _ h9 => ?_) (fun _ h9 => ?_)
      · refine Tri.skip ?_
        refine Fin.keep [1, 5] [101] (s' := ⟨[(1, .b (.ptr 101 0)), (5, I k_2)], [(101, .box 25 (eBig x0))]⟩) rfl ?_
        refine Fin.then ?_
        refine Tri.seq ?_
        refine Tri.block ?_
        refine Tri.seq ?_
        refine Tri.regionL ?_
        refine OpsL.cons rfl (op_move rfl) ?_
        refine OpsL.cons rfl (op_field_p tyFld25_2 rfl rfl) ?_
        obtain ⟨x_3, e11, h9⟩ := bnd h9
        refine OpsL.cons rfl (op_index_p tyArr23 (ix_lo e11) (ix_hi e11) rfl rfl rfl) ?_
        refine OpsL.cons rfl (op_load_p1 tyOne22 rfl rfl (arr_get (post := []) (k := .u32) [.bool x0.Bad, .bool x0.Neg] e11 rfl rfl rfl)) ?_
        refine OpsL.cons rfl (op_neq rfl rfl) ?_
        refine OpsL.nilK [1, 5, 25] [101] (s' := ⟨[(1, .b (.ptr 101 0)), (5, I k_2), (25, B (decide (x_3 ≠ 0)))], [(101, .box 25 (eBig x0))]⟩) rfl ?_
        refine Tri.ite h9 rfl (fun _ h9 => ?_) (fun _ h9 => ?_)
        · refine Tri.seq ?_
          refine Tri.regionL ?_
          refine OpsL.cons rfl (op_assign rfl) ?_
          refine OpsL.cons rfl (op_assign rfl) ?_
          refine OpsL.nilK [2, 3] [] (s' := ⟨[(2, I 0), (3, B false)], []⟩) rfl ?_
          refine Tri.ret ?_
          refine Fin.block_ret ?_
          refine Fin.then_ret ?_
          obtain rfl := hy10 _ (Option.some.inj h9).symm
          refine Fin.then_ret ?_
          refine Fin.block_ret ?_
          refine Fin.then_ret ?_
          obtain rfl := Option.some.inj h
          refine Fin.keep [2, 3] [] (s' := ⟨[(2, I 0), (3, B false)], []⟩) rfl ?_
          refine Fin.result' [.one (.i 0), .one (.bool false)] (.inl rfl) rfl (.cons (.tmp rfl) (.cons (.tmp rfl) .nil)) ⟨rfl, rfl⟩
        · refine Tri.skip ?_
          refine Fin.block_normal ?_
          refine Fin.keep [1, 5] [101] (s' := ⟨[(1, .b (.ptr 101 0)), (5, I k_2)], [(101, .box 25 (eBig x0))]⟩) rfl ?_
          refine Fin.then ?_
          refine Tri.regionL ?_
          refine OpsL.cons rfl (op_move rfl) ?_
          refine OpsL.cons rfl (op_add rfl rfl) ?_
          refine OpsL.cons rfl (op_assign rfl) ?_
          refine OpsL.nil ?_
          exact Fin.againJ [1, 5] [101] (IntKind.i64.wrap (k_2 + 1)) (Option.some.inj h9) rfl
      · refine Tri.exit ?_
        refine Fin.then_exit ?_
        obtain rfl := hy10 _ (Option.some.inj h9).symm
        refine Fin.then_exit ?_
        refine Fin.block_exit ?_
        exact Fin.join [1] [101] () rfl rfl
    · rintro _ hv
      subst v6
      refine Tri.seq ?_
      refine Tri.regionL ?_
      refine OpsL.cons rfl (op_field_p tyFld25_2 rfl rfl) ?_
      refine OpsL.cons rfl (op_index_p tyArr23 (by decide) (by decide) rfl rfl rfl) ?_
      refine OpsL.cons rfl (op_load_p1 tyOne22 rfl rfl rfl) ?_
      refine OpsL.cons rfl (op_conv_wrap undi22 undi3 rfl) ?_
      refine OpsL.consI .i64 h rfl (op_mul rfl rfl) (fun x_4 h => ?_)
      refine OpsL.cons rfl (op_field_p tyFld25_2 rfl rfl) ?_
      refine OpsL.cons rfl (op_index_p tyArr23 (by decide) (by decide) rfl rfl rfl) ?_
      refine OpsL.keep [1, 30, 32] [101] (s' := ⟨[(1, .b (.ptr 101 0)), (30, I x_4), (32, .b (.ptr 101 2))], [(101, .box 25 (eBig x0))]⟩) rfl ?_
      refine OpsL.cons rfl (op_load_p1 tyOne22 rfl rfl rfl) ?_
      refine OpsL.cons rfl (op_conv_wrap undi22 undi3 rfl) ?_
      refine OpsL.consI .i64 h rfl (op_add rfl rfl) (fun x_5 h => ?_)
      refine OpsL.cons rfl (op_assign rfl) ?_
      refine OpsL.nilK [1, 6] [101] (s' := ⟨[(1, .b (.ptr 101 0)), (6, I x_5)], [(101, .box 25 (eBig x0))]⟩) rfl ?_
      refine Tri.seq ?_
      refine Tri.seq ?_
      refine Tri.regionL ?_
      refine OpsL.cons rfl (op_field_p tyFld25_1 rfl rfl) ?_
      refine OpsL.cons rfl (op_load_p1 tyOne4 rfl rfl rfl) ?_
      refine OpsL.nilK [6, 37] [] (s' := ⟨[(6, I x_5), (37, B x0.Neg)], []⟩) rfl ?_
      refine Tri.ite h rfl (fun _ h => ?_) (fun _ h => ?_)
      · refine Tri.seq ?_
        refine Tri.regionL ?_
        refine OpsL.cons rfl (op_move rfl) ?_
        refine OpsL.cons rfl (op_neg rfl) ?_
        refine OpsL.cons rfl (op_assign rfl) ?_
        refine OpsL.cons rfl (op_assign rfl) ?_
        refine OpsL.nilK [2, 3] [] (s' := ⟨[(2, I (IntKind.i64.wrap (-x_5))), (3, B true)], []⟩) rfl ?_
        refine Tri.ret ?_
        refine Fin.then_ret ?_
        obtain rfl := Option.some.inj h
        refine Fin.keep [2, 3] [] (s' := ⟨[(2, I (IntKind.i64.wrap (-x_5))), (3, B true)], []⟩) rfl ?_
        refine Fin.result' [.one (.i (IntKind.i64.wrap (-x_5))), .one (.bool true)] (.inl rfl) rfl (.cons (.tmp rfl) (.cons (.tmp rfl) .nil)) ⟨rfl, rfl⟩
      · refine Tri.skip ?_
        refine Fin.keep [6] [] (s' := ⟨[(6, I x_5)], []⟩) rfl ?_
        refine Fin.then ?_
        refine Tri.seq ?_
        refine Tri.regionL ?_
        refine OpsL.cons rfl (op_move rfl) ?_
        refine OpsL.cons rfl (op_assign rfl) ?_
        refine OpsL.cons rfl (op_assign rfl) ?_
        refine OpsL.nilK [2, 3] [] (s' := ⟨[(2, I x_5), (3, B true)], []⟩) rfl ?_
        refine Tri.ret ?_
        obtain rfl := Option.some.inj h
        refine Fin.keep [2, 3] [] (s' := ⟨[(2, I x_5), (3, B true)], []⟩) rfl ?_
        refine Fin.result' [.one (.i x_5), .one (.bool true)] (.inl rfl) rfl (.cons (.tmp rfl) (.cons (.tmp rfl) .nil)) ⟨rfl, rfl⟩

def skewbackref03_trim_S (F : Nat) (l0 : List Int) : Option (List Int) :=
 Option.bind (iter F (fun n_2 => Option.bind (gcall (decide (0 < n_2)) (idx? l0 (IntKind.i64.wrap (n_2 - 1)))) (fun x_4 => if ((decide (0 < n_2)) && (decide (x_4 = 0))) = true then (some (.inl (IntKind.i64.wrap (n_2 - 1)))) else (some (.inr n_2)))) (l0.length : Int)) (fun n_1 => Option.bind (take? l0 n_1) (fun x_5 => some x_5))
theorem skewbackref03_trim_spec {F : Nat} {l0 : List Int} {r : (List Int)} (h : skewbackref03_trim_S F l0 = some r) : Meets Tryd.prog tabs 70 [] [.one (.sl 1 (l0.map eI))] (Is [] (.b (.one (.sl 1 (r.map eI))))) := by
  unfold skewbackref03_trim_S at h
  refine Meets.intro 21 Tryd.func70 Tryd.ntmps70 rfl (by simp) fun E => ?_
  show Tri _ E ⟨21, [], []⟩ _ ⟨[(0, .b (.one (.sl 1 (l0.map eI))))], []⟩ _
  refine Tri.seq ?_
  refine Tri.regionL ?_
  refine OpsL.cons rfl (op_assign rfl) ?_
  refine OpsL.nilK [0] [] (s' := ⟨[(0, .b (.one (.sl 1 (l0.map eI))))], []⟩) rfl ?_
  refine Tri.seq ?_
  refine Tri.regionL ?_
  refine OpsL.cons rfl (op_move rfl) ?_
  refine OpsL.cons rfl (op_len_e' und54 rfl (List.length_map _)) ?_
  refine OpsL.cons rfl (op_assign rfl) ?_
  refine OpsL.nilK [0, 3] [] (s' := ⟨[(0, .b (.one (.sl 1 (l0.map eI)))), (3, I (l0.length : Int))], []⟩) rfl ?_
  obtain ⟨v1, h2, h⟩ := bnd h
  refine Tri.seqJ (v := v1) (fun (n_1 : Int) => ⟨[(0, .b (.one (.sl 1 (l0.map eI)))), (3, I n_1)], []⟩) (fun z => z) ?_ ?_
  · refine Tri.block ?_
    refine Tri.loopJ h2 (fun (n_2 : Int) => ⟨[(0, .b (.one (.sl 1 (l0.map eI)))), (3, I n_2)], []⟩) [0, 3] [] rfl ?_
    rintro n_2 o3 h4 hy5
    refine Tri.seq ?_
    refine Tri.seq ?_
    refine Tri.regionL ?_
    refine OpsL.cons rfl (op_move rfl) ?_
    refine OpsL.cons rfl (op_gtr rfl rfl) ?_
    refine OpsL.cons rfl (op_move rfl) ?_
    refine OpsL.consG (decide (0 < n_2)) 99 [] (.plain rfl) (eq_t _) rfl rfl (fun g6 => trivial) (fun g6 => op_move rfl) ?_
    refine OpsL.consG (decide (0 < n_2)) 99 [] (.plain rfl) (eq_t _) rfl rfl (fun g7 => trivial) (fun g7 => op_move rfl) ?_
    refine OpsL.consG (decide (0 < n_2)) 99 [10] (.plain rfl) (eq_t _) rfl rfl (fun g8 => ⟨g8, trivial⟩) (fun g8 => op_sub rfl rfl) ?_
    obtain ⟨x_4, e10, h4⟩ := bnd h4
    refine OpsL.consG (decide (0 < n_2)) 99 [9, 11] (.plain rfl) (eq_t _) rfl rfl (fun g9 => ⟨g9, g9, trivial⟩) (fun g9 => op_index_e tySl54 (ix_lo (gc e10 g9)) (ix_map (e := eI) (gc e10 g9)) rfl rfl) ?_
    refine OpsL.keep [0, 3, 8, 12] [] (s' := ⟨[(0, .b (.one (.sl 1 (l0.map eI)))), (3, I n_2), (8, B (decide (0 < n_2))), (12, .opt (decide (0 < n_2)) (.eptr [.i x_4]))], []⟩) rfl ?_
    refine OpsL.consG (decide (0 < n_2)) 99 [12] (.plain rfl) (eq_t _) rfl rfl (fun g11 => ⟨g11, trivial⟩) (fun g11 => op_load_e1 tyOne3 rfl rfl) ?_
    refine OpsL.consG (decide (0 < n_2)) 99 [13] (.plain rfl) (eq_t _) rfl rfl (fun g12 => ⟨g12, trivial⟩) (fun g12 => op_eql rfl rfl) ?_
    refine OpsL.cons rfl (op_pick_and (fun e => e) rfl rfl rfl rfl) ?_
    refine OpsL.nilK [0, 3, 15] [] (s' := ⟨[(0, .b (.one (.sl 1 (l0.map eI)))), (3, I n_2), (15, B ((decide (0 < n_2)) && (decide (x_4 = 0))))], []⟩) rfl ?_
    refine Tri.ite h4 rfl (fun _ h4 => ?_) (fun _ h4 => ?_)
    · refine Tri.skip ?_
      refine Fin.keep [0, 3] [] (s' := ⟨[(0, .b (.one (.sl 1 (l0.map eI)))), (3, I n_2)], []⟩) rfl ?_
      refine Fin.then ?_
      refine Tri.block ?_
      refine Tri.regionL ?_
      refine OpsL.cons rfl (op_move rfl) ?_
      refine OpsL.cons rfl (op_sub rfl rfl) ?_
      refine OpsL.cons rfl (op_assign rfl) ?_
      refine OpsL.nil ?_
      refine Fin.block_normal ?_
      exact Fin.againJ [0, 3] [] (IntKind.i64.wrap (n_2 - 1)) (Option.some.inj h4) rfl
    · refine Tri.exit ?_
      refine Fin.then_exit ?_
      obtain rfl := hy5 _ (Option.some.inj h4).symm
      refine Fin.then_exit ?_
      refine Fin.block_exit ?_
      exact Fin.join [0, 3] [] n_2 rfl rfl
  · rintro n_1 hv
    subst v1
    refine Tri.seq ?_
    refine Tri.regionL ?_
    refine OpsL.cons rfl (op_move rfl) ?_
    refine OpsL.cons rfl (op_move rfl) ?_
    obtain ⟨x_5, e13, h⟩ := bnd h
    refine OpsL.cons rfl (op_slice_h2 tySl54 e13 rfl rfl) ?_
    refine OpsL.cons rfl (op_assign rfl) ?_
    refine OpsL.nilK [2] [] (s' := ⟨[(2, .b (.one (.sl 1 (x_5.map eI))))], []⟩) rfl ?_
    refine Tri.ret ?_
    obtain rfl := Option.some.inj h
    refine Fin.keep [2] [] (s' := ⟨[(2, .b (.one (.sl 1 (x_5.map eI))))], []⟩) rfl ?_
    refine Fin.result' [.one (.sl 1 (x_5.map eI))] (.inl rfl) rfl (.cons (.tmp rfl) .nil) ⟨rfl, rfl⟩

def skewbackref03_Bad_S (F : Nat) : Option Big :=
 some (⟨true, false, A16.zero⟩ : Big)
theorem skewbackref03_Bad_spec {F : Nat} {r : Big} (h : skewbackref03_Bad_S F = some r) : Meets Tryd.prog tabs 51 [] [] (Is [] (.b (.agg (eBig r)))) := by
  unfold skewbackref03_Bad_S at h
  refine Meets.intro 2 Tryd.func51 Tryd.ntmps51 rfl (by simp) fun E => ?_
  show Tri _ E ⟨2, [], []⟩ _ ⟨[], []⟩ _
  refine Tri.seq ?_
  refine Tri.regionL ?_
  refine OpsL.cons rfl (op_alloc (k := 101) tyZero25 rfl) ?_
  refine OpsL.nilK [0] [101] (s' := ⟨[(0, .b (.ptr 101 0))], [(101, .box 25 (.bool false :: .bool false :: ((eA16 .u32) A16.zero)))]⟩) rfl ?_
  refine Tri.seq ?_
  refine Tri.regionL ?_
  refine OpsL.cons rfl (op_build tyBuild25 rfl rfl) ?_
  refine OpsL.cons rfl (op_store_p tyAgg25 rfl rfl rfl rfl (Nat.le_of_ble_eq_true rfl) rfl) ?_
  refine OpsL.nilK [0] [101] (s' := ⟨[(0, .b (.ptr 101 0))], [(101, .box 25 (.bool true :: .bool false :: ((eA16 .u32) A16.zero)))]⟩) rfl ?_
  refine Tri.ret ?_
  obtain rfl := Option.some.inj h
  refine Fin.keep [0] [101] (s' := ⟨[(0, .b (.ptr 101 0))], [(101, .box 25 (.bool true :: .bool false :: ((eA16 .u32) A16.zero)))]⟩) rfl ?_
  refine Fin.result' [.agg (.bool true :: .bool false :: ((eA16 .u32) A16.zero))] (.inl rfl) rfl (.cons (.agg tyAgg25 rfl rfl rfl rfl) .nil) ⟨rfl, rfl⟩

def skewbackref03_number_S (F : Nat) (neg0 : Bool) (l0 : List Int) : Option Big :=
 Option.bind (skewbackref03_trim_S F l0) (fun x_1 => if (decide (32 < (x_1.length : Int))) = true then (Option.bind (skewbackref03_Bad_S F) (fun x_2 => some x_2)) else (letN (⟨false, neg0 && (decide (0 < (x_1.length : Int))), A16.zero⟩ : Big) fun x_3 => Option.bind (iter F (un2 fun out_5 k_6 => if (decide (k_6 < (x_1.length : Int))) = true then (Option.bind (if (decide ((Int.tmod k_6 2) = 0)) = true then (Option.bind (quo? .i64 k_6 2) (fun x_9 => Option.bind (quo? .i64 k_6 2) (fun x_10 => Option.bind (idx? out_5.W.l x_10) (fun x_11 => Option.bind (idx? x_1 k_6) (fun x_12 => Option.bind (idx? out_5.W.l x_9) (fun x_13 => some (⟨out_5.Bad, out_5.Neg, out_5.W.set x_9 (IntKind.u32.wrap (x_11 + (IntKind.u32.wrap x_12)))⟩ : Big))))))) else (Option.bind (quo? .i64 k_6 2) (fun x_14 => Option.bind (quo? .i64 k_6 2) (fun x_15 => Option.bind (idx? out_5.W.l x_15) (fun x_16 => Option.bind (idx? x_1 k_6) (fun x_17 => Option.bind (idx? out_5.W.l x_14) (fun x_18 => some (⟨out_5.Bad, out_5.Neg, out_5.W.set x_14 (IntKind.u32.wrap (x_16 + (IntKind.u32.wrap ((IntKind.u32.wrap x_17) * 65536))))⟩ : Big)))))))) (fun out_8 => some (.inl (out_8, IntKind.i64.wrap (k_6 + 1))))) else (some (.inr out_5))) (x_3, 0)) (fun out_4 => some out_4)))
theorem skewbackref03_number_spec {F : Nat} {neg0 : Bool} {l0 : List Int} {r : Big} (h : skewbackref03_number_S F neg0 l0 = some r) : Meets Tryd.prog tabs 53 [] [.one (.bool neg0), .one (.sl 1 (l0.map eI))] (Is [] (.b (.agg (eBig r)))) := by
  unfold skewbackref03_number_S at h
  refine Meets.intro 62 Tryd.func53 Tryd.ntmps53 rfl (by simp) fun E => ?_
  show Tri _ E ⟨62, [], []⟩ _ ⟨[(0, B neg0), (1, .b (.one (.sl 1 (l0.map eI))))], []⟩ _
  refine Tri.seq ?_
  refine Tri.regionL ?_
  refine OpsL.cons rfl (op_alloc (k := 101) tyZero25 rfl) ?_
  refine OpsL.nilK [0, 1, 4] [101] (s' := ⟨[(0, B neg0), (1, .b (.one (.sl 1 (l0.map eI)))), (4, .b (.ptr 101 0))], [(101, .box 25 (.bool false :: .bool false :: ((eA16 .u32) A16.zero)))]⟩) rfl ?_
  refine Tri.seq ?_
  refine Tri.regionL ?_
  refine OpsL.cons rfl (op_move rfl) ?_
  obtain ⟨x_1, e1, h⟩ := bnd h
  refine OpsL.cons rfl (op_call0 (skewbackref03_trim_spec e1) goes70 rfl rfl) ?_
  refine OpsL.cons rfl (op_assign rfl) ?_
  refine OpsL.nilK [0, 4, 5] [101] (s' := ⟨[(0, B neg0), (4, .b (.ptr 101 0)), (5, .b (.one (.sl 1 (x_1.map eI))))], [(101, .box 25 (.bool false :: .bool false :: ((eA16 .u32) A16.zero)))]⟩) rfl ?_
  refine Tri.seq ?_
  refine Tri.seq ?_
  refine Tri.regionL ?_
  refine OpsL.cons rfl (op_move rfl) ?_
  refine OpsL.cons rfl (op_len_e' und54 rfl (List.length_map _)) ?_
  refine OpsL.cons rfl (op_gtr rfl rfl) ?_
  refine OpsL.nilK [0, 4, 5, 12] [101] (s' := ⟨[(0, B neg0), (4, .b (.ptr 101 0)), (5, .b (.one (.sl 1 (x_1.map eI)))), (12, B (decide (32 < (x_1.length : Int))))], [(101, .box 25 (.bool false :: .bool false :: ((eA16 .u32) A16.zero)))]⟩) rfl ?_
  refine Tri.ite h rfl (fun _ h => ?_) (fun _ h => ?_)
  · refine Tri.seq ?_
    refine Tri.regionL ?_
    obtain ⟨x_2, e2, h⟩ := bnd h
    refine OpsL.cons rfl (op_call0 (skewbackref03_Bad_spec e2) goes51 rfl rfl) ?_
    refine OpsL.cons rfl (op_store_p tyAgg25 rfl rfl rfl rfl (Nat.le_of_ble_eq_true rfl) rfl) ?_
    refine OpsL.nilK [4] [101] (s' := ⟨[(4, .b (.ptr 101 0))], [(101, .box 25 (eBig x_2))]⟩) rfl ?_
    refine Tri.ret ?_
    refine Fin.then_ret ?_
    obtain rfl := Option.some.inj h
    refine Fin.keep [4] [101] (s' := ⟨[(4, .b (.ptr 101 0))], [(101, .box 25 (eBig x_2))]⟩) rfl ?_
    refine Fin.result' [.agg (eBig x_2)] (.inl rfl) rfl (.cons (.agg tyAgg25 rfl rfl rfl rfl) .nil) ⟨rfl, rfl⟩
  · refine Tri.skip ?_
    refine Fin.keep [0, 4, 5] [101] (s' := ⟨[(0, B neg0), (4, .b (.ptr 101 0)), (5, .b (.one (.sl 1 (x_1.map eI))))], [(101, .box 25 (.bool false :: .bool false :: ((eA16 .u32) A16.zero)))]⟩) rfl ?_
    refine Fin.then ?_
    refine Tri.seq ?_
    refine Tri.regionL ?_
    refine OpsL.cons rfl (op_move rfl) ?_
    refine OpsL.cons rfl (op_move rfl) ?_
    refine OpsL.consG neg0 99 [] (.plain rfl) (eq_t _) rfl rfl (fun g3 => trivial) (fun g3 => op_move rfl) ?_
    refine OpsL.consG neg0 99 [16] (.plain rfl) (eq_t _) rfl rfl (fun g4 => ⟨g4, trivial⟩) (fun g4 => op_len_e' und54 rfl (List.length_map _)) ?_
    refine OpsL.consG neg0 99 [17] (.plain rfl) (eq_t _) rfl rfl (fun g5 => ⟨g5, trivial⟩) (fun g5 => op_gtr rfl rfl) ?_
    refine OpsL.cons rfl (op_pick_and (fun e => e) rfl rfl rfl rfl) ?_
    refine OpsL.keep [4, 5, 19] [101] (s' := ⟨[(4, .b (.ptr 101 0)), (5, .b (.one (.sl 1 (x_1.map eI)))), (19, B (neg0 && (decide (0 < (x_1.length : Int)))))], [(101, .box 25 (.bool false :: .bool false :: ((eA16 .u32) A16.zero)))]⟩) rfl ?_
    refine OpsL.consA eBig h rfl (op_build tyBuild25 rfl rfl) (fun x_3 h => ?_)
    refine OpsL.cons rfl (op_alloc (k := 102) tyZero25 rfl) ?_
    refine OpsL.cons rfl (op_store_p tyAgg25 rfl rfl rfl rfl (Nat.le_of_ble_eq_true rfl) rfl) ?_
    refine OpsL.nilK [4, 5, 6] [101, 102] (s' := ⟨[(4, .b (.ptr 101 0)), (5, .b (.one (.sl 1 (x_1.map eI)))), (6, .b (.ptr 102 0))], [(101, .box 25 (.bool false :: .bool false :: ((eA16 .u32) A16.zero))), (102, .box 25 (eBig x_3))]⟩) rfl ?_
    obtain ⟨v6, h7, h⟩ := bnd h
    refine Tri.seqJ (v := v6) (fun (out_4 : Big) => ⟨[(4, .b (.ptr 101 0)), (6, .b (.ptr 102 0))], [(101, .box 25 (.bool false :: .bool false :: ((eA16 .u32) A16.zero))), (102, .box 25 (eBig out_4))]⟩) (fun z => z) ?_ ?_
    · refine Tri.seq ?_
      refine Tri.regionL ?_
      refine OpsL.cons rfl (op_assign rfl) ?_
      refine OpsL.nilK [4, 5, 6, 7] [101, 102] (s' := ⟨[(4, .b (.ptr 101 0)), (5, .b (.one (.sl 1 (x_1.map eI)))), (6, .b (.ptr 102 0)), (7, I 0)], [(101, .box 25 (.bool false :: .bool false :: ((eA16 .u32) A16.zero))), (102, .box 25 (eBig x_3))]⟩) rfl ?_
      refine Tri.block ?_
      refine Tri.loopJ h7 (un2 fun (out_5 : Big) (k_6 : Int) => ⟨[(4, .b (.ptr 101 0)), (5, .b (.one (.sl 1 (x_1.map eI)))), (6, .b (.ptr 102 0)), (7, I k_6)], [(101, .box 25 (.bool false :: .bool false :: ((eA16 .u32) A16.zero))), (102, .box 25 (eBig out_5))]⟩) [4, 5, 6, 7] [101, 102] rfl ?_
      rintro ⟨out_5, k_6⟩ o8 h9 hy10
      refine Tri.seq ?_
      refine Tri.seq ?_
      refine Tri.regionL ?_
      refine OpsL.cons rfl (op_move rfl) ?_
      refine OpsL.cons rfl (op_move rfl) ?_
      refine OpsL.cons rfl (op_len_e' und54 rfl (List.length_map _)) ?_
      refine OpsL.cons rfl (op_lss rfl rfl) ?_
      refine OpsL.nilK [4, 5, 6, 7, 24] [101, 102] (s' := ⟨[(4, .b (.ptr 101 0)), (5, .b (.one (.sl 1 (x_1.map eI)))), (6, .b (.ptr 102 0)), (7, I k_6), (24, B (decide (k_6 < (x_1.length : Int))))], [(101, .box 25 (.bool false :: .bool false :: ((eA16 .u32) A16.zero))), (102, .box 25 (eBig out_5))]⟩) rfl ?_
      refine Tri.ite h9 rfl (fun _ h9 => ?_) (fun _ h9 => ?_)
      · refine Tri.skip ?_
        refine Fin.keep [4, 5, 6, 7] [101, 102] (s' := ⟨[(4, .b (.ptr 101 0)), (5, .b (.one (.sl 1 (x_1.map eI)))), (6, .b (.ptr 102 0)), (7, I k_6)], [(101, .box 25 (.bool false :: .bool false :: ((eA16 .u32) A16.zero))), (102, .box 25 (eBig out_5))]⟩) rfl ?_
        refine Fin.then ?_
        obtain ⟨v11, h12, h9⟩ := bnd h9
        refine Tri.seqJ (v := v11) (fun (out_8 : Big) => ⟨[(4, .b (.ptr 101 0)), (5, .b (.one (.sl 1 (x_1.map eI)))), (6, .b (.ptr 102 0)), (7, I k_6)], [(101, .box 25 (.bool false :: .bool false :: ((eA16 .u32) A16.zero))), (102, .box 25 (eBig out_8))]⟩) (fun z => z) ?_ ?_
        · refine Tri.block ?_
          refine Tri.seq ?_
          refine Tri.regionL ?_
          refine OpsL.cons rfl (op_move rfl) ?_
          refine OpsL.cons rfl (op_rem (by decide) rfl rfl) ?_
          refine OpsL.cons rfl (op_eql rfl rfl) ?_
          refine OpsL.nilK [4, 5, 6, 7, 29] [101, 102] (s' := ⟨[(4, .b (.ptr 101 0)), (5, .b (.one (.sl 1 (x_1.map eI)))), (6, .b (.ptr 102 0)), (7, I k_6), (29, B (decide ((Int.tmod k_6 2) = 0)))], [(101, .box 25 (.bool false :: .bool false :: ((eA16 .u32) A16.zero))), (102, .box 25 (eBig out_5))]⟩) rfl ?_
          refine Tri.ite h12 rfl (fun _ h12 => ?_) (fun _ h12 => ?_)
          · refine Tri.keep [4, 5, 6, 7] [101, 102] (s' := ⟨[(4, .b (.ptr 101 0)), (5, .b (.one (.sl 1 (x_1.map eI)))), (6, .b (.ptr 102 0)), (7, I k_6)], [(101, .box 25 (.bool false :: .bool false :: ((eA16 .u32) A16.zero))), (102, .box 25 (eBig out_5))]⟩) rfl ?_
            obtain ⟨x_9, e13, h12⟩ := bnd h12
            obtain ⟨x_10, e14, h12⟩ := bnd h12
            obtain ⟨x_11, e15, h12⟩ := bnd h12
            obtain ⟨x_12, e16, h12⟩ := bnd h12
            obtain ⟨x_13, e17, h12⟩ := bnd h12
            refine Tri.regionYF mixed 15 [I k_6, I x_9, I k_6, I x_10, .b (.ptr 102 2), .b (.ptr 102 (2 + (x_10 : Int).toNat * 1)), .b (.one (.int .u32 x_11)), .b (.one (.sl 1 (x_1.map eI))), I k_6, .b (.eptr [.i x_12]), I x_12, .b (.one (.int .u32 (IntKind.u32.wrap x_12))), .b (.one (.int .u32 (IntKind.u32.wrap (x_11 + (IntKind.u32.wrap x_12))))), .b (.ptr 102 2), .b (.ptr 102 (2 + (x_9 : Int).toNat * 1))] [4, 5, 6, 7] [101, 102] (s' := ⟨[(4, .b (.ptr 101 0)), (5, .b (.one (.sl 1 (x_1.map eI)))), (6, .b (.ptr 102 0)), (7, I k_6)], [(101, .box 25 (.bool false :: .bool false :: ((eA16 .u32) A16.zero))), (102, .box 25 (.bool out_5.Bad :: .bool out_5.Neg :: ((eA16 .u32) (out_5.W.set x_9 (IntKind.u32.wrap (x_11 + (IntKind.u32.wrap x_12)))))))]⟩) rfl ⟨fun _ => .plain rfl (op_move rfl), fun _ => .plain rfl (op_quo2 e13 rfl rfl), fun _ => .plain rfl (op_move rfl), fun _ => .plain rfl (op_quo2 e14 rfl rfl), fun _ => .plain rfl (op_field_p tyFld25_2 rfl rfl), fun _ => .plain rfl (op_index_p tyArr23 (ix_lo e15) (ix_hi e15) rfl rfl rfl), fun _ => .plain rfl (op_load_p1 tyOne22 rfl rfl (arr_get (post := []) (k := .u32) [.bool out_5.Bad, .bool out_5.Neg] e15 rfl rfl rfl)), fun _ => .plain rfl (op_move rfl), fun _ => .plain rfl (op_move rfl), fun _ => .plain rfl (op_index_e tySl54 (ix_lo e16) (ix_map (e := eI) e16) rfl rfl), fun _ => .plain rfl (op_load_e1 tyOne3 rfl rfl), fun _ => .plain rfl (op_conv_wrap undi3 undi22 rfl), fun _ => .plain rfl (op_add rfl rfl), fun _ => .plain rfl (op_field_p tyFld25_2 rfl rfl), fun _ => .plain rfl (op_index_p tyArr23 (ix_lo e17) (ix_hi e17) rfl rfl rfl), trivial⟩ ⟨_, by exact .plain rfl (op_store_p1 tyOne22 rfl rfl rfl (arr_lt (post := []) (k := .u32) [.bool out_5.Bad, .bool out_5.Neg] e17 rfl rfl rfl) (arr_set (post := []) (k := .u32) [.bool out_5.Bad, .bool out_5.Neg] e17 rfl rfl (A16.set_l out_5.W x_9 (IntKind.u32.wrap (x_11 + (IntKind.u32.wrap x_12)))) rfl rfl)), rfl⟩ rfl ?_
            refine Fin.block_normal ?_
            exact Fin.join [4, 5, 6, 7] [101, 102] (⟨out_5.Bad, out_5.Neg, out_5.W.set x_9 (IntKind.u32.wrap (x_11 + (IntKind.u32.wrap x_12)))⟩ : Big) (Option.some.inj h12) rfl
          · refine Tri.keep [4, 5, 6, 7] [101, 102] (s' := ⟨[(4, .b (.ptr 101 0)), (5, .b (.one (.sl 1 (x_1.map eI)))), (6, .b (.ptr 102 0)), (7, I k_6)], [(101, .box 25 (.bool false :: .bool false :: ((eA16 .u32) A16.zero))), (102, .box 25 (eBig out_5))]⟩) rfl ?_
            obtain ⟨x_14, e18, h12⟩ := bnd h12
            obtain ⟨x_15, e19, h12⟩ := bnd h12
            obtain ⟨x_16, e20, h12⟩ := bnd h12
            obtain ⟨x_17, e21, h12⟩ := bnd h12
            obtain ⟨x_18, e22, h12⟩ := bnd h12
            refine Tri.regionYF mixed 16 [I k_6, I x_14, I k_6, I x_15, .b (.ptr 102 2), .b (.ptr 102 (2 + (x_15 : Int).toNat * 1)), .b (.one (.int .u32 x_16)), .b (.one (.sl 1 (x_1.map eI))), I k_6, .b (.eptr [.i x_17]), I x_17, .b (.one (.int .u32 (IntKind.u32.wrap x_17))), .b (.one (.int .u32 (IntKind.u32.wrap ((IntKind.u32.wrap x_17) * 65536)))), .b (.one (.int .u32 (IntKind.u32.wrap (x_16 + (IntKind.u32.wrap ((IntKind.u32.wrap x_17) * 65536)))))), .b (.ptr 102 2), .b (.ptr 102 (2 + (x_14 : Int).toNat * 1))] [4, 5, 6, 7] [101, 102] (s' := ⟨[(4, .b (.ptr 101 0)), (5, .b (.one (.sl 1 (x_1.map eI)))), (6, .b (.ptr 102 0)), (7, I k_6)], [(101, .box 25 (.bool false :: .bool false :: ((eA16 .u32) A16.zero))), (102, .box 25 (.bool out_5.Bad :: .bool out_5.Neg :: ((eA16 .u32) (out_5.W.set x_14 (IntKind.u32.wrap (x_16 + (IntKind.u32.wrap ((IntKind.u32.wrap x_17) * 65536))))))))]⟩) rfl ⟨fun _ => .plain rfl (op_move rfl), fun _ => .plain rfl (op_quo2 e18 rfl rfl), fun _ => .plain rfl (op_move rfl), fun _ => .plain rfl (op_quo2 e19 rfl rfl), fun _ => .plain rfl (op_field_p tyFld25_2 rfl rfl), fun _ => .plain rfl (op_index_p tyArr23 (ix_lo e20) (ix_hi e20) rfl rfl rfl), fun _ => .plain rfl (op_load_p1 tyOne22 rfl rfl (arr_get (post := []) (k := .u32) [.bool out_5.Bad, .bool out_5.Neg] e20 rfl rfl rfl)), fun _ => .plain rfl (op_move rfl), fun _ => .plain rfl (op_move rfl), fun _ => .plain rfl (op_index_e tySl54 (ix_lo e21) (ix_map (e := eI) e21) rfl rfl), fun _ => .plain rfl (op_load_e1 tyOne3 rfl rfl), fun _ => .plain rfl (op_conv_wrap undi3 undi22 rfl), fun _ => .plain rfl (op_mul rfl rfl), fun _ => .plain rfl (op_add rfl rfl), fun _ => .plain rfl (op_field_p tyFld25_2 rfl rfl), fun _ => .plain rfl (op_index_p tyArr23 (ix_lo e22) (ix_hi e22) rfl rfl rfl), trivial⟩ ⟨_, by exact .plain rfl (op_store_p1 tyOne22 rfl rfl rfl (arr_lt (post := []) (k := .u32) [.bool out_5.Bad, .bool out_5.Neg] e22 rfl rfl rfl) (arr_set (post := []) (k := .u32) [.bool out_5.Bad, .bool out_5.Neg] e22 rfl rfl (A16.set_l out_5.W x_14 (IntKind.u32.wrap (x_16 + (IntKind.u32.wrap ((IntKind.u32.wrap x_17) * 65536))))) rfl rfl)), rfl⟩ rfl ?_
            refine Fin.block_normal ?_
            exact Fin.join [4, 5, 6, 7] [101, 102] (⟨out_5.Bad, out_5.Neg, out_5.W.set x_14 (IntKind.u32.wrap (x_16 + (IntKind.u32.wrap ((IntKind.u32.wrap x_17) * 65536))))⟩ : Big) (Option.some.inj h12) rfl
        · rintro out_8 hv
          subst v11
          refine Tri.regionL ?_
          refine OpsL.cons rfl (op_move rfl) ?_
          refine OpsL.cons rfl (op_add rfl rfl) ?_
          refine OpsL.cons rfl (op_assign rfl) ?_
          refine OpsL.nil ?_
          exact Fin.againJ [4, 5, 6, 7] [101, 102] (out_8, IntKind.i64.wrap (k_6 + 1)) (Option.some.inj h9) rfl
      · refine Tri.exit ?_
        refine Fin.then_exit ?_
        obtain rfl := hy10 _ (Option.some.inj h9).symm
        refine Fin.then_exit ?_
        refine Fin.block_exit ?_
        exact Fin.join [4, 6] [101, 102] out_5 rfl rfl
    · rintro out_4 hv
      subst v6
      refine Tri.seq ?_
      refine Tri.regionL ?_
      refine OpsL.cons rfl (op_load_p tyAgg25 rfl rfl rfl rfl) ?_
      refine OpsL.cons rfl (op_store_p tyAgg25 rfl rfl rfl rfl (Nat.le_of_ble_eq_true rfl) rfl) ?_
      refine OpsL.nilK [4] [101] (s' := ⟨[(4, .b (.ptr 101 0))], [(101, .box 25 (eBig out_4))]⟩) rfl ?_
      refine Tri.ret ?_
      obtain rfl := Option.some.inj h
      refine Fin.keep [4] [101] (s' := ⟨[(4, .b (.ptr 101 0))], [(101, .box 25 (eBig out_4))]⟩) rfl ?_
      refine Fin.result' [.agg (eBig out_4)] (.inl rfl) rfl (.cons (.agg tyAgg25 rfl rfl rfl rfl) .nil) ⟨rfl, rfl⟩

def skewbackref03_digit_S (F : Nat) (l0 : List Int) (k0 : Int) : Option Int :=
 if (decide (k0 < (l0.length : Int))) = true then (Option.bind (idx? l0 k0) (fun x_1 => some x_1)) else (some 0)
theorem skewbackref03_digit_spec {F : Nat} {l0 : List Int} {k0 : Int} {r : Int} (h : skewbackref03_digit_S F l0 k0 = some r) : Meets Tryd.prog tabs 76 [] [.one (.sl 1 (l0.map eI)), .one (.i k0)] (Is [] (.b (.one (.i r)))) := by
  unfold skewbackref03_digit_S at h
  refine Meets.intro 13 Tryd.func76 Tryd.ntmps76 rfl (by simp) fun E => ?_
  show Tri _ E ⟨13, [], []⟩ _ ⟨[(0, .b (.one (.sl 1 (l0.map eI)))), (1, I k0)], []⟩ _
  refine Tri.seq ?_
  refine Tri.regionL ?_
  refine OpsL.cons rfl (op_assign rfl) ?_
  refine OpsL.nilK [0, 1] [] (s' := ⟨[(0, .b (.one (.sl 1 (l0.map eI)))), (1, I k0)], []⟩) rfl ?_
  refine Tri.seq ?_
  refine Tri.seq ?_
  refine Tri.regionL ?_
  refine OpsL.cons rfl (op_move rfl) ?_
  refine OpsL.cons rfl (op_move rfl) ?_
  refine OpsL.cons rfl (op_len_e' und54 rfl (List.length_map _)) ?_
  refine OpsL.cons rfl (op_lss rfl rfl) ?_
  refine OpsL.nilK [0, 1, 8] [] (s' := ⟨[(0, .b (.one (.sl 1 (l0.map eI)))), (1, I k0), (8, B (decide (k0 < (l0.length : Int))))], []⟩) rfl ?_
  refine Tri.ite h rfl (fun _ h => ?_) (fun _ h => ?_)
  · refine Tri.seq ?_
    refine Tri.regionL ?_
    refine OpsL.cons rfl (op_move rfl) ?_
    refine OpsL.cons rfl (op_move rfl) ?_
    obtain ⟨x_1, e1, h⟩ := bnd h
    refine OpsL.cons rfl (op_index_e tySl54 (ix_lo e1) (ix_map (e := eI) e1) rfl rfl) ?_
    refine OpsL.cons rfl (op_load_e1 tyOne3 rfl rfl) ?_
    refine OpsL.cons rfl (op_assign rfl) ?_
    refine OpsL.nilK [4] [] (s' := ⟨[(4, I x_1)], []⟩) rfl ?_
    refine Tri.ret ?_
    refine Fin.then_ret ?_
    obtain rfl := Option.some.inj h
    refine Fin.keep [4] [] (s' := ⟨[(4, I x_1)], []⟩) rfl ?_
    refine Fin.result' [.one (.i x_1)] (.inl rfl) rfl (.cons (.tmp rfl) .nil) ⟨rfl, rfl⟩
  · refine Tri.skip ?_
    refine Fin.keep [] [] (s' := ⟨[], []⟩) rfl ?_
    refine Fin.then ?_
    refine Tri.seq ?_
    refine Tri.regionL ?_
    refine OpsL.cons rfl (op_assign rfl) ?_
    refine OpsL.nilK [4] [] (s' := ⟨[(4, I 0)], []⟩) rfl ?_
    refine Tri.ret ?_
    obtain rfl := Option.some.inj h
    refine Fin.keep [4] [] (s' := ⟨[(4, I 0)], []⟩) rfl ?_
    refine Fin.result' [.one (.i 0)] (.inl rfl) rfl (.cons (.tmp rfl) .nil) ⟨rfl, rfl⟩

def skewbackref03_plus_S (F : Nat) (a0 : List Int) (b0 : List Int) : Option (List Int) :=
 Option.bind (iter F (un3 fun out_2 carry_3 k_4 => letN (max (a0.length : Int) (b0.length : Int)) fun x_6 => if (decide (k_4 < (IntKind.i64.wrap (x_6 + 1)))) = true then (Option.bind (skewbackref03_digit_S F a0 k_4) (fun x_7 => Option.bind (skewbackref03_digit_S F b0 k_4) (fun x_8 => letN (IntKind.i64.wrap ((IntKind.i64.wrap (x_7 + x_8)) + carry_3)) fun x_9 => Option.bind (app? out_2 [Int.tmod x_9 65536]) (fun x_10 => Option.bind (quo? .i64 x_9 65536) (fun x_11 => some (.inl (x_10, x_11, IntKind.i64.wrap (k_4 + 1)))))))) else (some (.inr out_2))) ([], 0, 0)) (fun out_1 => Option.bind (skewbackref03_trim_S F out_1) (fun x_12 => some x_12))
theorem skewbackref03_plus_spec {F : Nat} {a0 : List Int} {b0 : List Int} {r : (List Int)} (h : skewbackref03_plus_S F a0 b0 = some r) : Meets Tryd.prog tabs 54 [] [.one (.sl 1 (a0.map eI)), .one (.sl 1 (b0.map eI))] (Is [] (.b (.one (.sl 1 (r.map eI))))) := by
  unfold skewbackref03_plus_S at h
  refine Meets.intro 37 Tryd.func54 Tryd.ntmps54 rfl (by simp) fun E => ?_
  show Tri _ E ⟨37, [], []⟩ _ ⟨[(0, .b (.one (.sl 1 (a0.map eI)))), (1, .b (.one (.sl 1 (b0.map eI))))], []⟩ _
  refine Tri.seq ?_
  refine Tri.regionL ?_
  refine OpsL.cons rfl (op_assign rfl) ?_
  refine OpsL.nilK [0, 1] [] (s' := ⟨[(0, .b (.one (.sl 1 (a0.map eI)))), (1, .b (.one (.sl 1 (b0.map eI))))], []⟩) rfl ?_
  refine Tri.seq ?_
  refine Tri.regionL ?_
  refine OpsL.cons rfl (op_assign rfl) ?_
  refine OpsL.nilK [0, 1, 5] [] (s' := ⟨[(0, .b (.one (.sl 1 (a0.map eI)))), (1, .b (.one (.sl 1 (b0.map eI)))), (5, .b (.one (.nil)))], []⟩) rfl ?_
  refine Tri.seq ?_
  refine Tri.regionL ?_
  refine OpsL.cons rfl (op_assign rfl) ?_
  refine OpsL.nilK [0, 1, 5, 6] [] (s' := ⟨[(0, .b (.one (.sl 1 (a0.map eI)))), (1, .b (.one (.sl 1 (b0.map eI)))), (5, .b (.one (.nil))), (6, I 0)], []⟩) rfl ?_
  obtain ⟨v1, h2, h⟩ := bnd h
  refine Tri.seqJ (v := v1) (fun (out_1 : List Int) => ⟨[(5, .b (.row 102))], [(102, .row 3 1 (out_1.map eI))]⟩) (fun z => z) ?_ ?_
  · refine Tri.seq ?_
    refine Tri.regionL ?_
    refine OpsL.cons rfl (op_assign rfl) ?_
    refine OpsL.nilK [0, 1, 5, 6, 7] [] (s' := ⟨[(0, .b (.one (.sl 1 (a0.map eI)))), (1, .b (.one (.sl 1 (b0.map eI)))), (5, .b (.one (.nil))), (6, I 0), (7, I 0)], []⟩) rfl ?_
    refine Tri.block ?_
    refine Tri.keep [0, 1, 5, 6, 7] [] (s' := ⟨[(0, .b (.one (.sl 1 (a0.map eI)))), (1, .b (.one (.sl 1 (b0.map eI)))), (5, .b (.one (.nil))), (6, I 0), (7, I 0)], []⟩) rfl ?_
    refine Tri.nilrow 5 102 1 3 rfl (by decide) rfl ?_
    refine Tri.loopJ h2 (un3 fun (out_2 : List Int) (carry_3 : Int) (k_4 : Int) => ⟨[(0, .b (.one (.sl 1 (a0.map eI)))), (1, .b (.one (.sl 1 (b0.map eI)))), (5, .b (.row 102)), (6, I carry_3), (7, I k_4)], [(102, .row 3 1 (out_2.map eI))]⟩) [0, 1, 5, 6, 7] [102] rfl ?_
    rintro ⟨out_2, carry_3, k_4⟩ o3 h4 hy5
    refine Tri.seq ?_
    refine Tri.seq ?_
    refine Tri.regionL ?_
    refine OpsL.cons rfl (op_move rfl) ?_
    refine OpsL.cons rfl (op_move rfl) ?_
    refine OpsL.cons rfl (op_len_e' und54 rfl (List.length_map _)) ?_
    refine OpsL.cons rfl (op_move rfl) ?_
    refine OpsL.cons rfl (op_len_e' und54 rfl (List.length_map _)) ?_
    refine OpsL.keep [0, 1, 5, 6, 7, 9, 11, 13] [102] (s' := ⟨[(0, .b (.one (.sl 1 (a0.map eI)))), (1, .b (.one (.sl 1 (b0.map eI)))), (5, .b (.row 102)), (6, I carry_3), (7, I k_4), (9, I k_4), (11, I (a0.length : Int)), (13, I (b0.length : Int))], [(102, .row 3 1 (out_2.map eI))]⟩) rfl ?_
    refine OpsL.consI .i64 h4 rfl (op_max rfl rfl) (fun x_6 h4 => ?_)
    refine OpsL.cons rfl (op_add rfl rfl) ?_
    refine OpsL.cons rfl (op_lss rfl rfl) ?_
    refine OpsL.nilK [0, 1, 5, 6, 7, 16] [102] (s' := ⟨[(0, .b (.one (.sl 1 (a0.map eI)))), (1, .b (.one (.sl 1 (b0.map eI)))), (5, .b (.row 102)), (6, I carry_3), (7, I k_4), (16, B (decide (k_4 < (IntKind.i64.wrap (x_6 + 1)))))], [(102, .row 3 1 (out_2.map eI))]⟩) rfl ?_
    refine Tri.ite h4 rfl (fun _ h4 => ?_) (fun _ h4 => ?_)
    · refine Tri.skip ?_
      refine Fin.keep [0, 1, 5, 6, 7] [102] (s' := ⟨[(0, .b (.one (.sl 1 (a0.map eI)))), (1, .b (.one (.sl 1 (b0.map eI)))), (5, .b (.row 102)), (6, I carry_3), (7, I k_4)], [(102, .row 3 1 (out_2.map eI))]⟩) rfl ?_
      refine Fin.then ?_
      refine Tri.seq ?_
      refine Tri.block ?_
      refine Tri.seq ?_
      refine Tri.regionL ?_
      refine OpsL.cons rfl (op_move rfl) ?_
      refine OpsL.cons rfl (op_move rfl) ?_
      obtain ⟨x_7, e6, h4⟩ := bnd h4
      refine OpsL.cons rfl (op_call0 (skewbackref03_digit_spec e6) goes76 rfl rfl) ?_
      refine OpsL.cons rfl (op_move rfl) ?_
      refine OpsL.cons rfl (op_move rfl) ?_
      refine OpsL.keep [0, 1, 5, 6, 7, 21, 22, 23] [102] (s' := ⟨[(0, .b (.one (.sl 1 (a0.map eI)))), (1, .b (.one (.sl 1 (b0.map eI)))), (5, .b (.row 102)), (6, I carry_3), (7, I k_4), (21, I x_7), (22, .b (.one (.sl 1 (b0.map eI)))), (23, I k_4)], [(102, .row 3 1 (out_2.map eI))]⟩) rfl ?_
      obtain ⟨x_8, e7, h4⟩ := bnd h4
      refine OpsL.cons rfl (op_call0 (skewbackref03_digit_spec e7) goes76 rfl rfl) ?_
      refine OpsL.cons rfl (op_add rfl rfl) ?_
      refine OpsL.cons rfl (op_move rfl) ?_
      refine OpsL.consI .i64 h4 rfl (op_add rfl rfl) (fun x_9 h4 => ?_)
      refine OpsL.cons rfl (op_assign rfl) ?_
      refine OpsL.nilK [0, 1, 5, 7, 8] [102] (s' := ⟨[(0, .b (.one (.sl 1 (a0.map eI)))), (1, .b (.one (.sl 1 (b0.map eI)))), (5, .b (.row 102)), (7, I k_4), (8, I x_9)], [(102, .row 3 1 (out_2.map eI))]⟩) rfl ?_
      refine Tri.seq ?_
      refine Tri.regionL ?_
      refine OpsL.cons rfl (op_move rfl) ?_
      refine OpsL.cons rfl (op_move rfl) ?_
      refine OpsL.cons rfl (op_rem (by decide) rfl rfl) ?_
      refine OpsL.cons rfl (op_buildSlice (k := 103) (es := [Int.tmod x_9 65536].map eI) tySl54 rfl rfl (uni_map fun _ => rfl) rfl (by decide) (by decide) rfl) ?_
      obtain ⟨x_10, e8, h4⟩ := bnd h4
      refine OpsL.cons rfl (op_append_r tySl54 (app_b e8) (app_m e8) rfl rfl rfl rfl (app_map e8) rfl) ?_
      refine OpsL.cons rfl (op_assign rfl) ?_
      refine OpsL.nilK [0, 1, 5, 7, 8] [102] (s' := ⟨[(0, .b (.one (.sl 1 (a0.map eI)))), (1, .b (.one (.sl 1 (b0.map eI)))), (5, .b (.row 102)), (7, I k_4), (8, I x_9)], [(102, .row 3 1 (x_10.map eI))]⟩) rfl ?_
      refine Tri.regionL ?_
      refine OpsL.cons rfl (op_move rfl) ?_
      obtain ⟨x_11, e9, h4⟩ := bnd h4
      refine OpsL.cons rfl (op_quo2 e9 rfl rfl) ?_
      refine OpsL.cons rfl (op_assign rfl) ?_
      refine OpsL.nil ?_
      refine Fin.block_normal ?_
      refine Fin.keep [0, 1, 5, 6, 7] [102] (s' := ⟨[(0, .b (.one (.sl 1 (a0.map eI)))), (1, .b (.one (.sl 1 (b0.map eI)))), (5, .b (.row 102)), (6, I x_11), (7, I k_4)], [(102, .row 3 1 (x_10.map eI))]⟩) rfl ?_
      refine Fin.then ?_
      refine Tri.regionL ?_
      refine OpsL.cons rfl (op_move rfl) ?_
      refine OpsL.cons rfl (op_add rfl rfl) ?_
      refine OpsL.cons rfl (op_assign rfl) ?_
      refine OpsL.nil ?_
      exact Fin.againJ [0, 1, 5, 6, 7] [102] (x_10, x_11, IntKind.i64.wrap (k_4 + 1)) (Option.some.inj h4) rfl
    · refine Tri.exit ?_
      refine Fin.then_exit ?_
      obtain rfl := hy5 _ (Option.some.inj h4).symm
      refine Fin.then_exit ?_
      refine Fin.block_exit ?_
      exact Fin.join [5] [102] out_2 rfl rfl
  · rintro out_1 hv
    subst v1
    refine Tri.seq ?_
    refine Tri.regionL ?_
    refine OpsL.cons rfl (op_move rfl) ?_
    refine OpsL.persist 102 rfl ?_
    obtain ⟨x_12, e10, h⟩ := bnd h
    refine OpsL.cons rfl (op_call0 (skewbackref03_trim_spec e10) goes70 rfl rfl) ?_
    refine OpsL.cons rfl (op_assign rfl) ?_
    refine OpsL.nilK [4] [] (s' := ⟨[(4, .b (.one (.sl 1 (x_12.map eI))))], []⟩) rfl ?_
    refine Tri.ret ?_
    obtain rfl := Option.some.inj h
    refine Fin.keep [4] [] (s' := ⟨[(4, .b (.one (.sl 1 (x_12.map eI))))], []⟩) rfl ?_
    refine Fin.result' [.one (.sl 1 (x_12.map eI))] (.inl rfl) rfl (.cons (.tmp rfl) .nil) ⟨rfl, rfl⟩

def skewbackref03_Of_S (F : Nat) (n0 : Int) : Option Big :=
 if (decide (0 ≤ n0)) = true then (Option.bind (quo? .i64 n0 65536) (fun x_1 => Option.bind (quo? .i64 n0 4294967296) (fun x_2 => Option.bind (quo? .i64 n0 281474976710656) (fun x_3 => Option.bind (skewbackref03_number_S F false [Int.tmod n0 65536, Int.tmod x_1 65536, Int.tmod x_2 65536, x_3]) (fun x_4 => some x_4))))) else (letN (IntKind.i64.wrap (-(IntKind.i64.wrap (n0 + 1)))) fun x_5 => Option.bind (quo? .i64 x_5 65536) (fun x_6 => Option.bind (quo? .i64 x_5 4294967296) (fun x_7 => Option.bind (quo? .i64 x_5 281474976710656) (fun x_8 => Option.bind (skewbackref03_plus_S F [Int.tmod x_5 65536, Int.tmod x_6 65536, Int.tmod x_7 65536, x_8] [1]) (fun x_9 => Option.bind (skewbackref03_number_S F true x_9) (fun x_10 => some x_10))))))
theorem skewbackref03_Of_spec {F : Nat} {n0 : Int} {r : Big} (h : skewbackref03_Of_S F n0 = some r) : Meets Tryd.prog tabs 50 [] [.one (.i n0)] (Is [] (.b (.agg (eBig r)))) := by
  unfold skewbackref03_Of_S at h
  refine Meets.intro 35 Tryd.func50 Tryd.ntmps50 rfl (by simp) fun E => ?_
  show Tri _ E ⟨35, [], []⟩ _ ⟨[(0, I n0)], []⟩ _
  refine Tri.seq ?_
  refine Tri.regionL ?_
  refine OpsL.cons rfl (op_alloc (k := 101) tyZero25 rfl) ?_
  refine OpsL.nilK [0, 2] [101] (s' := ⟨[(0, I n0), (2, .b (.ptr 101 0))], [(101, .box 25 (.bool false :: .bool false :: ((eA16 .u32) A16.zero)))]⟩) rfl ?_
  refine Tri.seq ?_
  refine Tri.seq ?_
  refine Tri.regionL ?_
  refine OpsL.cons rfl (op_move rfl) ?_
  refine OpsL.cons rfl (op_geq rfl rfl) ?_
  refine OpsL.nilK [0, 2, 5] [101] (s' := ⟨[(0, I n0), (2, .b (.ptr 101 0)), (5, B (decide (0 ≤ n0)))], [(101, .box 25 (.bool false :: .bool false :: ((eA16 .u32) A16.zero)))]⟩) rfl ?_
  refine Tri.ite h rfl (fun _ h => ?_) (fun _ h => ?_)
  · refine Tri.seq ?_
    refine Tri.regionL ?_
    refine OpsL.cons rfl (op_move rfl) ?_
    refine OpsL.cons rfl (op_rem (by decide) rfl rfl) ?_
    refine OpsL.cons rfl (op_move rfl) ?_
    obtain ⟨x_1, e1, h⟩ := bnd h
    refine OpsL.cons rfl (op_quo2 e1 rfl rfl) ?_
    refine OpsL.cons rfl (op_rem (by decide) rfl rfl) ?_
    refine OpsL.cons rfl (op_move rfl) ?_
    obtain ⟨x_2, e2, h⟩ := bnd h
    refine OpsL.cons rfl (op_quo2 e2 rfl rfl) ?_
    refine OpsL.keep [0, 2, 7, 10, 12] [101] (s' := ⟨[(0, I n0), (2, .b (.ptr 101 0)), (7, I (Int.tmod n0 65536)), (10, I (Int.tmod x_1 65536)), (12, I x_2)], [(101, .box 25 (.bool false :: .bool false :: ((eA16 .u32) A16.zero)))]⟩) rfl ?_
    refine OpsL.cons rfl (op_rem (by decide) rfl rfl) ?_
    refine OpsL.cons rfl (op_move rfl) ?_
    obtain ⟨x_3, e3, h⟩ := bnd h
    refine OpsL.cons rfl (op_quo2 e3 rfl rfl) ?_
    refine OpsL.cons rfl (op_buildSlice (k := 102) (es := [Int.tmod n0 65536, Int.tmod x_1 65536, Int.tmod x_2 65536, x_3].map eI) tySl54 rfl rfl (uni_map fun _ => rfl) rfl (by decide) (by decide) rfl) ?_
    obtain ⟨x_4, e4, h⟩ := bnd h
    refine OpsL.cons rfl (op_callB (skewbackref03_number_spec e4) goes53 rfl (flat_agg ⟨CP.flat_bool, CP.flat_bool, CP.flat_int, CP.flat_int, CP.flat_int, CP.flat_int, CP.flat_int, CP.flat_int, CP.flat_int, CP.flat_int, CP.flat_int, CP.flat_int, CP.flat_int, CP.flat_int, CP.flat_int, CP.flat_int, CP.flat_int, CP.flat_int, trivial⟩)) ?_
    refine OpsL.cons rfl (op_store_p tyAgg25 rfl rfl rfl rfl (Nat.le_of_ble_eq_true rfl) rfl) ?_
    refine OpsL.nilK [2] [101] (s' := ⟨[(2, .b (.ptr 101 0))], [(101, .box 25 (eBig x_4))]⟩) rfl ?_
    refine Tri.ret ?_
    refine Fin.then_ret ?_
    obtain rfl := Option.some.inj h
    refine Fin.keep [2] [101] (s' := ⟨[(2, .b (.ptr 101 0))], [(101, .box 25 (eBig x_4))]⟩) rfl ?_
    refine Fin.result' [.agg (eBig x_4)] (.inl rfl) rfl (.cons (.agg tyAgg25 rfl rfl rfl rfl) .nil) ⟨rfl, rfl⟩
  · refine Tri.skip ?_
    refine Fin.keep [0, 2] [101] (s' := ⟨[(0, I n0), (2, .b (.ptr 101 0))], [(101, .box 25 (.bool false :: .bool false :: ((eA16 .u32) A16.zero)))]⟩) rfl ?_
    refine Fin.then ?_
    refine Tri.seq ?_
    refine Tri.regionL ?_
    refine OpsL.cons rfl (op_move rfl) ?_
    refine OpsL.cons rfl (op_add rfl rfl) ?_
    refine OpsL.consI .i64 h rfl (op_neg rfl) (fun x_5 h => ?_)
    refine OpsL.cons rfl (op_assign rfl) ?_
    refine OpsL.nilK [2, 3] [101] (s' := ⟨[(2, .b (.ptr 101 0)), (3, I x_5)], [(101, .box 25 (.bool false :: .bool false :: ((eA16 .u32) A16.zero)))]⟩) rfl ?_
    refine Tri.seq ?_
    refine Tri.regionL ?_
    refine OpsL.cons rfl (op_move rfl) ?_
    refine OpsL.cons rfl (op_rem (by decide) rfl rfl) ?_
    refine OpsL.cons rfl (op_move rfl) ?_
    obtain ⟨x_6, e5, h⟩ := bnd h
    refine OpsL.cons rfl (op_quo2 e5 rfl rfl) ?_
    refine OpsL.cons rfl (op_rem (by decide) rfl rfl) ?_
    refine OpsL.cons rfl (op_move rfl) ?_
    obtain ⟨x_7, e6, h⟩ := bnd h
    refine OpsL.cons rfl (op_quo2 e6 rfl rfl) ?_
    refine OpsL.keep [2, 3, 22, 25, 27] [101] (s' := ⟨[(2, .b (.ptr 101 0)), (3, I x_5), (22, I (Int.tmod x_5 65536)), (25, I (Int.tmod x_6 65536)), (27, I x_7)], [(101, .box 25 (.bool false :: .bool false :: ((eA16 .u32) A16.zero)))]⟩) rfl ?_
    refine OpsL.cons rfl (op_rem (by decide) rfl rfl) ?_
    refine OpsL.cons rfl (op_move rfl) ?_
    obtain ⟨x_8, e7, h⟩ := bnd h
    refine OpsL.cons rfl (op_quo2 e7 rfl rfl) ?_
    refine OpsL.cons rfl (op_buildSlice (k := 103) (es := [Int.tmod x_5 65536, Int.tmod x_6 65536, Int.tmod x_7 65536, x_8].map eI) tySl54 rfl rfl (uni_map fun _ => rfl) rfl (by decide) (by decide) rfl) ?_
    refine OpsL.cons rfl (op_buildSlice (k := 104) (es := [1].map eI) tySl54 rfl rfl (uni_map fun _ => rfl) rfl (by decide) (by decide) rfl) ?_
    refine OpsL.persist 103 rfl ?_
    refine OpsL.persist 104 rfl ?_
    refine OpsL.keep [2, 31, 32] [101] (s' := ⟨[(2, .b (.ptr 101 0)), (31, .b (.one (.sl 1 ([Int.tmod x_5 65536, Int.tmod x_6 65536, Int.tmod x_7 65536, x_8].map eI)))), (32, .b (.one (.sl 1 ([1].map eI))))], [(101, .box 25 (.bool false :: .bool false :: ((eA16 .u32) A16.zero)))]⟩) rfl ?_
    obtain ⟨x_9, e8, h⟩ := bnd h
    refine OpsL.cons rfl (op_call0 (skewbackref03_plus_spec e8) goes54 rfl rfl) ?_
    obtain ⟨x_10, e9, h⟩ := bnd h
    refine OpsL.cons rfl (op_call0 (skewbackref03_number_spec e9) goes53 rfl rfl) ?_
    refine OpsL.cons rfl (op_store_p tyAgg25 rfl rfl rfl rfl (Nat.le_of_ble_eq_true rfl) rfl) ?_
    refine OpsL.nilK [2] [101] (s' := ⟨[(2, .b (.ptr 101 0))], [(101, .box 25 (eBig x_10))]⟩) rfl ?_
    refine Tri.ret ?_
    obtain rfl := Option.some.inj h
    refine Fin.keep [2] [101] (s' := ⟨[(2, .b (.ptr 101 0))], [(101, .box 25 (eBig x_10))]⟩) rfl ?_
    refine Fin.result' [.agg (eBig x_10)] (.inl rfl) rfl (.cons (.agg tyAgg25 rfl rfl rfl rfl) .nil) ⟨rfl, rfl⟩

def skewbackref03_digits_S (F : Nat) (x0 : Big) : Option (List Int) :=
 Option.bind (iter F (un2 fun out_2 k_3 => if (decide (k_3 < 16)) = true then (Option.bind (idx? x0.W.l k_3) (fun x_5 => Option.bind (idx? x0.W.l k_3) (fun x_6 => Option.bind (quo? .u32 x_6 65536) (fun x_7 => Option.bind (app? out_2 [IntKind.i64.wrap (Int.tmod x_5 65536), IntKind.i64.wrap x_7]) (fun x_8 => some (.inl (x_8, IntKind.i64.wrap (k_3 + 1)))))))) else (some (.inr out_2))) ([], 0)) (fun out_1 => Option.bind (skewbackref03_trim_S F out_1) (fun x_9 => some x_9))
theorem skewbackref03_digits_spec {F : Nat} {x0 : Big} {r : (List Int)} (h : skewbackref03_digits_S F x0 = some r) : Meets Tryd.prog tabs 52 [] [.agg (eBig x0)] (Is [] (.b (.one (.sl 1 (r.map eI))))) := by
  unfold skewbackref03_digits_S at h
  refine Meets.intro 26 Tryd.func52 Tryd.ntmps52 rfl (by simp) fun E => ?_
  show Tri _ E ⟨26, [], []⟩ _ ⟨[(0, .b (.agg (eBig x0)))], []⟩ _
  refine Tri.seq ?_
  refine Tri.regionL ?_
  refine OpsL.cons rfl (op_box (k := 101) rfl rfl) ?_
  refine OpsL.cons rfl (op_assign rfl) ?_
  refine OpsL.nilK [1] [101] (s' := ⟨[(1, .b (.ptr 101 0))], [(101, .box 25 (eBig x0))]⟩) rfl ?_
  refine Tri.seq ?_
  refine Tri.regionL ?_
  refine OpsL.cons rfl (op_assign rfl) ?_
  refine OpsL.nilK [1, 3] [101] (s' := ⟨[(1, .b (.ptr 101 0)), (3, .b (.one (.nil)))], [(101, .box 25 (eBig x0))]⟩) rfl ?_
  obtain ⟨v1, h2, h⟩ := bnd h
  refine Tri.seqJ (v := v1) (fun (out_1 : List Int) => ⟨[(3, .b (.row 103))], [(103, .row 3 1 (out_1.map eI))]⟩) (fun z => z) ?_ ?_
  · refine Tri.seq ?_
    refine Tri.regionL ?_
    refine OpsL.cons rfl (op_assign rfl) ?_
    refine OpsL.nilK [1, 3, 4] [101] (s' := ⟨[(1, .b (.ptr 101 0)), (3, .b (.one (.nil))), (4, I 0)], [(101, .box 25 (eBig x0))]⟩) rfl ?_
    refine Tri.block ?_
    refine Tri.keep [1, 3, 4] [101] (s' := ⟨[(1, .b (.ptr 101 0)), (3, .b (.one (.nil))), (4, I 0)], [(101, .box 25 (eBig x0))]⟩) rfl ?_
    refine Tri.nilrow 3 103 1 3 rfl (by decide) rfl ?_
    refine Tri.loopJ h2 (un2 fun (out_2 : List Int) (k_3 : Int) => ⟨[(1, .b (.ptr 101 0)), (3, .b (.row 103)), (4, I k_3)], [(101, .box 25 (eBig x0)), (103, .row 3 1 (out_2.map eI))]⟩) [1, 3, 4] [101, 103] rfl ?_
    rintro ⟨out_2, k_3⟩ o3 h4 hy5
    refine Tri.seq ?_
    refine Tri.seq ?_
    refine Tri.regionL ?_
    refine OpsL.cons rfl (op_move rfl) ?_
    refine OpsL.cons rfl (op_lss rfl rfl) ?_
    refine OpsL.nilK [1, 3, 4, 6] [101, 103] (s' := ⟨[(1, .b (.ptr 101 0)), (3, .b (.row 103)), (4, I k_3), (6, B (decide (k_3 < 16)))], [(101, .box 25 (eBig x0)), (103, .row 3 1 (out_2.map eI))]⟩) rfl ?_
    refine Tri.ite h4 rfl (fun _ h4 => ?_) (fun _ h4 => ?_)
    · refine Tri.skip ?_
      refine Fin.keep [1, 3, 4] [101, 103] (s' := ⟨[(1, .b (.ptr 101 0)), (3, .b (.row 103)), (4, I k_3)], [(101, .box 25 (eBig x0)), (103, .row 3 1 (out_2.map eI))]⟩) rfl ?_
      refine Fin.then ?_
      refine Tri.seq ?_
      refine Tri.block ?_
      refine Tri.keep [1, 3, 4] [101, 103] (s' := ⟨[(1, .b (.ptr 101 0)), (3, .b (.row 103)), (4, I k_3)], [(101, .box 25 (eBig x0)), (103, .row 3 1 (out_2.map eI))]⟩) rfl ?_
      obtain ⟨x_5, e6, h4⟩ := bnd h4
      obtain ⟨x_6, e7, h4⟩ := bnd h4
      obtain ⟨x_7, e8, h4⟩ := bnd h4
      obtain ⟨x_8, e9, h4⟩ := bnd h4
      refine Tri.regionYF mixed 14 [.b (.row 103), I k_3, .b (.ptr 101 2), .b (.ptr 101 (2 + (k_3 : Int).toNat * 1)), .b (.one (.int .u32 x_5)), .b (.one (.int .u32 (Int.tmod x_5 65536))), I (IntKind.i64.wrap (Int.tmod x_5 65536)), I k_3, .b (.ptr 101 2), .b (.ptr 101 (2 + (k_3 : Int).toNat * 1)), .b (.one (.int .u32 x_6)), .b (.one (.int .u32 x_7)), I (IntKind.i64.wrap x_7), .b (.one (.sl 1 ([IntKind.i64.wrap (Int.tmod x_5 65536), IntKind.i64.wrap x_7].map eI)))] [1, 3, 4] [101, 103] (s' := ⟨[(1, .b (.ptr 101 0)), (3, .b (.row 103)), (4, I k_3)], [(101, .box 25 (eBig x0)), (103, .row 3 1 (x_8.map eI))]⟩) rfl ⟨fun _ => .plain rfl (op_move rfl), fun _ => .plain rfl (op_move rfl), fun _ => .plain rfl (op_field_p tyFld25_2 rfl rfl), fun _ => .plain rfl (op_index_p tyArr23 (ix_lo e6) (ix_hi e6) rfl rfl rfl), fun _ => .plain rfl (op_load_p1 tyOne22 rfl rfl (arr_get (post := []) (k := .u32) [.bool x0.Bad, .bool x0.Neg] e6 rfl rfl rfl)), fun _ => .plain rfl (op_rem (by decide) rfl rfl), fun _ => .plain rfl (op_conv_wrap undi22 undi3 rfl), fun _ => .plain rfl (op_move rfl), fun _ => .plain rfl (op_field_p tyFld25_2 rfl rfl), fun _ => .plain rfl (op_index_p tyArr23 (ix_lo e7) (ix_hi e7) rfl rfl rfl), fun _ => .plain rfl (op_load_p1 tyOne22 rfl rfl (arr_get (post := []) (k := .u32) [.bool x0.Bad, .bool x0.Neg] e7 rfl rfl rfl)), fun _ => .plain rfl (op_quo2 e8 rfl rfl), fun _ => .plain rfl (op_conv_wrap undi22 undi3 rfl), fun _ => .plain rfl (op_buildSliceP (es := [IntKind.i64.wrap (Int.tmod x_5 65536), IntKind.i64.wrap x_7].map eI) tySl54 rfl rfl (uni_map fun _ => rfl) rfl (by decide) (by decide)), trivial⟩ ⟨_, by exact .plain rfl (op_append tySl54 (app_b e9) (app_m e9) rfl rfl rfl (app_map e9) rfl), ⟨_, by exact .plain rfl (op_assign rfl), rfl⟩⟩ rfl ?_
      refine Fin.block_normal ?_
      refine Fin.keep [1, 3, 4] [101, 103] (s' := ⟨[(1, .b (.ptr 101 0)), (3, .b (.row 103)), (4, I k_3)], [(101, .box 25 (eBig x0)), (103, .row 3 1 (x_8.map eI))]⟩) rfl ?_
      refine Fin.then ?_
      refine Tri.regionL ?_
      refine OpsL.cons rfl (op_move rfl) ?_
      refine OpsL.cons rfl (op_add rfl rfl) ?_
      refine OpsL.cons rfl (op_assign rfl) ?_
      refine OpsL.nil ?_
      exact Fin.againJ [1, 3, 4] [101, 103] (x_8, IntKind.i64.wrap (k_3 + 1)) (Option.some.inj h4) rfl
    · refine Tri.exit ?_
      refine Fin.then_exit ?_
      obtain rfl := hy5 _ (Option.some.inj h4).symm
      refine Fin.then_exit ?_
      refine Fin.block_exit ?_
      exact Fin.join [3] [103] out_2 rfl rfl
  · rintro out_1 hv
    subst v1
    refine Tri.seq ?_
    refine Tri.regionL ?_
    refine OpsL.cons rfl (op_move rfl) ?_
    refine OpsL.persist 103 rfl ?_
    obtain ⟨x_9, e10, h⟩ := bnd h
    refine OpsL.cons rfl (op_call0 (skewbackref03_trim_spec e10) goes70 rfl rfl) ?_
    refine OpsL.cons rfl (op_assign rfl) ?_
    refine OpsL.nilK [2] [] (s' := ⟨[(2, .b (.one (.sl 1 (x_9.map eI))))], []⟩) rfl ?_
    refine Tri.ret ?_
    obtain rfl := Option.some.inj h
    refine Fin.keep [2] [] (s' := ⟨[(2, .b (.one (.sl 1 (x_9.map eI))))], []⟩) rfl ?_
    refine Fin.result' [.one (.sl 1 (x_9.map eI))] (.inl rfl) rfl (.cons (.tmp rfl) .nil) ⟨rfl, rfl⟩

def skewbackref03_less_S (F : Nat) (a0 : List Int) (b0 : List Int) : Option Bool :=
 Option.bind (letN (max (a0.length : Int) (b0.length : Int)) fun x_1 => iter F (fun k_2 => if (decide (0 ≤ k_2)) = true then (Option.bind (skewbackref03_digit_S F a0 k_2) (fun x_3 => Option.bind (skewbackref03_digit_S F b0 k_2) (fun x_4 => if (decide (x_3 ≠ x_4)) = true then (Option.bind (skewbackref03_digit_S F a0 k_2) (fun x_5 => Option.bind (skewbackref03_digit_S F b0 k_2) (fun x_6 => some (.inr (.inr (decide (x_5 < x_6))))))) else (some (.inl (IntKind.i64.wrap (k_2 - 1))))))) else (some (.inr (.inl ())))) (IntKind.i64.wrap (x_1 - 1))) (alt2 (fun _ => some false) (fun y => some y))
theorem skewbackref03_less_spec {F : Nat} {a0 : List Int} {b0 : List Int} {r : Bool} (h : skewbackref03_less_S F a0 b0 = some r) : Meets Tryd.prog tabs 55 [] [.one (.sl 1 (a0.map eI)), .one (.sl 1 (b0.map eI))] (Is [] (.b (.one (.bool r)))) := by
  unfold skewbackref03_less_S at h
  refine Meets.intro 30 Tryd.func55 Tryd.ntmps55 rfl (by simp) fun E => ?_
  show Tri _ E ⟨30, [], []⟩ _ ⟨[(0, .b (.one (.sl 1 (a0.map eI)))), (1, .b (.one (.sl 1 (b0.map eI))))], []⟩ _
  refine Tri.seq ?_
  refine Tri.regionL ?_
  refine OpsL.cons rfl (op_assign rfl) ?_
  refine OpsL.nilK [0, 1] [] (s' := ⟨[(0, .b (.one (.sl 1 (a0.map eI)))), (1, .b (.one (.sl 1 (b0.map eI))))], []⟩) rfl ?_
  obtain ⟨v1, h2, h⟩ := bnd h
  refine Tri.seqJ (v := v1) (fun (_ : Unit) => ⟨[], []⟩) (fun z => .inl z) ?_ ?_
  · refine Tri.seq ?_
    refine Tri.regionL ?_
    refine OpsL.cons rfl (op_move rfl) ?_
    refine OpsL.cons rfl (op_len_e' und54 rfl (List.length_map _)) ?_
    refine OpsL.cons rfl (op_move rfl) ?_
    refine OpsL.cons rfl (op_len_e' und54 rfl (List.length_map _)) ?_
    refine OpsL.keep [0, 1, 7, 9] [] (s' := ⟨[(0, .b (.one (.sl 1 (a0.map eI)))), (1, .b (.one (.sl 1 (b0.map eI)))), (7, I (a0.length : Int)), (9, I (b0.length : Int))], []⟩) rfl ?_
    refine OpsL.consI .i64 h2 rfl (op_max rfl rfl) (fun x_1 h2 => ?_)
    refine OpsL.cons rfl (op_sub rfl rfl) ?_
    refine OpsL.cons rfl (op_assign rfl) ?_
    refine OpsL.nilK [0, 1, 5] [] (s' := ⟨[(0, .b (.one (.sl 1 (a0.map eI)))), (1, .b (.one (.sl 1 (b0.map eI)))), (5, I (IntKind.i64.wrap (x_1 - 1)))], []⟩) rfl ?_
    refine Tri.block ?_
    refine Tri.loopJ h2 (fun (k_2 : Int) => ⟨[(0, .b (.one (.sl 1 (a0.map eI)))), (1, .b (.one (.sl 1 (b0.map eI)))), (5, I k_2)], []⟩) [0, 1, 5] [] rfl ?_
    rintro k_2 o3 h4 hy5
    refine Tri.seq ?_
    refine Tri.seq ?_
    refine Tri.regionL ?_
    refine OpsL.cons rfl (op_move rfl) ?_
    refine OpsL.cons rfl (op_geq rfl rfl) ?_
    refine OpsL.nilK [0, 1, 5, 13] [] (s' := ⟨[(0, .b (.one (.sl 1 (a0.map eI)))), (1, .b (.one (.sl 1 (b0.map eI)))), (5, I k_2), (13, B (decide (0 ≤ k_2)))], []⟩) rfl ?_
    refine Tri.ite h4 rfl (fun _ h4 => ?_) (fun _ h4 => ?_)
    · refine Tri.skip ?_
      refine Fin.keep [0, 1, 5] [] (s' := ⟨[(0, .b (.one (.sl 1 (a0.map eI)))), (1, .b (.one (.sl 1 (b0.map eI)))), (5, I k_2)], []⟩) rfl ?_
      refine Fin.then ?_
      refine Tri.seq ?_
      refine Tri.block ?_
      refine Tri.seq ?_
      refine Tri.regionL ?_
      refine OpsL.cons rfl (op_move rfl) ?_
      refine OpsL.cons rfl (op_move rfl) ?_
      obtain ⟨x_3, e6, h4⟩ := bnd h4
      refine OpsL.cons rfl (op_call0 (skewbackref03_digit_spec e6) goes76 rfl rfl) ?_
      refine OpsL.cons rfl (op_move rfl) ?_
      refine OpsL.cons rfl (op_move rfl) ?_
      obtain ⟨x_4, e7, h4⟩ := bnd h4
      refine OpsL.cons rfl (op_call0 (skewbackref03_digit_spec e7) goes76 rfl rfl) ?_
      refine OpsL.cons rfl (op_neq rfl rfl) ?_
      refine OpsL.nilK [0, 1, 5, 22] [] (s' := ⟨[(0, .b (.one (.sl 1 (a0.map eI)))), (1, .b (.one (.sl 1 (b0.map eI)))), (5, I k_2), (22, B (decide (x_3 ≠ x_4)))], []⟩) rfl ?_
      refine Tri.ite h4 rfl (fun _ h4 => ?_) (fun _ h4 => ?_)
      · refine Tri.seq ?_
        refine Tri.regionL ?_
        refine OpsL.cons rfl (op_move rfl) ?_
        refine OpsL.cons rfl (op_move rfl) ?_
        obtain ⟨x_5, e8, h4⟩ := bnd h4
        refine OpsL.cons rfl (op_call0 (skewbackref03_digit_spec e8) goes76 rfl rfl) ?_
        refine OpsL.cons rfl (op_move rfl) ?_
        refine OpsL.cons rfl (op_move rfl) ?_
        refine OpsL.keep [25, 26, 27] [] (s' := ⟨[(25, I x_5), (26, .b (.one (.sl 1 (b0.map eI)))), (27, I k_2)], []⟩) rfl ?_
        obtain ⟨x_6, e9, h4⟩ := bnd h4
        refine OpsL.cons rfl (op_call0 (skewbackref03_digit_spec e9) goes76 rfl rfl) ?_
        refine OpsL.cons rfl (op_lss rfl rfl) ?_
        refine OpsL.cons rfl (op_assign rfl) ?_
        refine OpsL.nilK [4] [] (s' := ⟨[(4, B (decide (x_5 < x_6)))], []⟩) rfl ?_
        refine Tri.ret ?_
        refine Fin.block_ret ?_
        refine Fin.then_ret ?_
        obtain rfl := hy5 _ (Option.some.inj h4).symm
        refine Fin.then_ret ?_
        refine Fin.block_ret ?_
        refine Fin.then_ret ?_
        obtain rfl := Option.some.inj h
        refine Fin.keep [4] [] (s' := ⟨[(4, B (decide (x_5 < x_6)))], []⟩) rfl ?_
        refine Fin.result' [.one (.bool (decide (x_5 < x_6)))] (.inl rfl) rfl (.cons (.tmp rfl) .nil) ⟨rfl, rfl⟩
      · refine Tri.skip ?_
        refine Fin.block_normal ?_
        refine Fin.keep [0, 1, 5] [] (s' := ⟨[(0, .b (.one (.sl 1 (a0.map eI)))), (1, .b (.one (.sl 1 (b0.map eI)))), (5, I k_2)], []⟩) rfl ?_
        refine Fin.then ?_
        refine Tri.regionL ?_
        refine OpsL.cons rfl (op_move rfl) ?_
        refine OpsL.cons rfl (op_sub rfl rfl) ?_
        refine OpsL.cons rfl (op_assign rfl) ?_
        refine OpsL.nil ?_
        exact Fin.againJ [0, 1, 5] [] (IntKind.i64.wrap (k_2 - 1)) (Option.some.inj h4) rfl
    · refine Tri.exit ?_
      refine Fin.then_exit ?_
      obtain rfl := hy5 _ (Option.some.inj h4).symm
      refine Fin.then_exit ?_
      refine Fin.block_exit ?_
      exact Fin.join [] [] () rfl rfl
  · rintro _ hv
    subst v1
    refine Tri.seq ?_
    refine Tri.regionL ?_
    refine OpsL.cons rfl (op_assign rfl) ?_
    refine OpsL.nilK [4] [] (s' := ⟨[(4, B false)], []⟩) rfl ?_
    refine Tri.ret ?_
    obtain rfl := Option.some.inj h
    refine Fin.keep [4] [] (s' := ⟨[(4, B false)], []⟩) rfl ?_
    refine Fin.result' [.one (.bool false)] (.inl rfl) rfl (.cons (.tmp rfl) .nil) ⟨rfl, rfl⟩

def skewbackref03_minus_S (F : Nat) (a0 : List Int) (b0 : List Int) : Option (List Int) :=
 Option.bind (iter F (un3 fun out_2 borrow_3 k_4 => if (decide (k_4 < (a0.length : Int))) = true then (Option.bind (Option.bind (idx? a0 k_4) (fun x_8 => Option.bind (skewbackref03_digit_S F b0 k_4) (fun x_9 => Option.bind (letN (IntKind.i64.wrap ((IntKind.i64.wrap (x_8 - x_9)) - borrow_3)) fun x_12 => if (decide (x_12 < 0)) = true then (letN (IntKind.i64.wrap ((IntKind.i64.wrap (x_8 - x_9)) - borrow_3)) fun x_13 => some (1, IntKind.i64.wrap (x_13 + 65536))) else (some (0, IntKind.i64.wrap ((IntKind.i64.wrap (x_8 - x_9)) - borrow_3)))) (un2 fun borrow_10 n_11 => Option.bind (app? out_2 [n_11]) (fun x_14 => some (x_14, borrow_10)))))) (un2 fun out_6 borrow_7 => some (.inl (out_6, borrow_7, IntKind.i64.wrap (k_4 + 1))))) else (some (.inr out_2))) ([], 0, 0)) (fun out_1 => Option.bind (skewbackref03_trim_S F out_1) (fun x_15 => some x_15))
theorem skewbackref03_minus_spec {F : Nat} {a0 : List Int} {b0 : List Int} {r : (List Int)} (h : skewbackref03_minus_S F a0 b0 = some r) : Meets Tryd.prog tabs 56 [] [.one (.sl 1 (a0.map eI)), .one (.sl 1 (b0.map eI))] (Is [] (.b (.one (.sl 1 (r.map eI))))) := by
  unfold skewbackref03_minus_S at h
  refine Meets.intro 35 Tryd.func56 Tryd.ntmps56 rfl (by simp) fun E => ?_
  show Tri _ E ⟨35, [], []⟩ _ ⟨[(0, .b (.one (.sl 1 (a0.map eI)))), (1, .b (.one (.sl 1 (b0.map eI))))], []⟩ _
  refine Tri.seq ?_
  refine Tri.regionL ?_
  refine OpsL.cons rfl (op_assign rfl) ?_
  refine OpsL.nilK [0, 1] [] (s' := ⟨[(0, .b (.one (.sl 1 (a0.map eI)))), (1, .b (.one (.sl 1 (b0.map eI))))], []⟩) rfl ?_
  refine Tri.seq ?_
  refine Tri.regionL ?_
  refine OpsL.cons rfl (op_assign rfl) ?_
  refine OpsL.nilK [0, 1, 5] [] (s' := ⟨[(0, .b (.one (.sl 1 (a0.map eI)))), (1, .b (.one (.sl 1 (b0.map eI)))), (5, .b (.one (.nil)))], []⟩) rfl ?_
  refine Tri.seq ?_
  refine Tri.regionL ?_
  refine OpsL.cons rfl (op_assign rfl) ?_
  refine OpsL.nilK [0, 1, 5, 6] [] (s' := ⟨[(0, .b (.one (.sl 1 (a0.map eI)))), (1, .b (.one (.sl 1 (b0.map eI)))), (5, .b (.one (.nil))), (6, I 0)], []⟩) rfl ?_
  obtain ⟨v1, h2, h⟩ := bnd h
  refine Tri.seqJ (v := v1) (fun (out_1 : List Int) => ⟨[(5, .b (.row 102))], [(102, .row 3 1 (out_1.map eI))]⟩) (fun z => z) ?_ ?_
  · refine Tri.seq ?_
    refine Tri.regionL ?_
    refine OpsL.cons rfl (op_assign rfl) ?_
    refine OpsL.nilK [0, 1, 5, 6, 7] [] (s' := ⟨[(0, .b (.one (.sl 1 (a0.map eI)))), (1, .b (.one (.sl 1 (b0.map eI)))), (5, .b (.one (.nil))), (6, I 0), (7, I 0)], []⟩) rfl ?_
    refine Tri.block ?_
    refine Tri.keep [0, 1, 5, 6, 7] [] (s' := ⟨[(0, .b (.one (.sl 1 (a0.map eI)))), (1, .b (.one (.sl 1 (b0.map eI)))), (5, .b (.one (.nil))), (6, I 0), (7, I 0)], []⟩) rfl ?_
    refine Tri.nilrow 5 102 1 3 rfl (by decide) rfl ?_
    refine Tri.loopJ h2 (un3 fun (out_2 : List Int) (borrow_3 : Int) (k_4 : Int) => ⟨[(0, .b (.one (.sl 1 (a0.map eI)))), (1, .b (.one (.sl 1 (b0.map eI)))), (5, .b (.row 102)), (6, I borrow_3), (7, I k_4)], [(102, .row 3 1 (out_2.map eI))]⟩) [0, 1, 5, 6, 7] [102] rfl ?_
    rintro ⟨out_2, borrow_3, k_4⟩ o3 h4 hy5
    refine Tri.seq ?_
    refine Tri.seq ?_
    refine Tri.regionL ?_
    refine OpsL.cons rfl (op_move rfl) ?_
    refine OpsL.cons rfl (op_move rfl) ?_
    refine OpsL.cons rfl (op_len_e' und54 rfl (List.length_map _)) ?_
    refine OpsL.cons rfl (op_lss rfl rfl) ?_
    refine OpsL.nilK [0, 1, 5, 6, 7, 12] [102] (s' := ⟨[(0, .b (.one (.sl 1 (a0.map eI)))), (1, .b (.one (.sl 1 (b0.map eI)))), (5, .b (.row 102)), (6, I borrow_3), (7, I k_4), (12, B (decide (k_4 < (a0.length : Int))))], [(102, .row 3 1 (out_2.map eI))]⟩) rfl ?_
    refine Tri.ite h4 rfl (fun _ h4 => ?_) (fun _ h4 => ?_)
    · refine Tri.skip ?_
      refine Fin.keep [0, 1, 5, 6, 7] [102] (s' := ⟨[(0, .b (.one (.sl 1 (a0.map eI)))), (1, .b (.one (.sl 1 (b0.map eI)))), (5, .b (.row 102)), (6, I borrow_3), (7, I k_4)], [(102, .row 3 1 (out_2.map eI))]⟩) rfl ?_
      refine Fin.then ?_
      obtain ⟨v6, h7, h4⟩ := bnd h4
      refine Tri.seqJ (v := v6) (un2 fun (out_6 : List Int) (borrow_7 : Int) => ⟨[(0, .b (.one (.sl 1 (a0.map eI)))), (1, .b (.one (.sl 1 (b0.map eI)))), (5, .b (.row 102)), (6, I borrow_7), (7, I k_4)], [(102, .row 3 1 (out_6.map eI))]⟩) (fun z => z) ?_ ?_
      · refine Tri.block ?_
        refine Tri.seq ?_
        refine Tri.keep [0, 1, 5, 6, 7] [102] (s' := ⟨[(0, .b (.one (.sl 1 (a0.map eI)))), (1, .b (.one (.sl 1 (b0.map eI)))), (5, .b (.row 102)), (6, I borrow_3), (7, I k_4)], [(102, .row 3 1 (out_2.map eI))]⟩) rfl ?_
        obtain ⟨x_8, e8, h7⟩ := bnd h7
        obtain ⟨x_9, e9, h7⟩ := bnd h7
        refine Tri.regionY mixed 11 [.b (.one (.sl 1 (a0.map eI))), I k_4, .b (.eptr [.i x_8]), I x_8, .b (.one (.sl 1 (b0.map eI))), I k_4, I x_9, I (IntKind.i64.wrap (x_8 - x_9)), I borrow_3, I (IntKind.i64.wrap ((IntKind.i64.wrap (x_8 - x_9)) - borrow_3)), I (IntKind.i64.wrap ((IntKind.i64.wrap (x_8 - x_9)) - borrow_3))] [0, 1, 5, 7, 8] [102] (s' := ⟨[(0, .b (.one (.sl 1 (a0.map eI)))), (1, .b (.one (.sl 1 (b0.map eI)))), (5, .b (.row 102)), (7, I k_4), (8, I (IntKind.i64.wrap ((IntKind.i64.wrap (x_8 - x_9)) - borrow_3)))], [(102, .row 3 1 (out_2.map eI))]⟩) rfl ⟨fun _ => .plain rfl (op_move rfl), fun _ => .plain rfl (op_move rfl), fun _ => .plain rfl (op_index_e tySl54 (ix_lo e8) (ix_map (e := eI) e8) rfl rfl), fun _ => .plain rfl (op_load_e1 tyOne3 rfl rfl), fun _ => .plain rfl (op_move rfl), fun _ => .plain rfl (op_move rfl), fun _ => .plain rfl (op_call0 (skewbackref03_digit_spec e9) goes76 rfl rfl), fun _ => .plain rfl (op_sub rfl rfl), fun _ => .plain rfl (op_move rfl), fun _ => .plain rfl (op_sub rfl rfl), fun _ => .plain rfl (op_assign rfl), trivial⟩ rfl rfl ?_
        refine Tri.seq ?_
        refine Tri.regionL ?_
        refine OpsL.cons rfl (op_assign rfl) ?_
        refine OpsL.nilK [0, 1, 5, 6, 7, 8] [102] (s' := ⟨[(0, .b (.one (.sl 1 (a0.map eI)))), (1, .b (.one (.sl 1 (b0.map eI)))), (5, .b (.row 102)), (6, I 0), (7, I k_4), (8, I (IntKind.i64.wrap ((IntKind.i64.wrap (x_8 - x_9)) - borrow_3)))], [(102, .row 3 1 (out_2.map eI))]⟩) rfl ?_
        obtain ⟨v10, h11, h7⟩ := bnd h7
        refine Tri.seqJ (v := v10) (un2 fun (borrow_10 : Int) (n_11 : Int) => ⟨[(0, .b (.one (.sl 1 (a0.map eI)))), (1, .b (.one (.sl 1 (b0.map eI)))), (5, .b (.row 102)), (6, I borrow_10), (7, I k_4), (8, I n_11)], [(102, .row 3 1 (out_2.map eI))]⟩) (fun z => z) ?_ ?_
        · refine Tri.seq ?_
          refine Tri.regionL ?_
          refine OpsL.consI .i64 h11 rfl (op_move rfl) (fun x_12 h11 => ?_)
          refine OpsL.cons rfl (op_lss rfl rfl) ?_
          refine OpsL.nilK [0, 1, 5, 6, 7, 8, 26] [102] (s' := ⟨[(0, .b (.one (.sl 1 (a0.map eI)))), (1, .b (.one (.sl 1 (b0.map eI)))), (5, .b (.row 102)), (6, I 0), (7, I k_4), (8, I (IntKind.i64.wrap ((IntKind.i64.wrap (x_8 - x_9)) - borrow_3))), (26, B (decide (x_12 < 0)))], [(102, .row 3 1 (out_2.map eI))]⟩) rfl ?_
          refine Tri.ite h11 rfl (fun _ h11 => ?_) (fun _ h11 => ?_)
          · refine Tri.seq ?_
            refine Tri.regionL ?_
            refine OpsL.consI .i64 h11 rfl (op_move rfl) (fun x_13 h11 => ?_)
            refine OpsL.cons rfl (op_add rfl rfl) ?_
            refine OpsL.cons rfl (op_assign rfl) ?_
            refine OpsL.nilK [0, 1, 5, 7, 8] [102] (s' := ⟨[(0, .b (.one (.sl 1 (a0.map eI)))), (1, .b (.one (.sl 1 (b0.map eI)))), (5, .b (.row 102)), (7, I k_4), (8, I (IntKind.i64.wrap (x_13 + 65536)))], [(102, .row 3 1 (out_2.map eI))]⟩) rfl ?_
            refine Tri.regionL ?_
            refine OpsL.cons rfl (op_assign rfl) ?_
            refine OpsL.nil ?_
            exact Fin.join [0, 1, 5, 6, 7, 8] [102] (1, IntKind.i64.wrap (x_13 + 65536)) (Option.some.inj h11) rfl
          · refine Tri.skip ?_
            exact Fin.join [0, 1, 5, 6, 7, 8] [102] (0, IntKind.i64.wrap ((IntKind.i64.wrap (x_8 - x_9)) - borrow_3)) (Option.some.inj h11) rfl
        · rintro ⟨borrow_10, n_11⟩ hv
          subst v10
          refine Tri.regionL ?_
          refine OpsL.cons rfl (op_move rfl) ?_
          refine OpsL.cons rfl (op_move rfl) ?_
          refine OpsL.cons rfl (op_buildSlice (k := 103) (es := [n_11].map eI) tySl54 rfl rfl (uni_map fun _ => rfl) rfl (by decide) (by decide) rfl) ?_
          obtain ⟨x_14, e12, h7⟩ := bnd h7
          refine OpsL.cons rfl (op_append_r tySl54 (app_b e12) (app_m e12) rfl rfl rfl rfl (app_map e12) rfl) ?_
          refine OpsL.cons rfl (op_assign rfl) ?_
          refine OpsL.nil ?_
          refine Fin.block_normal ?_
          exact Fin.join [0, 1, 5, 6, 7] [102] (x_14, borrow_10) (Option.some.inj h7) rfl
      · rintro ⟨out_6, borrow_7⟩ hv
        subst v6
        refine Tri.regionL ?_
        refine OpsL.cons rfl (op_move rfl) ?_
        refine OpsL.cons rfl (op_add rfl rfl) ?_
        refine OpsL.cons rfl (op_assign rfl) ?_
        refine OpsL.nil ?_
        exact Fin.againJ [0, 1, 5, 6, 7] [102] (out_6, borrow_7, IntKind.i64.wrap (k_4 + 1)) (Option.some.inj h4) rfl
    · refine Tri.exit ?_
      refine Fin.then_exit ?_
      obtain rfl := hy5 _ (Option.some.inj h4).symm
      refine Fin.then_exit ?_
      refine Fin.block_exit ?_
      exact Fin.join [5] [102] out_2 rfl rfl
  · rintro out_1 hv
    subst v1
    refine Tri.seq ?_
    refine Tri.regionL ?_
    refine OpsL.cons rfl (op_move rfl) ?_
    refine OpsL.persist 102 rfl ?_
    obtain ⟨x_15, e13, h⟩ := bnd h
    refine OpsL.cons rfl (op_call0 (skewbackref03_trim_spec e13) goes70 rfl rfl) ?_
    refine OpsL.cons rfl (op_assign rfl) ?_
    refine OpsL.nilK [4] [] (s' := ⟨[(4, .b (.one (.sl 1 (x_15.map eI))))], []⟩) rfl ?_
    refine Tri.ret ?_
    obtain rfl := Option.some.inj h
    refine Fin.keep [4] [] (s' := ⟨[(4, .b (.one (.sl 1 (x_15.map eI))))], []⟩) rfl ?_
    refine Fin.result' [.one (.sl 1 (x_15.map eI))] (.inl rfl) rfl (.cons (.tmp rfl) .nil) ⟨rfl, rfl⟩

def skewbackref03_Add_S (F : Nat) (a0 : Big) (b0 : Big) : Option Big :=
 Option.bind (skewbackref03_word_S F a0) (un2 fun x_1 x_2 => Option.bind (skewbackref03_word_S F b0) (un2 fun x_3 x_4 => if (x_2 && x_4) = true then (Option.bind (skewbackref03_Of_S F (IntKind.i64.wrap (x_1 + x_3))) (fun x_5 => some x_5)) else (Option.bind (skewbackref03_Good_S F a0) (fun x_6 => Option.bind (gcall (!(!x_6)) (skewbackref03_Good_S F b0)) (fun x_7 => if ((!x_6) || (!x_7)) = true then (Option.bind (skewbackref03_Bad_S F) (fun x_8 => some x_8)) else (Option.bind (skewbackref03_digits_S F a0) (fun x_9 => Option.bind (skewbackref03_digits_S F b0) (fun x_10 => if (a0.Neg == b0.Neg) = true then (Option.bind (skewbackref03_plus_S F x_9 x_10) (fun x_11 => Option.bind (skewbackref03_number_S F a0.Neg x_11) (fun x_12 => some x_12))) else (Option.bind (skewbackref03_less_S F x_9 x_10) (fun x_13 => if x_13 = true then (Option.bind (skewbackref03_minus_S F x_10 x_9) (fun x_14 => Option.bind (skewbackref03_number_S F b0.Neg x_14) (fun x_15 => some x_15))) else (Option.bind (skewbackref03_minus_S F x_9 x_10) (fun x_16 => Option.bind (skewbackref03_number_S F a0.Neg x_16) (fun x_17 => some x_17)))))))))))))
theorem skewbackref03_Add_spec {F : Nat} {a0 : Big} {b0 : Big} {r : Big} (h : skewbackref03_Add_S F a0 b0 = some r) : Meets Tryd.prog tabs 11 [] [.agg (eBig a0), .agg (eBig b0)] (Is [] (.b (.agg (eBig r)))) := by
  unfold skewbackref03_Add_S at h
  refine Meets.intro 70 Tryd.func11 Tryd.ntmps11 rfl (by simp) fun E => ?_
  show Tri _ E ⟨70, [], []⟩ _ ⟨[(0, .b (.agg (eBig a0))), (1, .b (.agg (eBig b0)))], []⟩ _
  refine Tri.seq ?_
  refine Tri.regionL ?_
  refine OpsL.cons rfl (op_box (k := 101) rfl rfl) ?_
  refine OpsL.cons rfl (op_box (k := 102) rfl rfl) ?_
  refine OpsL.cons rfl (op_alloc (k := 103) tyZero25 rfl) ?_
  refine OpsL.nilK [2, 3, 4] [101, 102, 103] (s' := ⟨[(2, .b (.ptr 101 0)), (3, .b (.ptr 102 0)), (4, .b (.ptr 103 0))], [(101, .box 25 (eBig a0)), (102, .box 25 (eBig b0)), (103, .box 25 (.bool false :: .bool false :: ((eA16 .u32) A16.zero)))]⟩) rfl ?_
  refine Tri.seq ?_
  refine Tri.regionL ?_
  refine OpsL.cons rfl (op_load_p tyAgg25 rfl rfl rfl rfl) ?_
  obtain ⟨⟨x_1, x_2⟩, e1, h⟩ := bnd h
  refine OpsL.cons rfl (op_call0 (skewbackref03_word_spec e1) goes49 rfl rfl) ?_
  refine OpsL.cons rfl (op_move rfl) ?_
  refine OpsL.cons rfl (op_extract rfl rfl) ?_
  refine OpsL.cons rfl (op_extract rfl rfl) ?_
  refine OpsL.cons rfl (op_assign rfl) ?_
  refine OpsL.cons rfl (op_assign rfl) ?_
  refine OpsL.nilK [2, 3, 4, 5, 6] [101, 102, 103] (s' := ⟨[(2, .b (.ptr 101 0)), (3, .b (.ptr 102 0)), (4, .b (.ptr 103 0)), (5, I x_1), (6, B x_2)], [(101, .box 25 (eBig a0)), (102, .box 25 (eBig b0)), (103, .box 25 (.bool false :: .bool false :: ((eA16 .u32) A16.zero)))]⟩) rfl ?_
  refine Tri.seq ?_
  refine Tri.regionL ?_
  refine OpsL.cons rfl (op_load_p tyAgg25 rfl rfl rfl rfl) ?_
  obtain ⟨⟨x_3, x_4⟩, e2, h⟩ := bnd h
  refine OpsL.cons rfl (op_call0 (skewbackref03_word_spec e2) goes49 rfl rfl) ?_
  refine OpsL.cons rfl (op_move rfl) ?_
  refine OpsL.cons rfl (op_extract rfl rfl) ?_
  refine OpsL.cons rfl (op_extract rfl rfl) ?_
  refine OpsL.cons rfl (op_assign rfl) ?_
  refine OpsL.cons rfl (op_assign rfl) ?_
  refine OpsL.nilK [2, 3, 4, 5, 6, 7, 8] [101, 102, 103] (s' := ⟨[(2, .b (.ptr 101 0)), (3, .b (.ptr 102 0)), (4, .b (.ptr 103 0)), (5, I x_1), (6, B x_2), (7, I x_3), (8, B x_4)], [(101, .box 25 (eBig a0)), (102, .box 25 (eBig b0)), (103, .box 25 (.bool false :: .bool false :: ((eA16 .u32) A16.zero)))]⟩) rfl ?_
  refine Tri.seq ?_
  refine Tri.seq ?_
  refine Tri.regionL ?_
  refine OpsL.cons rfl (op_move rfl) ?_
  refine OpsL.cons rfl (op_move rfl) ?_
  refine OpsL.consG x_2 99 [] (.plain rfl) (eq_t _) rfl rfl (fun g3 => trivial) (fun g3 => op_move rfl) ?_
  refine OpsL.cons rfl (op_pick_and (fun e => e) rfl rfl rfl rfl) ?_
  refine OpsL.nilK [2, 3, 4, 5, 7, 25] [101, 102, 103] (s' := ⟨[(2, .b (.ptr 101 0)), (3, .b (.ptr 102 0)), (4, .b (.ptr 103 0)), (5, I x_1), (7, I x_3), (25, B (x_2 && x_4))], [(101, .box 25 (eBig a0)), (102, .box 25 (eBig b0)), (103, .box 25 (.bool false :: .bool false :: ((eA16 .u32) A16.zero)))]⟩) rfl ?_
  refine Tri.ite h rfl (fun _ h => ?_) (fun _ h => ?_)
  · refine Tri.seq ?_
    refine Tri.regionL ?_
    refine OpsL.cons rfl (op_move rfl) ?_
    refine OpsL.cons rfl (op_move rfl) ?_
    refine OpsL.cons rfl (op_add rfl rfl) ?_
    obtain ⟨x_5, e4, h⟩ := bnd h
    refine OpsL.cons rfl (op_call0 (skewbackref03_Of_spec e4) goes50 rfl rfl) ?_
    refine OpsL.cons rfl (op_store_p tyAgg25 rfl rfl rfl rfl (Nat.le_of_ble_eq_true rfl) rfl) ?_
    refine OpsL.nilK [4] [103] (s' := ⟨[(4, .b (.ptr 103 0))], [(103, .box 25 (eBig x_5))]⟩) rfl ?_
    refine Tri.ret ?_
    refine Fin.then_ret ?_
    obtain rfl := Option.some.inj h
    refine Fin.keep [4] [103] (s' := ⟨[(4, .b (.ptr 103 0))], [(103, .box 25 (eBig x_5))]⟩) rfl ?_
    refine Fin.result' [.agg (eBig x_5)] (.inl rfl) rfl (.cons (.agg tyAgg25 rfl rfl rfl rfl) .nil) ⟨rfl, rfl⟩
  · refine Tri.skip ?_
    refine Fin.keep [2, 3, 4] [101, 102, 103] (s' := ⟨[(2, .b (.ptr 101 0)), (3, .b (.ptr 102 0)), (4, .b (.ptr 103 0))], [(101, .box 25 (eBig a0)), (102, .box 25 (eBig b0)), (103, .box 25 (.bool false :: .bool false :: ((eA16 .u32) A16.zero)))]⟩) rfl ?_
    refine Fin.then ?_
    refine Tri.seq ?_
    refine Tri.seq ?_
    refine Tri.regionL ?_
    refine OpsL.cons rfl (op_load_p tyAgg25 rfl rfl rfl rfl) ?_
    obtain ⟨x_6, e5, h⟩ := bnd h
    refine OpsL.cons rfl (op_call0 (skewbackref03_Good_spec e5) goes35 rfl rfl) ?_
    refine OpsL.cons rfl (op_not rfl) ?_
    refine OpsL.cons rfl (op_move rfl) ?_
    refine OpsL.consG (!(!x_6)) 99 [] (.plain rfl) (eq_f _) rfl rfl (fun g6 => trivial) (fun g6 => op_load_p tyAgg25 rfl rfl rfl rfl) ?_
    refine OpsL.keep [2, 3, 4, 33, 34] [101, 102, 103] (s' := ⟨[(2, .b (.ptr 101 0)), (3, .b (.ptr 102 0)), (4, .b (.ptr 103 0)), (33, B (!x_6)), (34, .opt (!(!x_6)) (.agg (eBig b0)))], [(101, .box 25 (eBig a0)), (102, .box 25 (eBig b0)), (103, .box 25 (.bool false :: .bool false :: ((eA16 .u32) A16.zero)))]⟩) rfl ?_
    obtain ⟨x_7, e8, h⟩ := bnd h
    refine OpsL.consG (!(!x_6)) 99 [34] (.plain rfl) (eq_f _) rfl rfl (fun g7 => ⟨g7, trivial⟩) (fun g7 => op_call0 (skewbackref03_Good_spec (gc e8 g7)) goes35 rfl rfl) ?_
    refine OpsL.consG (!(!x_6)) 99 [35] (.plain rfl) (eq_f _) rfl rfl (fun g9 => ⟨g9, trivial⟩) (fun g9 => op_not rfl) ?_
    refine OpsL.cons rfl (op_pick_or (fun e => by rw [e]; rfl) rfl rfl rfl rfl) ?_
    refine OpsL.nilK [2, 3, 4, 37] [101, 102, 103] (s' := ⟨[(2, .b (.ptr 101 0)), (3, .b (.ptr 102 0)), (4, .b (.ptr 103 0)), (37, B ((!x_6) || (!x_7)))], [(101, .box 25 (eBig a0)), (102, .box 25 (eBig b0)), (103, .box 25 (.bool false :: .bool false :: ((eA16 .u32) A16.zero)))]⟩) rfl ?_
    refine Tri.ite h rfl (fun _ h => ?_) (fun _ h => ?_)
    · refine Tri.seq ?_
      refine Tri.regionL ?_
      obtain ⟨x_8, e10, h⟩ := bnd h
      refine OpsL.cons rfl (op_call0 (skewbackref03_Bad_spec e10) goes51 rfl rfl) ?_
      refine OpsL.cons rfl (op_store_p tyAgg25 rfl rfl rfl rfl (Nat.le_of_ble_eq_true rfl) rfl) ?_
      refine OpsL.nilK [4] [103] (s' := ⟨[(4, .b (.ptr 103 0))], [(103, .box 25 (eBig x_8))]⟩) rfl ?_
      refine Tri.ret ?_
      refine Fin.then_ret ?_
      obtain rfl := Option.some.inj h
      refine Fin.keep [4] [103] (s' := ⟨[(4, .b (.ptr 103 0))], [(103, .box 25 (eBig x_8))]⟩) rfl ?_
      refine Fin.result' [.agg (eBig x_8)] (.inl rfl) rfl (.cons (.agg tyAgg25 rfl rfl rfl rfl) .nil) ⟨rfl, rfl⟩
    · refine Tri.skip ?_
      refine Fin.keep [2, 3, 4] [101, 102, 103] (s' := ⟨[(2, .b (.ptr 101 0)), (3, .b (.ptr 102 0)), (4, .b (.ptr 103 0))], [(101, .box 25 (eBig a0)), (102, .box 25 (eBig b0)), (103, .box 25 (.bool false :: .bool false :: ((eA16 .u32) A16.zero)))]⟩) rfl ?_
      refine Fin.then ?_
      refine Tri.seq ?_
      refine Tri.regionL ?_
      refine OpsL.cons rfl (op_load_p tyAgg25 rfl rfl rfl rfl) ?_
      obtain ⟨x_9, e11, h⟩ := bnd h
      refine OpsL.cons rfl (op_call0 (skewbackref03_digits_spec e11) goes52 rfl rfl) ?_
      refine OpsL.cons rfl (op_assign rfl) ?_
      refine OpsL.nilK [2, 3, 4, 9] [101, 102, 103] (s' := ⟨[(2, .b (.ptr 101 0)), (3, .b (.ptr 102 0)), (4, .b (.ptr 103 0)), (9, .b (.one (.sl 1 (x_9.map eI))))], [(101, .box 25 (eBig a0)), (102, .box 25 (eBig b0)), (103, .box 25 (.bool false :: .bool false :: ((eA16 .u32) A16.zero)))]⟩) rfl ?_
      refine Tri.seq ?_
      refine Tri.regionL ?_
      refine OpsL.cons rfl (op_load_p tyAgg25 rfl rfl rfl rfl) ?_
      obtain ⟨x_10, e12, h⟩ := bnd h
      refine OpsL.cons rfl (op_call0 (skewbackref03_digits_spec e12) goes52 rfl rfl) ?_
      refine OpsL.cons rfl (op_assign rfl) ?_
      refine OpsL.nilK [2, 3, 4, 9, 10] [101, 102, 103] (s' := ⟨[(2, .b (.ptr 101 0)), (3, .b (.ptr 102 0)), (4, .b (.ptr 103 0)), (9, .b (.one (.sl 1 (x_9.map eI)))), (10, .b (.one (.sl 1 (x_10.map eI))))], [(101, .box 25 (eBig a0)), (102, .box 25 (eBig b0)), (103, .box 25 (.bool false :: .bool false :: ((eA16 .u32) A16.zero)))]⟩) rfl ?_
      refine Tri.seq ?_
      refine Tri.seq ?_
      refine Tri.regionL ?_
      refine OpsL.cons rfl (op_field_p tyFld25_1 rfl rfl) ?_
      refine OpsL.cons rfl (op_load_p1 tyOne4 rfl rfl rfl) ?_
      refine OpsL.cons rfl (op_field_p tyFld25_1 rfl rfl) ?_
      refine OpsL.cons rfl (op_load_p1 tyOne4 rfl rfl rfl) ?_
      refine OpsL.cons rfl (op_eql_bool und4 rfl rfl) ?_
      refine OpsL.nilK [2, 3, 4, 9, 10, 47] [101, 102, 103] (s' := ⟨[(2, .b (.ptr 101 0)), (3, .b (.ptr 102 0)), (4, .b (.ptr 103 0)), (9, .b (.one (.sl 1 (x_9.map eI)))), (10, .b (.one (.sl 1 (x_10.map eI)))), (47, B (a0.Neg == b0.Neg))], [(101, .box 25 (eBig a0)), (102, .box 25 (eBig b0)), (103, .box 25 (.bool false :: .bool false :: ((eA16 .u32) A16.zero)))]⟩) rfl ?_
      refine Tri.ite h rfl (fun _ h => ?_) (fun _ h => ?_)
      · refine Tri.seq ?_
        refine Tri.keep [2, 4, 9, 10] [101, 103] (s' := ⟨[(2, .b (.ptr 101 0)), (4, .b (.ptr 103 0)), (9, .b (.one (.sl 1 (x_9.map eI)))), (10, .b (.one (.sl 1 (x_10.map eI))))], [(101, .box 25 (eBig a0)), (103, .box 25 (.bool false :: .bool false :: ((eA16 .u32) A16.zero)))]⟩) rfl ?_
        obtain ⟨x_11, e13, h⟩ := bnd h
        obtain ⟨x_12, e14, h⟩ := bnd h
        refine Tri.regionY mixed 6 [.b (.ptr 101 1), B a0.Neg, .b (.one (.sl 1 (x_9.map eI))), .b (.one (.sl 1 (x_10.map eI))), .b (.one (.sl 1 (x_11.map eI))), .b (.agg (eBig x_12))] [4] [103] (s' := ⟨[(4, .b (.ptr 103 0))], [(103, .box 25 (eBig x_12))]⟩) rfl ⟨fun _ => .plain rfl (op_field_p tyFld25_1 rfl rfl), fun _ => .plain rfl (op_load_p1 tyOne4 rfl rfl rfl), fun _ => .plain rfl (op_move rfl), fun _ => .plain rfl (op_move rfl), fun _ => .plain rfl (op_call0 (skewbackref03_plus_spec e13) goes54 rfl rfl), fun _ => .plain rfl (op_call0 (skewbackref03_number_spec e14) goes53 rfl rfl), trivial⟩ ⟨_, by exact .plain rfl (op_store_p tyAgg25 rfl rfl rfl rfl (Nat.le_of_ble_eq_true rfl) rfl), rfl⟩ rfl ?_
        refine Tri.ret ?_
        refine Fin.then_ret ?_
        obtain rfl := Option.some.inj h
        refine Fin.keep [4] [103] (s' := ⟨[(4, .b (.ptr 103 0))], [(103, .box 25 (eBig x_12))]⟩) rfl ?_
        refine Fin.result' [.agg (eBig x_12)] (.inl rfl) rfl (.cons (.agg tyAgg25 rfl rfl rfl rfl) .nil) ⟨rfl, rfl⟩
      · refine Tri.skip ?_
        refine Fin.keep [2, 3, 4, 9, 10] [101, 102, 103] (s' := ⟨[(2, .b (.ptr 101 0)), (3, .b (.ptr 102 0)), (4, .b (.ptr 103 0)), (9, .b (.one (.sl 1 (x_9.map eI)))), (10, .b (.one (.sl 1 (x_10.map eI))))], [(101, .box 25 (eBig a0)), (102, .box 25 (eBig b0)), (103, .box 25 (.bool false :: .bool false :: ((eA16 .u32) A16.zero)))]⟩) rfl ?_
        refine Fin.then ?_
        refine Tri.seq ?_
        refine Tri.regionL ?_
        refine OpsL.cons rfl (op_move rfl) ?_
        refine OpsL.cons rfl (op_move rfl) ?_
        obtain ⟨x_13, e15, h⟩ := bnd h
        refine OpsL.cons rfl (op_call0 (skewbackref03_less_spec e15) goes55 rfl rfl) ?_
        refine OpsL.cons rfl (op_assign rfl) ?_
        refine OpsL.nilK [2, 3, 4, 9, 10, 11] [101, 102, 103] (s' := ⟨[(2, .b (.ptr 101 0)), (3, .b (.ptr 102 0)), (4, .b (.ptr 103 0)), (9, .b (.one (.sl 1 (x_9.map eI)))), (10, .b (.one (.sl 1 (x_10.map eI)))), (11, B x_13)], [(101, .box 25 (eBig a0)), (102, .box 25 (eBig b0)), (103, .box 25 (.bool false :: .bool false :: ((eA16 .u32) A16.zero)))]⟩) rfl ?_
        refine Tri.seq ?_
        refine Tri.seq ?_
        refine Tri.regionL ?_
        refine OpsL.cons rfl (op_move rfl) ?_
        refine OpsL.nilK [2, 3, 4, 9, 10, 57] [101, 102, 103] (s' := ⟨[(2, .b (.ptr 101 0)), (3, .b (.ptr 102 0)), (4, .b (.ptr 103 0)), (9, .b (.one (.sl 1 (x_9.map eI)))), (10, .b (.one (.sl 1 (x_10.map eI)))), (57, B x_13)], [(101, .box 25 (eBig a0)), (102, .box 25 (eBig b0)), (103, .box 25 (.bool false :: .bool false :: ((eA16 .u32) A16.zero)))]⟩) rfl ?_
        refine Tri.ite h rfl (fun _ h => ?_) (fun _ h => ?_)
        · refine Tri.seq ?_
          refine Tri.keep [3, 4, 9, 10] [102, 103] (s' := ⟨[(3, .b (.ptr 102 0)), (4, .b (.ptr 103 0)), (9, .b (.one (.sl 1 (x_9.map eI)))), (10, .b (.one (.sl 1 (x_10.map eI))))], [(102, .box 25 (eBig b0)), (103, .box 25 (.bool false :: .bool false :: ((eA16 .u32) A16.zero)))]⟩) rfl ?_
          obtain ⟨x_14, e16, h⟩ := bnd h
          obtain ⟨x_15, e17, h⟩ := bnd h
          refine Tri.regionY mixed 6 [.b (.ptr 102 1), B b0.Neg, .b (.one (.sl 1 (x_10.map eI))), .b (.one (.sl 1 (x_9.map eI))), .b (.one (.sl 1 (x_14.map eI))), .b (.agg (eBig x_15))] [4] [103] (s' := ⟨[(4, .b (.ptr 103 0))], [(103, .box 25 (eBig x_15))]⟩) rfl ⟨fun _ => .plain rfl (op_field_p tyFld25_1 rfl rfl), fun _ => .plain rfl (op_load_p1 tyOne4 rfl rfl rfl), fun _ => .plain rfl (op_move rfl), fun _ => .plain rfl (op_move rfl), fun _ => .plain rfl (op_call0 (skewbackref03_minus_spec e16) goes56 rfl rfl), fun _ => .plain rfl (op_call0 (skewbackref03_number_spec e17) goes53 rfl rfl), trivial⟩ ⟨_, by exact .plain rfl (op_store_p tyAgg25 rfl rfl rfl rfl (Nat.le_of_ble_eq_true rfl) rfl), rfl⟩ rfl ?_
          refine Tri.ret ?_
          refine Fin.then_ret ?_
          obtain rfl := Option.some.inj h
          refine Fin.keep [4] [103] (s' := ⟨[(4, .b (.ptr 103 0))], [(103, .box 25 (eBig x_15))]⟩) rfl ?_
          refine Fin.result' [.agg (eBig x_15)] (.inl rfl) rfl (.cons (.agg tyAgg25 rfl rfl rfl rfl) .nil) ⟨rfl, rfl⟩
        · refine Tri.skip ?_
          refine Fin.keep [2, 4, 9, 10] [101, 103] (s' := ⟨[(2, .b (.ptr 101 0)), (4, .b (.ptr 103 0)), (9, .b (.one (.sl 1 (x_9.map eI)))), (10, .b (.one (.sl 1 (x_10.map eI))))], [(101, .box 25 (eBig a0)), (103, .box 25 (.bool false :: .bool false :: ((eA16 .u32) A16.zero)))]⟩) rfl ?_
          refine Fin.then ?_
          refine Tri.seq ?_
          refine Tri.keep [2, 4, 9, 10] [101, 103] (s' := ⟨[(2, .b (.ptr 101 0)), (4, .b (.ptr 103 0)), (9, .b (.one (.sl 1 (x_9.map eI)))), (10, .b (.one (.sl 1 (x_10.map eI))))], [(101, .box 25 (eBig a0)), (103, .box 25 (.bool false :: .bool false :: ((eA16 .u32) A16.zero)))]⟩) rfl ?_
          obtain ⟨x_16, e18, h⟩ := bnd h
          obtain ⟨x_17, e19, h⟩ := bnd h
          refine Tri.regionY mixed 6 [.b (.ptr 101 1), B a0.Neg, .b (.one (.sl 1 (x_9.map eI))), .b (.one (.sl 1 (x_10.map eI))), .b (.one (.sl 1 (x_16.map eI))), .b (.agg (eBig x_17))] [4] [103] (s' := ⟨[(4, .b (.ptr 103 0))], [(103, .box 25 (eBig x_17))]⟩) rfl ⟨fun _ => .plain rfl (op_field_p tyFld25_1 rfl rfl), fun _ => .plain rfl (op_load_p1 tyOne4 rfl rfl rfl), fun _ => .plain rfl (op_move rfl), fun _ => .plain rfl (op_move rfl), fun _ => .plain rfl (op_call0 (skewbackref03_minus_spec e18) goes56 rfl rfl), fun _ => .plain rfl (op_call0 (skewbackref03_number_spec e19) goes53 rfl rfl), trivial⟩ ⟨_, by exact .plain rfl (op_store_p tyAgg25 rfl rfl rfl rfl (Nat.le_of_ble_eq_true rfl) rfl), rfl⟩ rfl ?_
          refine Tri.ret ?_
          obtain rfl := Option.some.inj h
          refine Fin.keep [4] [103] (s' := ⟨[(4, .b (.ptr 103 0))], [(103, .box 25 (eBig x_17))]⟩) rfl ?_
          refine Fin.result' [.agg (eBig x_17)] (.inl rfl) rfl (.cons (.agg tyAgg25 rfl rfl rfl rfl) .nil) ⟨rfl, rfl⟩

def whole_signed_S (F : Nat) (neg0 : Bool) (w0 : A16) : Option Big :=
 some (⟨false, neg0 && (decide (w0 ≠ A16.zero)), w0⟩ : Big)
theorem whole_signed_spec {F : Nat} {neg0 : Bool} {w0 : A16} {r : Big} (h : whole_signed_S F neg0 w0 = some r) : Meets Tryd.prog tabs 46 [] [.one (.bool neg0), .agg ((eA16 .u32) w0)] (Is [] (.b (.agg (eBig r)))) := by
  unfold whole_signed_S at h
  refine Meets.intro 13 Tryd.func46 Tryd.ntmps46 rfl (by simp) fun E => ?_
  show Tri _ E ⟨13, [], []⟩ _ ⟨[(0, B neg0), (1, .b (.agg ((eA16 .u32) w0)))], []⟩ _
  refine Tri.seq ?_
  refine Tri.regionL ?_
  refine OpsL.cons rfl (op_box (k := 101) rfl rfl) ?_
  refine OpsL.cons rfl (op_alloc (k := 102) tyZero25 rfl) ?_
  refine OpsL.nilK [0, 3, 4] [101, 102] (s' := ⟨[(0, B neg0), (3, .b (.ptr 101 0)), (4, .b (.ptr 102 0))], [(101, .box 23 ((eA16 .u32) w0)), (102, .box 25 (.bool false :: .bool false :: ((eA16 .u32) A16.zero)))]⟩) rfl ?_
  refine Tri.seq ?_
  refine Tri.keep [0, 3, 4] [101, 102] (s' := ⟨[(0, B neg0), (3, .b (.ptr 101 0)), (4, .b (.ptr 102 0))], [(101, .box 23 ((eA16 .u32) w0)), (102, .box 25 (.bool false :: .bool false :: ((eA16 .u32) A16.zero)))]⟩) rfl ?_
  refine Tri.regionY mixed 8 [B neg0, B neg0, .opt neg0 (.agg ((eA16 .u32) w0)), .opt neg0 (.agg ((eA16 .u32) A16.zero)), .opt neg0 (.one (.bool (decide (w0 ≠ A16.zero)))), B (neg0 && (decide (w0 ≠ A16.zero))), .b (.agg ((eA16 .u32) w0)), .b (.agg (.bool false :: .bool (neg0 && (decide (w0 ≠ A16.zero))) :: ((eA16 .u32) w0)))] [4] [102] (s' := ⟨[(4, .b (.ptr 102 0))], [(102, .box 25 (.bool false :: .bool (neg0 && (decide (w0 ≠ A16.zero))) :: ((eA16 .u32) w0)))]⟩) rfl ⟨fun _ => .plain rfl (op_move rfl), fun _ => .plain rfl (op_move rfl), fun _ => by exact .guard neg0 1 [] (.plain rfl) (eq_t _) rfl rfl (fun g1 => trivial) (fun g1 => op_load_p tyAgg23 rfl rfl rfl rfl), fun _ => by exact .guard neg0 1 [] (.plain rfl) (eq_t _) rfl rfl (fun g2 => trivial) (fun g2 => op_buildA tyBuild23 rfl rfl), fun _ => by exact .guard neg0 3 [7, 8] (.plain rfl) (eq_t _) rfl rfl (fun g3 => ⟨g3, g3, trivial⟩) (fun g3 => op_neq_agg (eqAgg23 w0 A16.zero) rfl rfl neg_dec), fun _ => .plain rfl (op_pick_and (fun e => e) rfl rfl rfl rfl), fun _ => .plain rfl (op_load_p tyAgg23 rfl rfl rfl rfl), fun _ => .plain rfl (op_build tyBuild25 rfl rfl), trivial⟩ ⟨_, by exact .plain rfl (op_store_p tyAgg25 rfl rfl rfl rfl (Nat.le_of_ble_eq_true rfl) rfl), rfl⟩ rfl ?_
  refine Tri.ret ?_
  obtain rfl := Option.some.inj h
  refine Fin.keep [4] [102] (s' := ⟨[(4, .b (.ptr 102 0))], [(102, .box 25 (.bool false :: .bool (neg0 && (decide (w0 ≠ A16.zero))) :: ((eA16 .u32) w0)))]⟩) rfl ?_
  refine Fin.result' [.agg (.bool false :: .bool (neg0 && (decide (w0 ≠ A16.zero))) :: ((eA16 .u32) w0))] (.inl rfl) rfl (.cons (.agg tyAgg25 rfl rfl rfl rfl) .nil) ⟨rfl, rfl⟩

def whole_Of_S (F : Nat) (n0 : Int) : Option Big :=
 Option.bind (if (decide (n0 < 0)) = true then (letN (IntKind.u64.wrap (-(IntKind.u64.wrap n0))) fun x_2 => some x_2) else (some (IntKind.u64.wrap n0))) (fun u_1 => letN (⟨IntKind.u32.wrap u_1, IntKind.u32.wrap (u_1 / 4294967296), 0, 0, 0, 0, 0, 0, 0, 0, 0, 0, 0, 0, 0, 0⟩ : A16) fun x_3 => Option.bind (whole_signed_S F (decide (n0 < 0)) x_3) (fun x_4 => some x_4))
theorem whole_Of_spec {F : Nat} {n0 : Int} {r : Big} (h : whole_Of_S F n0 = some r) : Meets Tryd.prog tabs 38 [] [.one (.i n0)] (Is [] (.b (.agg (eBig r)))) := by
  unfold whole_Of_S at h
  refine Meets.intro 19 Tryd.func38 Tryd.ntmps38 rfl (by simp) fun E => ?_
  show Tri _ E ⟨19, [], []⟩ _ ⟨[(0, I n0)], []⟩ _
  refine Tri.seq ?_
  refine Tri.regionL ?_
  refine OpsL.cons rfl (op_alloc (k := 101) tyZero25 rfl) ?_
  refine OpsL.nilK [0, 2] [101] (s' := ⟨[(0, I n0), (2, .b (.ptr 101 0))], [(101, .box 25 (.bool false :: .bool false :: ((eA16 .u32) A16.zero)))]⟩) rfl ?_
  refine Tri.seq ?_
  refine Tri.regionL ?_
  refine OpsL.cons rfl (op_move rfl) ?_
  refine OpsL.cons rfl (op_conv_wrap undi3 undi63 rfl) ?_
  refine OpsL.cons rfl (op_assign rfl) ?_
  refine OpsL.nilK [0, 2, 3] [101] (s' := ⟨[(0, I n0), (2, .b (.ptr 101 0)), (3, .b (.one (.int .u64 (IntKind.u64.wrap n0))))], [(101, .box 25 (.bool false :: .bool false :: ((eA16 .u32) A16.zero)))]⟩) rfl ?_
  obtain ⟨v1, h2, h⟩ := bnd h
  refine Tri.seqJ (v := v1) (fun (u_1 : Int) => ⟨[(0, I n0), (2, .b (.ptr 101 0)), (3, .b (.one (.int .u64 u_1)))], [(101, .box 25 (.bool false :: .bool false :: ((eA16 .u32) A16.zero)))]⟩) (fun z => z) ?_ ?_
  · refine Tri.seq ?_
    refine Tri.regionL ?_
    refine OpsL.cons rfl (op_move rfl) ?_
    refine OpsL.cons rfl (op_lss rfl rfl) ?_
    refine OpsL.nilK [0, 2, 3, 7] [101] (s' := ⟨[(0, I n0), (2, .b (.ptr 101 0)), (3, .b (.one (.int .u64 (IntKind.u64.wrap n0)))), (7, B (decide (n0 < 0)))], [(101, .box 25 (.bool false :: .bool false :: ((eA16 .u32) A16.zero)))]⟩) rfl ?_
    refine Tri.ite h2 rfl (fun _ h2 => ?_) (fun _ h2 => ?_)
    · refine Tri.regionL ?_
      refine OpsL.cons rfl (op_move rfl) ?_
      refine OpsL.consI .u64 h2 rfl (op_neg rfl) (fun x_2 h2 => ?_)
      refine OpsL.cons rfl (op_assign rfl) ?_
      refine OpsL.nil ?_
      exact Fin.join [0, 2, 3] [101] x_2 (Option.some.inj h2) rfl
    · refine Tri.skip ?_
      exact Fin.join [0, 2, 3] [101] (IntKind.u64.wrap n0) (Option.some.inj h2) rfl
  · rintro u_1 hv
    subst v1
    refine Tri.seq ?_
    refine Tri.regionL ?_
    refine OpsL.cons rfl (op_move rfl) ?_
    refine OpsL.cons rfl (op_lss rfl rfl) ?_
    refine OpsL.cons rfl (op_move rfl) ?_
    refine OpsL.cons rfl (op_conv_wrap undi63 undi22 rfl) ?_
    refine OpsL.cons rfl (op_move rfl) ?_
    refine OpsL.cons rfl (op_shr2 (m := 32) (by decide) rfl rfl rfl) ?_
    refine OpsL.cons rfl (op_conv_wrap undi63 undi22 rfl) ?_
    refine OpsL.keep [2, 11, 13, 16] [101] (s' := ⟨[(2, .b (.ptr 101 0)), (11, B (decide (n0 < 0))), (13, .b (.one (.int .u32 (IntKind.u32.wrap u_1)))), (16, .b (.one (.int .u32 (IntKind.u32.wrap (u_1 / 4294967296)))))], [(101, .box 25 (.bool false :: .bool false :: ((eA16 .u32) A16.zero)))]⟩) rfl ?_
    refine OpsL.consA (eA16 .u32) h rfl (op_buildA tyBuild23 rfl rfl) (fun x_3 h => ?_)
    obtain ⟨x_4, e3, h⟩ := bnd h
    refine OpsL.cons rfl (op_call0 (whole_signed_spec e3) goes46 rfl rfl) ?_
    refine OpsL.cons rfl (op_store_p tyAgg25 rfl rfl rfl rfl (Nat.le_of_ble_eq_true rfl) rfl) ?_
    refine OpsL.nilK [2] [101] (s' := ⟨[(2, .b (.ptr 101 0))], [(101, .box 25 (eBig x_4))]⟩) rfl ?_
    refine Tri.ret ?_
    obtain rfl := Option.some.inj h
    refine Fin.keep [2] [101] (s' := ⟨[(2, .b (.ptr 101 0))], [(101, .box 25 (eBig x_4))]⟩) rfl ?_
    refine Fin.result' [.agg (eBig x_4)] (.inl rfl) rfl (.cons (.agg tyAgg25 rfl rfl rfl rfl) .nil) ⟨rfl, rfl⟩

def whole_Valid_S (F : Nat) (x0 : Big) : Option Bool :=
 if x0.Bad = true then (some ((decide (x0.W = A16.zero)) && (!x0.Neg))) else (some ((!(decide (x0.W = A16.zero))) || (!x0.Neg)))
theorem whole_Valid_spec {F : Nat} {x0 : Big} {r : Bool} (h : whole_Valid_S F x0 = some r) : Meets Tryd.prog tabs 23 [] [.agg (eBig x0)] (Is [] (.b (.one (.bool r)))) := by
  unfold whole_Valid_S at h
  refine Meets.intro 23 Tryd.func23 Tryd.ntmps23 rfl (by simp) fun E => ?_
  show Tri _ E ⟨23, [], []⟩ _ ⟨[(0, .b (.agg (eBig x0)))], []⟩ _
  refine Tri.seq ?_
  refine Tri.regionL ?_
  refine OpsL.cons rfl (op_box (k := 101) rfl rfl) ?_
  refine OpsL.cons rfl (op_assign rfl) ?_
  refine OpsL.nilK [1] [101] (s' := ⟨[(1, .b (.ptr 101 0))], [(101, .box 25 (eBig x0))]⟩) rfl ?_
  refine Tri.seq ?_
  refine Tri.regionL ?_
  refine OpsL.cons rfl (op_field_p tyFld25_2 rfl rfl) ?_
  refine OpsL.cons rfl (op_load_p tyAgg23 rfl rfl rfl rfl) ?_
  refine OpsL.cons rfl (op_buildA tyBuild23 rfl rfl) ?_
  refine OpsL.cons rfl (op_eql_agg (eqAgg23 x0.W A16.zero) rfl rfl) ?_
  refine OpsL.cons rfl (op_assign rfl) ?_
  refine OpsL.nilK [1, 3] [101] (s' := ⟨[(1, .b (.ptr 101 0)), (3, B (decide (x0.W = A16.zero)))], [(101, .box 25 (eBig x0))]⟩) rfl ?_
  refine Tri.seq ?_
  refine Tri.seq ?_
  refine Tri.regionL ?_
  refine OpsL.cons rfl (op_field_p tyFld25_0 rfl rfl) ?_
  refine OpsL.cons rfl (op_load_p1 tyOne4 rfl rfl rfl) ?_
  refine OpsL.nilK [1, 3, 9] [101] (s' := ⟨[(1, .b (.ptr 101 0)), (3, B (decide (x0.W = A16.zero))), (9, B x0.Bad)], [(101, .box 25 (eBig x0))]⟩) rfl ?_
  refine Tri.ite h rfl (fun _ h => ?_) (fun _ h => ?_)
  · refine Tri.seq ?_
    refine Tri.regionL ?_
    refine OpsL.cons rfl (op_move rfl) ?_
    refine OpsL.cons rfl (op_move rfl) ?_
    refine OpsL.consG (decide (x0.W = A16.zero)) 99 [] (.plain rfl) (eq_t _) rfl rfl (fun g1 => trivial) (fun g1 => op_field_p tyFld25_1 rfl rfl) ?_
    refine OpsL.consG (decide (x0.W = A16.zero)) 99 [12] (.plain rfl) (eq_t _) rfl rfl (fun g2 => ⟨g2, trivial⟩) (fun g2 => op_load_p1 tyOne4 rfl rfl rfl) ?_
    refine OpsL.consG (decide (x0.W = A16.zero)) 99 [13] (.plain rfl) (eq_t _) rfl rfl (fun g3 => ⟨g3, trivial⟩) (fun g3 => op_not rfl) ?_
    refine OpsL.cons rfl (op_pick_and (fun e => e) rfl rfl rfl rfl) ?_
    refine OpsL.cons rfl (op_assign rfl) ?_
    refine OpsL.nilK [2] [] (s' := ⟨[(2, B ((decide (x0.W = A16.zero)) && (!x0.Neg)))], []⟩) rfl ?_
    refine Tri.ret ?_
    refine Fin.then_ret ?_
    obtain rfl := Option.some.inj h
    refine Fin.keep [2] [] (s' := ⟨[(2, B ((decide (x0.W = A16.zero)) && (!x0.Neg)))], []⟩) rfl ?_
    refine Fin.result' [.one (.bool ((decide (x0.W = A16.zero)) && (!x0.Neg)))] (.inl rfl) rfl (.cons (.tmp rfl) .nil) ⟨rfl, rfl⟩
  · refine Tri.skip ?_
    refine Fin.keep [1, 3] [101] (s' := ⟨[(1, .b (.ptr 101 0)), (3, B (decide (x0.W = A16.zero)))], [(101, .box 25 (eBig x0))]⟩) rfl ?_
    refine Fin.then ?_
    refine Tri.seq ?_
    refine Tri.regionL ?_
    refine OpsL.cons rfl (op_move rfl) ?_
    refine OpsL.cons rfl (op_not rfl) ?_
    refine OpsL.cons rfl (op_move rfl) ?_
    refine OpsL.consG (!(!(decide (x0.W = A16.zero)))) 99 [] (.plain rfl) (eq_f _) rfl rfl (fun g4 => trivial) (fun g4 => op_field_p tyFld25_1 rfl rfl) ?_
    refine OpsL.consG (!(!(decide (x0.W = A16.zero)))) 99 [19] (.plain rfl) (eq_f _) rfl rfl (fun g5 => ⟨g5, trivial⟩) (fun g5 => op_load_p1 tyOne4 rfl rfl rfl) ?_
    refine OpsL.consG (!(!(decide (x0.W = A16.zero)))) 99 [20] (.plain rfl) (eq_f _) rfl rfl (fun g6 => ⟨g6, trivial⟩) (fun g6 => op_not rfl) ?_
    refine OpsL.cons rfl (op_pick_or (fun e => by rw [e]; rfl) rfl rfl rfl rfl) ?_
    refine OpsL.cons rfl (op_assign rfl) ?_
    refine OpsL.nilK [2] [] (s' := ⟨[(2, B ((!(decide (x0.W = A16.zero))) || (!x0.Neg)))], []⟩) rfl ?_
    refine Tri.ret ?_
    obtain rfl := Option.some.inj h
    refine Fin.keep [2] [] (s' := ⟨[(2, B ((!(decide (x0.W = A16.zero))) || (!x0.Neg)))], []⟩) rfl ?_
    refine Fin.result' [.one (.bool ((!(decide (x0.W = A16.zero))) || (!x0.Neg)))] (.inl rfl) rfl (.cons (.tmp rfl) .nil) ⟨rfl, rfl⟩

def whole_good_S (F : Nat) (l0 : List Big) : Option Bool :=
 Option.bind (iter F (fun x_1 => if (decide (x_1 < (l0.length : Int))) = true then (Option.bind (idx? l0 x_1) (fun x_2 => Option.bind (gcall (!x_2.Bad) (whole_Valid_S F x_2)) (fun x_3 => if (x_2.Bad || (!x_3)) = true then (some (.inr (.inr false))) else (some (.inl (IntKind.i64.wrap (x_1 + 1))))))) else (some (.inr (.inl ())))) 0) (alt2 (fun _ => some true) (fun y => some y))
theorem whole_good_spec {F : Nat} {l0 : List Big} {r : Bool} (h : whole_good_S F l0 = some r) : Meets Tryd.prog tabs 43 [] [.one (.sl 18 (l0.map eBig))] (Is [] (.b (.one (.bool r)))) := by
  unfold whole_good_S at h
  refine Meets.intro 19 Tryd.func43 Tryd.ntmps43 rfl (by simp) fun E => ?_
  show Tri _ E ⟨19, [], []⟩ _ ⟨[(0, .b (.one (.sl 18 (l0.map eBig))))], []⟩ _
  refine Tri.seq ?_
  refine Tri.regionL ?_
  refine OpsL.cons rfl (op_assign rfl) ?_
  refine OpsL.nilK [0] [] (s' := ⟨[(0, .b (.one (.sl 18 (l0.map eBig))))], []⟩) rfl ?_
  obtain ⟨v1, h2, h⟩ := bnd h
  refine Tri.seqJ (v := v1) (fun (_ : Unit) => ⟨[], []⟩) (fun z => .inl z) ?_ ?_
  · refine Tri.seq ?_
    refine Tri.regionL ?_
    refine OpsL.cons rfl (op_move rfl) ?_
    refine OpsL.cons rfl (op_len_e' und85 rfl (List.length_map _)) ?_
    refine OpsL.cons rfl (op_move rfl) ?_
    refine OpsL.nilK [5, 6, 7] [] (s' := ⟨[(5, .b (.one (.sl 18 (l0.map eBig)))), (6, I (l0.length : Int)), (7, I 0)], []⟩) rfl ?_
    refine Tri.block ?_
    refine Tri.loopJ h2 (fun (x_1 : Int) => ⟨[(5, .b (.one (.sl 18 (l0.map eBig)))), (6, I (l0.length : Int)), (7, I x_1)], []⟩) [5, 6, 7] [] rfl ?_
    rintro x_1 o3 h4 hy5
    refine Tri.seq ?_
    refine Tri.regionL ?_
    refine OpsL.cons rfl (op_lss rfl rfl) ?_
    refine OpsL.nilK [5, 6, 7, 8] [] (s' := ⟨[(5, .b (.one (.sl 18 (l0.map eBig)))), (6, I (l0.length : Int)), (7, I x_1), (8, B (decide (x_1 < (l0.length : Int))))], []⟩) rfl ?_
    refine Tri.seq ?_
    refine Tri.ite h4 rfl (fun _ h4 => ?_) (fun _ h4 => ?_)
    · refine Tri.skip ?_
      refine Fin.keep [5, 6, 7] [] (s' := ⟨[(5, .b (.one (.sl 18 (l0.map eBig)))), (6, I (l0.length : Int)), (7, I x_1)], []⟩) rfl ?_
      refine Fin.then ?_
      refine Tri.seq ?_
      refine Tri.block ?_
      refine Tri.seq ?_
      refine Tri.regionL ?_
      obtain ⟨x_2, e6, h4⟩ := bnd h4
      refine OpsL.cons rfl (op_index_e tySl85 (ix_lo e6) (ix_map (e := eBig) e6) rfl rfl) ?_
      refine OpsL.cons rfl (op_load_e tyAgg25 rfl rfl rfl) ?_
      refine OpsL.cons rfl (op_alloc (k := 101) tyZero25 rfl) ?_
      refine OpsL.cons rfl (op_store_p tyAgg25 rfl rfl rfl rfl (Nat.le_of_ble_eq_true rfl) rfl) ?_
      refine OpsL.nilK [4, 5, 6, 7] [101] (s' := ⟨[(4, .b (.ptr 101 0)), (5, .b (.one (.sl 18 (l0.map eBig)))), (6, I (l0.length : Int)), (7, I x_1)], [(101, .box 25 (eBig x_2))]⟩) rfl ?_
      refine Tri.seq ?_
      refine Tri.regionL ?_
      refine OpsL.cons rfl (op_field_p tyFld25_0 rfl rfl) ?_
      refine OpsL.cons rfl (op_load_p1 tyOne4 rfl rfl rfl) ?_
      refine OpsL.cons rfl (op_move rfl) ?_
      refine OpsL.consG (!x_2.Bad) 99 [] (.plain rfl) (eq_f _) rfl rfl (fun g7 => trivial) (fun g7 => op_load_p tyAgg25 rfl rfl rfl rfl) ?_
      obtain ⟨x_3, e9, h4⟩ := bnd h4
      refine OpsL.consG (!x_2.Bad) 99 [14] (.plain rfl) (eq_f _) rfl rfl (fun g8 => ⟨g8, trivial⟩) (fun g8 => op_call0 (whole_Valid_spec (gc e9 g8)) goes23 rfl rfl) ?_
      refine OpsL.consG (!x_2.Bad) 99 [15] (.plain rfl) (eq_f _) rfl rfl (fun g10 => ⟨g10, trivial⟩) (fun g10 => op_not rfl) ?_
      refine OpsL.cons rfl (op_pick_or (fun e => by rw [e]; rfl) rfl rfl rfl rfl) ?_
      refine OpsL.nilK [5, 6, 7, 17] [] (s' := ⟨[(5, .b (.one (.sl 18 (l0.map eBig)))), (6, I (l0.length : Int)), (7, I x_1), (17, B (x_2.Bad || (!x_3)))], []⟩) rfl ?_
      refine Tri.ite h4 rfl (fun _ h4 => ?_) (fun _ h4 => ?_)
      · refine Tri.seq ?_
        refine Tri.regionL ?_
        refine OpsL.cons rfl (op_assign rfl) ?_
        refine OpsL.nilK [2] [] (s' := ⟨[(2, B false)], []⟩) rfl ?_
        refine Tri.ret ?_
        refine Fin.block_ret ?_
        refine Fin.then_ret ?_
        obtain rfl := hy5 _ (Option.some.inj h4).symm
        refine Fin.then_ret ?_
        refine Fin.block_ret ?_
        refine Fin.then_ret ?_
        obtain rfl := Option.some.inj h
        refine Fin.keep [2] [] (s' := ⟨[(2, B false)], []⟩) rfl ?_
        refine Fin.result' [.one (.bool false)] (.inl rfl) rfl (.cons (.tmp rfl) .nil) ⟨rfl, rfl⟩
      · refine Tri.skip ?_
        refine Fin.block_normal ?_
        refine Fin.keep [5, 6, 7] [] (s' := ⟨[(5, .b (.one (.sl 18 (l0.map eBig)))), (6, I (l0.length : Int)), (7, I x_1)], []⟩) rfl ?_
        refine Fin.then ?_
        refine Tri.regionL ?_
        refine OpsL.cons rfl (op_add rfl rfl) ?_
        refine OpsL.cons rfl (op_move rfl) ?_
        refine OpsL.nil ?_
        exact Fin.againJ [5, 6, 7] [] (IntKind.i64.wrap (x_1 + 1)) (Option.some.inj h4) rfl
    · refine Tri.exit ?_
      refine Fin.then_exit ?_
      obtain rfl := hy5 _ (Option.some.inj h4).symm
      refine Fin.then_exit ?_
      refine Fin.block_exit ?_
      exact Fin.join [] [] () rfl rfl
  · rintro _ hv
    subst v1
    refine Tri.seq ?_
    refine Tri.regionL ?_
    refine OpsL.cons rfl (op_assign rfl) ?_
    refine OpsL.nilK [2] [] (s' := ⟨[(2, B true)], []⟩) rfl ?_
    refine Tri.ret ?_
    obtain rfl := Option.some.inj h
    refine Fin.keep [2] [] (s' := ⟨[(2, B true)], []⟩) rfl ?_
    refine Fin.result' [.one (.bool true)] (.inl rfl) rfl (.cons (.tmp rfl) .nil) ⟨rfl, rfl⟩

def whole_Bad_S (F : Nat) : Option Big :=
 some (⟨true, false, A16.zero⟩ : Big)
theorem whole_Bad_spec {F : Nat} {r : Big} (h : whole_Bad_S F = some r) : Meets Tryd.prog tabs 44 [] [] (Is [] (.b (.agg (eBig r)))) := by
  unfold whole_Bad_S at h
  refine Meets.intro 2 Tryd.func44 Tryd.ntmps44 rfl (by simp) fun E => ?_
  show Tri _ E ⟨2, [], []⟩ _ ⟨[], []⟩ _
  refine Tri.seq ?_
  refine Tri.regionL ?_
  refine OpsL.cons rfl (op_alloc (k := 101) tyZero25 rfl) ?_
  refine OpsL.nilK [0] [101] (s' := ⟨[(0, .b (.ptr 101 0))], [(101, .box 25 (.bool false :: .bool false :: ((eA16 .u32) A16.zero)))]⟩) rfl ?_
  refine Tri.seq ?_
  refine Tri.regionL ?_
  refine OpsL.cons rfl (op_build tyBuild25 rfl rfl) ?_
  refine OpsL.cons rfl (op_store_p tyAgg25 rfl rfl rfl rfl (Nat.le_of_ble_eq_true rfl) rfl) ?_
  refine OpsL.nilK [0] [101] (s' := ⟨[(0, .b (.ptr 101 0))], [(101, .box 25 (.bool true :: .bool false :: ((eA16 .u32) A16.zero)))]⟩) rfl ?_
  refine Tri.ret ?_
  obtain rfl := Option.some.inj h
  refine Fin.keep [0] [101] (s' := ⟨[(0, .b (.ptr 101 0))], [(101, .box 25 (.bool true :: .bool false :: ((eA16 .u32) A16.zero)))]⟩) rfl ?_
  refine Fin.result' [.agg (.bool true :: .bool false :: ((eA16 .u32) A16.zero))] (.inl rfl) rfl (.cons (.agg tyAgg25 rfl rfl rfl rfl) .nil) ⟨rfl, rfl⟩

def whole_size_S (F : Nat) (w0 : A16) : Option Int :=
 Option.bind (iter F (fun n_2 => Option.bind (gcall (decide (0 < n_2)) (idx? w0.l (IntKind.i64.wrap (n_2 - 1)))) (fun x_4 => if ((decide (0 < n_2)) && (decide (x_4 = 0))) = true then (some (.inl (IntKind.i64.wrap (n_2 - 1)))) else (some (.inr n_2)))) 16) (fun n_1 => some n_1)
theorem whole_size_spec {F : Nat} {w0 : A16} {r : Int} (h : whole_size_S F w0 = some r) : Meets Tryd.prog tabs 57 [] [.agg ((eA16 .u32) w0)] (Is [] (.b (.one (.i r)))) := by
  unfold whole_size_S at h
  refine Meets.intro 16 Tryd.func57 Tryd.ntmps57 rfl (by simp) fun E => ?_
  show Tri _ E ⟨16, [], []⟩ _ ⟨[(0, .b (.agg ((eA16 .u32) w0)))], []⟩ _
  refine Tri.seq ?_
  refine Tri.regionL ?_
  refine OpsL.cons rfl (op_box (k := 101) rfl rfl) ?_
  refine OpsL.cons rfl (op_assign rfl) ?_
  refine OpsL.nilK [1] [101] (s' := ⟨[(1, .b (.ptr 101 0))], [(101, .box 23 ((eA16 .u32) w0))]⟩) rfl ?_
  refine Tri.seq ?_
  refine Tri.regionL ?_
  refine OpsL.cons rfl (op_assign rfl) ?_
  refine OpsL.nilK [1, 3] [101] (s' := ⟨[(1, .b (.ptr 101 0)), (3, I 16)], [(101, .box 23 ((eA16 .u32) w0))]⟩) rfl ?_
  obtain ⟨v1, h2, h⟩ := bnd h
  refine Tri.seqJ (v := v1) (fun (n_1 : Int) => ⟨[(3, I n_1)], []⟩) (fun z => z) ?_ ?_
  · refine Tri.block ?_
    refine Tri.loopJ h2 (fun (n_2 : Int) => ⟨[(1, .b (.ptr 101 0)), (3, I n_2)], [(101, .box 23 ((eA16 .u32) w0))]⟩) [1, 3] [101] rfl ?_
    rintro n_2 o3 h4 hy5
    refine Tri.seq ?_
    refine Tri.seq ?_
    refine Tri.regionL ?_
    refine OpsL.cons rfl (op_move rfl) ?_
    refine OpsL.cons rfl (op_gtr rfl rfl) ?_
    refine OpsL.cons rfl (op_move rfl) ?_
    refine OpsL.consG (decide (0 < n_2)) 99 [] (.plain rfl) (eq_t _) rfl rfl (fun g6 => trivial) (fun g6 => op_move rfl) ?_
    refine OpsL.consG (decide (0 < n_2)) 99 [7] (.plain rfl) (eq_t _) rfl rfl (fun g7 => ⟨g7, trivial⟩) (fun g7 => op_sub rfl rfl) ?_
    obtain ⟨x_4, e9, h4⟩ := bnd h4
    refine OpsL.consG (decide (0 < n_2)) 99 [8] (.plain rfl) (eq_t _) rfl rfl (fun g8 => ⟨g8, trivial⟩) (fun g8 => op_index_p tyArr23 (ix_lo (gc e9 g8)) (ix_hi (gc e9 g8)) rfl rfl rfl) ?_
    refine OpsL.consG (decide (0 < n_2)) 99 [9] (.plain rfl) (eq_t _) rfl rfl (fun g10 => ⟨g10, trivial⟩) (fun g10 => op_load_p1 tyOne22 rfl rfl (arr_get (post := []) (k := .u32) [] (gc e9 g10) rfl rfl rfl)) ?_
    refine OpsL.consG (decide (0 < n_2)) 99 [10] (.plain rfl) (eq_t _) rfl rfl (fun g11 => ⟨g11, trivial⟩) (fun g11 => op_eql rfl rfl) ?_
    refine OpsL.cons rfl (op_pick_and (fun e => e) rfl rfl rfl rfl) ?_
    refine OpsL.nilK [1, 3, 12] [101] (s' := ⟨[(1, .b (.ptr 101 0)), (3, I n_2), (12, B ((decide (0 < n_2)) && (decide (x_4 = 0))))], [(101, .box 23 ((eA16 .u32) w0))]⟩) rfl ?_
    refine Tri.ite h4 rfl (fun _ h4 => ?_) (fun _ h4 => ?_)
    · refine Tri.skip ?_
      refine Fin.keep [1, 3] [101] (s' := ⟨[(1, .b (.ptr 101 0)), (3, I n_2)], [(101, .box 23 ((eA16 .u32) w0))]⟩) rfl ?_
      refine Fin.then ?_
      refine Tri.block ?_
      refine Tri.regionL ?_
      refine OpsL.cons rfl (op_move rfl) ?_
      refine OpsL.cons rfl (op_sub rfl rfl) ?_
      refine OpsL.cons rfl (op_assign rfl) ?_
      refine OpsL.nil ?_
      refine Fin.block_normal ?_
      exact Fin.againJ [1, 3] [101] (IntKind.i64.wrap (n_2 - 1)) (Option.some.inj h4) rfl
    · refine Tri.exit ?_
      refine Fin.then_exit ?_
      obtain rfl := hy5 _ (Option.some.inj h4).symm
      refine Fin.then_exit ?_
      refine Fin.block_exit ?_
      exact Fin.join [3] [] n_2 rfl rfl
  · rintro n_1 hv
    subst v1
    refine Tri.seq ?_
    refine Tri.regionL ?_
    refine OpsL.cons rfl (op_move rfl) ?_
    refine OpsL.cons rfl (op_assign rfl) ?_
    refine OpsL.nilK [2] [] (s' := ⟨[(2, I n_1)], []⟩) rfl ?_
    refine Tri.ret ?_
    obtain rfl := Option.some.inj h
    refine Fin.keep [2] [] (s' := ⟨[(2, I n_1)], []⟩) rfl ?_
    refine Fin.result' [.one (.i n_1)] (.inl rfl) rfl (.cons (.tmp rfl) .nil) ⟨rfl, rfl⟩

def whole_Mul_S (F : Nat) (a0 : Big) (b0 : Big) : Option Big :=
 Option.bind (whole_good_S F [a0, b0]) (fun x_1 => if (!x_1) = true then (Option.bind (whole_Bad_S F) (fun x_2 => some x_2)) else (Option.bind (whole_size_S F a0.W) (fun x_3 => Option.bind (whole_size_S F b0.W) (fun x_4 => Option.bind (iter F (un2 fun out_6 x_7 => if (decide (x_7 < x_3)) = true then (Option.bind (Option.bind (iter F (un3 fun out_12 carry_13 x_14 => if (decide (x_14 < x_4)) = true then (Option.bind (idx? a0.W.l x_7) (fun x_17 => Option.bind (idx? b0.W.l x_14) (fun x_18 => Option.bind (idx? out_12.l (IntKind.i64.wrap (x_7 + x_14))) (fun x_19 => letN (IntKind.u64.wrap (carry_13 + (IntKind.u64.wrap ((IntKind.u64.wrap ((IntKind.u64.wrap x_17) * (IntKind.u64.wrap x_18))) + (IntKind.u64.wrap x_19))))) fun x_20 => Option.bind (idx? out_12.l (IntKind.i64.wrap (x_7 + x_14))) (fun x_21 => letN (IntKind.u64.wrap (carry_13 + (IntKind.u64.wrap ((IntKind.u64.wrap ((IntKind.u64.wrap x_17) * (IntKind.u64.wrap x_18))) + (IntKind.u64.wrap x_19))))) fun x_22 => some (.inl (out_12.set (IntKind.i64.wrap (x_7 + x_14)) (IntKind.u32.wrap x_20), x_22 / 4294967296, IntKind.i64.wrap (x_14 + 1)))))))) else (some (.inr (out_12, carry_13)))) (out_6, 0, 0)) (un2 fun out_10 carry_11 => Option.bind (idx? out_10.l (IntKind.i64.wrap (x_7 + x_4))) (fun x_23 => some (out_10.set (IntKind.i64.wrap (x_7 + x_4)) (IntKind.u32.wrap carry_11))))) (fun out_9 => some (.inl (out_9, IntKind.i64.wrap (x_7 + 1))))) else (some (.inr out_6))) (A32.zero, 0)) (fun out_5 => letN (⟨out_5.a16, out_5.a17, out_5.a18, out_5.a19, out_5.a20, out_5.a21, out_5.a22, out_5.a23, out_5.a24, out_5.a25, out_5.a26, out_5.a27, out_5.a28, out_5.a29, out_5.a30, out_5.a31⟩ : A16) fun x_24 => if (decide (x_24 ≠ A16.zero)) = true then (Option.bind (whole_Bad_S F) (fun x_25 => some x_25)) else (Option.bind (whole_signed_S F (a0.Neg != b0.Neg) (⟨out_5.a0, out_5.a1, out_5.a2, out_5.a3, out_5.a4, out_5.a5, out_5.a6, out_5.a7, out_5.a8, out_5.a9, out_5.a10, out_5.a11, out_5.a12, out_5.a13, out_5.a14, out_5.a15⟩ : A16)) (fun x_26 => some x_26)))))))
theorem whole_Mul_spec {F : Nat} {a0 : Big} {b0 : Big} {r : Big} (h : whole_Mul_S F a0 b0 = some r) : Meets Tryd.prog tabs 27 [] [.agg (eBig a0), .agg (eBig b0)] (Is [] (.b (.agg (eBig r)))) := by
  unfold whole_Mul_S at h
  refine Meets.intro 82 Tryd.func27 Tryd.ntmps27 rfl (by simp) fun E => ?_
  show Tri _ E ⟨82, [], []⟩ _ ⟨[(0, .b (.agg (eBig a0))), (1, .b (.agg (eBig b0)))], []⟩ _
  refine Tri.seq ?_
  refine Tri.regionL ?_
  refine OpsL.cons rfl (op_box (k := 101) rfl rfl) ?_
  refine OpsL.cons rfl (op_box (k := 102) rfl rfl) ?_
  refine OpsL.cons rfl (op_alloc (k := 103) tyZero25 rfl) ?_
  refine OpsL.nilK [2, 3, 4] [101, 102, 103] (s' := ⟨[(2, .b (.ptr 101 0)), (3, .b (.ptr 102 0)), (4, .b (.ptr 103 0))], [(101, .box 25 (eBig a0)), (102, .box 25 (eBig b0)), (103, .box 25 (.bool false :: .bool false :: ((eA16 .u32) A16.zero)))]⟩) rfl ?_
  refine Tri.seq ?_
  refine Tri.seq ?_
  refine Tri.regionL ?_
  refine OpsL.cons rfl (op_load_p tyAgg25 rfl rfl rfl rfl) ?_
  refine OpsL.cons rfl (op_load_p tyAgg25 rfl rfl rfl rfl) ?_
  refine OpsL.cons rfl (op_buildSlice (k := 104) (es := [a0, b0].map eBig) tySl85 rfl rfl (uni_map fun _ => rfl) rfl (by decide) (by decide) rfl) ?_
  obtain ⟨x_1, e1, h⟩ := bnd h
  refine OpsL.cons rfl (op_callB (whole_good_spec e1) goes43 rfl CP.flat_bool) ?_
  refine OpsL.cons rfl (op_not rfl) ?_
  refine OpsL.nilK [2, 3, 4, 15] [101, 102, 103] (s' := ⟨[(2, .b (.ptr 101 0)), (3, .b (.ptr 102 0)), (4, .b (.ptr 103 0)), (15, B (!x_1))], [(101, .box 25 (eBig a0)), (102, .box 25 (eBig b0)), (103, .box 25 (.bool false :: .bool false :: ((eA16 .u32) A16.zero)))]⟩) rfl ?_
  refine Tri.ite h rfl (fun _ h => ?_) (fun _ h => ?_)
  · refine Tri.seq ?_
    refine Tri.regionL ?_
    obtain ⟨x_2, e2, h⟩ := bnd h
    refine OpsL.cons rfl (op_call0 (whole_Bad_spec e2) goes44 rfl rfl) ?_
    refine OpsL.cons rfl (op_store_p tyAgg25 rfl rfl rfl rfl (Nat.le_of_ble_eq_true rfl) rfl) ?_
    refine OpsL.nilK [4] [103] (s' := ⟨[(4, .b (.ptr 103 0))], [(103, .box 25 (eBig x_2))]⟩) rfl ?_
    refine Tri.ret ?_
    refine Fin.then_ret ?_
    obtain rfl := Option.some.inj h
    refine Fin.keep [4] [103] (s' := ⟨[(4, .b (.ptr 103 0))], [(103, .box 25 (eBig x_2))]⟩) rfl ?_
    refine Fin.result' [.agg (eBig x_2)] (.inl rfl) rfl (.cons (.agg tyAgg25 rfl rfl rfl rfl) .nil) ⟨rfl, rfl⟩
  · refine Tri.skip ?_
    refine Fin.keep [2, 3, 4] [101, 102, 103] (s' := ⟨[(2, .b (.ptr 101 0)), (3, .b (.ptr 102 0)), (4, .b (.ptr 103 0))], [(101, .box 25 (eBig a0)), (102, .box 25 (eBig b0)), (103, .box 25 (.bool false :: .bool false :: ((eA16 .u32) A16.zero)))]⟩) rfl ?_
    refine Fin.then ?_
    refine Tri.seq ?_
    refine Tri.regionL ?_
    refine OpsL.cons rfl (op_alloc (k := 105) tyZero62 rfl) ?_
    refine OpsL.nilK [2, 3, 4, 5] [101, 102, 103, 105] (s' := ⟨[(2, .b (.ptr 101 0)), (3, .b (.ptr 102 0)), (4, .b (.ptr 103 0)), (5, .b (.ptr 105 0))], [(101, .box 25 (eBig a0)), (102, .box 25 (eBig b0)), (103, .box 25 (.bool false :: .bool false :: ((eA16 .u32) A16.zero))), (105, .box 62 ((eA32 .u32) A32.zero))]⟩) rfl ?_
    refine Tri.seq ?_
    refine Tri.keep [2, 3, 4, 5] [101, 102, 103, 105] (s' := ⟨[(2, .b (.ptr 101 0)), (3, .b (.ptr 102 0)), (4, .b (.ptr 103 0)), (5, .b (.ptr 105 0))], [(101, .box 25 (eBig a0)), (102, .box 25 (eBig b0)), (103, .box 25 (.bool false :: .bool false :: ((eA16 .u32) A16.zero))), (105, .box 62 ((eA32 .u32) A32.zero))]⟩) rfl ?_
    obtain ⟨x_3, e3, h⟩ := bnd h
    obtain ⟨x_4, e4, h⟩ := bnd h
    refine Tri.regionY mixed 8 [.b (.ptr 101 2), .b (.agg ((eA16 .u32) a0.W)), I x_3, .b (.ptr 102 2), .b (.agg ((eA16 .u32) b0.W)), I x_4, I x_3, I x_4] [2, 3, 4, 5, 6, 7] [101, 102, 103, 105] (s' := ⟨[(2, .b (.ptr 101 0)), (3, .b (.ptr 102 0)), (4, .b (.ptr 103 0)), (5, .b (.ptr 105 0)), (6, I x_3), (7, I x_4)], [(101, .box 25 (eBig a0)), (102, .box 25 (eBig b0)), (103, .box 25 (.bool false :: .bool false :: ((eA16 .u32) A16.zero))), (105, .box 62 ((eA32 .u32) A32.zero))]⟩) rfl ⟨fun _ => .plain rfl (op_field_p tyFld25_2 rfl rfl), fun _ => .plain rfl (op_load_p tyAgg23 rfl rfl rfl rfl), fun _ => .plain rfl (op_call0 (whole_size_spec e3) goes57 rfl rfl), fun _ => .plain rfl (op_field_p tyFld25_2 rfl rfl), fun _ => .plain rfl (op_load_p tyAgg23 rfl rfl rfl rfl), fun _ => .plain rfl (op_call0 (whole_size_spec e4) goes57 rfl rfl), fun _ => .plain rfl (op_assign rfl), fun _ => .plain rfl (op_assign rfl), trivial⟩ rfl rfl ?_
    obtain ⟨v5, h6, h⟩ := bnd h
    refine Tri.seqJ (v := v5) (fun (out_5 : A32) => ⟨[(2, .b (.ptr 101 0)), (3, .b (.ptr 102 0)), (4, .b (.ptr 103 0)), (5, .b (.ptr 105 0))], [(101, .box 25 (eBig a0)), (102, .box 25 (eBig b0)), (103, .box 25 (.bool false :: .bool false :: ((eA16 .u32) A16.zero))), (105, .box 62 ((eA32 .u32) out_5))]⟩) (fun z => z) ?_ ?_
    · refine Tri.seq ?_
      refine Tri.regionL ?_
      refine OpsL.cons rfl (op_move rfl) ?_
      refine OpsL.cons rfl (op_move rfl) ?_
      refine OpsL.nilK [2, 3, 4, 5, 7, 23, 24] [101, 102, 103, 105] (s' := ⟨[(2, .b (.ptr 101 0)), (3, .b (.ptr 102 0)), (4, .b (.ptr 103 0)), (5, .b (.ptr 105 0)), (7, I x_4), (23, I x_3), (24, I 0)], [(101, .box 25 (eBig a0)), (102, .box 25 (eBig b0)), (103, .box 25 (.bool false :: .bool false :: ((eA16 .u32) A16.zero))), (105, .box 62 ((eA32 .u32) A32.zero))]⟩) rfl ?_
      refine Tri.block ?_
      refine Tri.loopJ h6 (un2 fun (out_6 : A32) (x_7 : Int) => ⟨[(2, .b (.ptr 101 0)), (3, .b (.ptr 102 0)), (4, .b (.ptr 103 0)), (5, .b (.ptr 105 0)), (7, I x_4), (23, I x_3), (24, I x_7)], [(101, .box 25 (eBig a0)), (102, .box 25 (eBig b0)), (103, .box 25 (.bool false :: .bool false :: ((eA16 .u32) A16.zero))), (105, .box 62 ((eA32 .u32) out_6))]⟩) [2, 3, 4, 5, 7, 23, 24] [101, 102, 103, 105] rfl ?_
      rintro ⟨out_6, x_7⟩ o7 h8 hy9
      refine Tri.seq ?_
      refine Tri.regionL ?_
      refine OpsL.cons rfl (op_lss rfl rfl) ?_
      refine OpsL.nilK [2, 3, 4, 5, 7, 23, 24, 25] [101, 102, 103, 105] (s' := ⟨[(2, .b (.ptr 101 0)), (3, .b (.ptr 102 0)), (4, .b (.ptr 103 0)), (5, .b (.ptr 105 0)), (7, I x_4), (23, I x_3), (24, I x_7), (25, B (decide (x_7 < x_3)))], [(101, .box 25 (eBig a0)), (102, .box 25 (eBig b0)), (103, .box 25 (.bool false :: .bool false :: ((eA16 .u32) A16.zero))), (105, .box 62 ((eA32 .u32) out_6))]⟩) rfl ?_
      refine Tri.seq ?_
      refine Tri.ite h8 rfl (fun _ h8 => ?_) (fun _ h8 => ?_)
      · refine Tri.skip ?_
        refine Fin.keep [2, 3, 4, 5, 7, 23, 24] [101, 102, 103, 105] (s' := ⟨[(2, .b (.ptr 101 0)), (3, .b (.ptr 102 0)), (4, .b (.ptr 103 0)), (5, .b (.ptr 105 0)), (7, I x_4), (23, I x_3), (24, I x_7)], [(101, .box 25 (eBig a0)), (102, .box 25 (eBig b0)), (103, .box 25 (.bool false :: .bool false :: ((eA16 .u32) A16.zero))), (105, .box 62 ((eA32 .u32) out_6))]⟩) rfl ?_
        refine Fin.then ?_
        obtain ⟨v10, h11, h8⟩ := bnd h8
        refine Tri.seqJ (v := v10) (fun (out_9 : A32) => ⟨[(2, .b (.ptr 101 0)), (3, .b (.ptr 102 0)), (4, .b (.ptr 103 0)), (5, .b (.ptr 105 0)), (7, I x_4), (23, I x_3), (24, I x_7)], [(101, .box 25 (eBig a0)), (102, .box 25 (eBig b0)), (103, .box 25 (.bool false :: .bool false :: ((eA16 .u32) A16.zero))), (105, .box 62 ((eA32 .u32) out_9))]⟩) (fun z => z) ?_ ?_
        · refine Tri.block ?_
          refine Tri.seq ?_
          refine Tri.regionL ?_
          refine OpsL.cons rfl (op_move rfl) ?_
          refine OpsL.cons rfl (op_assign rfl) ?_
          refine OpsL.nilK [2, 3, 4, 5, 7, 8, 23, 24] [101, 102, 103, 105] (s' := ⟨[(2, .b (.ptr 101 0)), (3, .b (.ptr 102 0)), (4, .b (.ptr 103 0)), (5, .b (.ptr 105 0)), (7, I x_4), (8, I x_7), (23, I x_3), (24, I x_7)], [(101, .box 25 (eBig a0)), (102, .box 25 (eBig b0)), (103, .box 25 (.bool false :: .bool false :: ((eA16 .u32) A16.zero))), (105, .box 62 ((eA32 .u32) out_6))]⟩) rfl ?_
          refine Tri.seq ?_
          refine Tri.regionL ?_
          refine OpsL.cons rfl (op_assign rfl) ?_
          refine OpsL.nilK [2, 3, 4, 5, 7, 8, 9, 23, 24] [101, 102, 103, 105] (s' := ⟨[(2, .b (.ptr 101 0)), (3, .b (.ptr 102 0)), (4, .b (.ptr 103 0)), (5, .b (.ptr 105 0)), (7, I x_4), (8, I x_7), (9, .b (.one (.int .u64 0))), (23, I x_3), (24, I x_7)], [(101, .box 25 (eBig a0)), (102, .box 25 (eBig b0)), (103, .box 25 (.bool false :: .bool false :: ((eA16 .u32) A16.zero))), (105, .box 62 ((eA32 .u32) out_6))]⟩) rfl ?_
          obtain ⟨v12, h13, h11⟩ := bnd h11
          refine Tri.seqJ (v := v12) (un2 fun (out_10 : A32) (carry_11 : Int) => ⟨[(2, .b (.ptr 101 0)), (3, .b (.ptr 102 0)), (4, .b (.ptr 103 0)), (5, .b (.ptr 105 0)), (7, I x_4), (8, I x_7), (9, .b (.one (.int .u64 carry_11))), (23, I x_3), (24, I x_7)], [(101, .box 25 (eBig a0)), (102, .box 25 (eBig b0)), (103, .box 25 (.bool false :: .bool false :: ((eA16 .u32) A16.zero))), (105, .box 62 ((eA32 .u32) out_10))]⟩) (fun z => z) ?_ ?_
          · refine Tri.seq ?_
            refine Tri.regionL ?_
            refine OpsL.cons rfl (op_move rfl) ?_
            refine OpsL.cons rfl (op_move rfl) ?_
            refine OpsL.nilK [2, 3, 4, 5, 7, 8, 9, 23, 24, 27, 28] [101, 102, 103, 105] (s' := ⟨[(2, .b (.ptr 101 0)), (3, .b (.ptr 102 0)), (4, .b (.ptr 103 0)), (5, .b (.ptr 105 0)), (7, I x_4), (8, I x_7), (9, .b (.one (.int .u64 0))), (23, I x_3), (24, I x_7), (27, I x_4), (28, I 0)], [(101, .box 25 (eBig a0)), (102, .box 25 (eBig b0)), (103, .box 25 (.bool false :: .bool false :: ((eA16 .u32) A16.zero))), (105, .box 62 ((eA32 .u32) out_6))]⟩) rfl ?_
            refine Tri.block ?_
            refine Tri.loopJ h13 (un3 fun (out_12 : A32) (carry_13 : Int) (x_14 : Int) => ⟨[(2, .b (.ptr 101 0)), (3, .b (.ptr 102 0)), (4, .b (.ptr 103 0)), (5, .b (.ptr 105 0)), (7, I x_4), (8, I x_7), (9, .b (.one (.int .u64 carry_13))), (23, I x_3), (24, I x_7), (27, I x_4), (28, I x_14)], [(101, .box 25 (eBig a0)), (102, .box 25 (eBig b0)), (103, .box 25 (.bool false :: .bool false :: ((eA16 .u32) A16.zero))), (105, .box 62 ((eA32 .u32) out_12))]⟩) [2, 3, 4, 5, 7, 8, 9, 23, 24, 27, 28] [101, 102, 103, 105] rfl ?_
            rintro ⟨out_12, carry_13, x_14⟩ o14 h15 hy16
            refine Tri.seq ?_
            refine Tri.regionL ?_
            refine OpsL.cons rfl (op_lss rfl rfl) ?_
            refine OpsL.nilK [2, 3, 4, 5, 7, 8, 9, 23, 24, 27, 28, 29] [101, 102, 103, 105] (s' := ⟨[(2, .b (.ptr 101 0)), (3, .b (.ptr 102 0)), (4, .b (.ptr 103 0)), (5, .b (.ptr 105 0)), (7, I x_4), (8, I x_7), (9, .b (.one (.int .u64 carry_13))), (23, I x_3), (24, I x_7), (27, I x_4), (28, I x_14), (29, B (decide (x_14 < x_4)))], [(101, .box 25 (eBig a0)), (102, .box 25 (eBig b0)), (103, .box 25 (.bool false :: .bool false :: ((eA16 .u32) A16.zero))), (105, .box 62 ((eA32 .u32) out_12))]⟩) rfl ?_
            refine Tri.seq ?_
            refine Tri.ite h15 rfl (fun _ h15 => ?_) (fun _ h15 => ?_)
            · refine Tri.skip ?_
              refine Fin.keep [2, 3, 4, 5, 7, 8, 9, 23, 24, 27, 28] [101, 102, 103, 105] (s' := ⟨[(2, .b (.ptr 101 0)), (3, .b (.ptr 102 0)), (4, .b (.ptr 103 0)), (5, .b (.ptr 105 0)), (7, I x_4), (8, I x_7), (9, .b (.one (.int .u64 carry_13))), (23, I x_3), (24, I x_7), (27, I x_4), (28, I x_14)], [(101, .box 25 (eBig a0)), (102, .box 25 (eBig b0)), (103, .box 25 (.bool false :: .bool false :: ((eA16 .u32) A16.zero))), (105, .box 62 ((eA32 .u32) out_12))]⟩) rfl ?_
              refine Fin.then ?_
              refine Tri.seq ?_
              refine Tri.block ?_
              refine Tri.seq ?_
              refine Tri.regionL ?_
              refine OpsL.cons rfl (op_move rfl) ?_
              refine OpsL.cons rfl (op_assign rfl) ?_
              refine OpsL.nilK [2, 3, 4, 5, 7, 8, 9, 10, 23, 24, 27, 28] [101, 102, 103, 105] (s' := ⟨[(2, .b (.ptr 101 0)), (3, .b (.ptr 102 0)), (4, .b (.ptr 103 0)), (5, .b (.ptr 105 0)), (7, I x_4), (8, I x_7), (9, .b (.one (.int .u64 carry_13))), (10, I x_14), (23, I x_3), (24, I x_7), (27, I x_4), (28, I x_14)], [(101, .box 25 (eBig a0)), (102, .box 25 (eBig b0)), (103, .box 25 (.bool false :: .bool false :: ((eA16 .u32) A16.zero))), (105, .box 62 ((eA32 .u32) out_12))]⟩) rfl ?_
              refine Tri.seq ?_
              refine Tri.keep [2, 3, 4, 5, 7, 8, 9, 10, 23, 24, 27, 28] [101, 102, 103, 105] (s' := ⟨[(2, .b (.ptr 101 0)), (3, .b (.ptr 102 0)), (4, .b (.ptr 103 0)), (5, .b (.ptr 105 0)), (7, I x_4), (8, I x_7), (9, .b (.one (.int .u64 carry_13))), (10, I x_14), (23, I x_3), (24, I x_7), (27, I x_4), (28, I x_14)], [(101, .box 25 (eBig a0)), (102, .box 25 (eBig b0)), (103, .box 25 (.bool false :: .bool false :: ((eA16 .u32) A16.zero))), (105, .box 62 ((eA32 .u32) out_12))]⟩) rfl ?_
              obtain ⟨x_17, e17, h15⟩ := bnd h15
              obtain ⟨x_18, e18, h15⟩ := bnd h15
              obtain ⟨x_19, e19, h15⟩ := bnd h15
              refine Tri.regionY mixed 20 [.b (.one (.int .u64 carry_13)), I x_7, .b (.ptr 101 2), .b (.ptr 101 (2 + (x_7 : Int).toNat * 1)), .b (.one (.int .u32 x_17)), .b (.one (.int .u64 (IntKind.u64.wrap x_17))), I x_14, .b (.ptr 102 2), .b (.ptr 102 (2 + (x_14 : Int).toNat * 1)), .b (.one (.int .u32 x_18)), .b (.one (.int .u64 (IntKind.u64.wrap x_18))), .b (.one (.int .u64 (IntKind.u64.wrap ((IntKind.u64.wrap x_17) * (IntKind.u64.wrap x_18))))), I x_7, I x_14, I (IntKind.i64.wrap (x_7 + x_14)), .b (.ptr 105 (0 + (IntKind.i64.wrap (x_7 + x_14) : Int).toNat * 1)), .b (.one (.int .u32 x_19)), .b (.one (.int .u64 (IntKind.u64.wrap x_19))), .b (.one (.int .u64 (IntKind.u64.wrap ((IntKind.u64.wrap ((IntKind.u64.wrap x_17) * (IntKind.u64.wrap x_18))) + (IntKind.u64.wrap x_19))))), .b (.one (.int .u64 (IntKind.u64.wrap (carry_13 + (IntKind.u64.wrap ((IntKind.u64.wrap ((IntKind.u64.wrap x_17) * (IntKind.u64.wrap x_18))) + (IntKind.u64.wrap x_19)))))))] [2, 3, 4, 5, 7, 8, 9, 10, 23, 24, 27, 28] [101, 102, 103, 105] (s' := ⟨[(2, .b (.ptr 101 0)), (3, .b (.ptr 102 0)), (4, .b (.ptr 103 0)), (5, .b (.ptr 105 0)), (7, I x_4), (8, I x_7), (9, .b (.one (.int .u64 (IntKind.u64.wrap (carry_13 + (IntKind.u64.wrap ((IntKind.u64.wrap ((IntKind.u64.wrap x_17) * (IntKind.u64.wrap x_18))) + (IntKind.u64.wrap x_19)))))))), (10, I x_14), (23, I x_3), (24, I x_7), (27, I x_4), (28, I x_14)], [(101, .box 25 (eBig a0)), (102, .box 25 (eBig b0)), (103, .box 25 (.bool false :: .bool false :: ((eA16 .u32) A16.zero))), (105, .box 62 ((eA32 .u32) out_12))]⟩) rfl ⟨fun _ => .plain rfl (op_move rfl), fun _ => .plain rfl (op_move rfl), fun _ => .plain rfl (op_field_p tyFld25_2 rfl rfl), fun _ => .plain rfl (op_index_p tyArr23 (ix_lo e17) (ix_hi e17) rfl rfl rfl), fun _ => .plain rfl (op_load_p1 tyOne22 rfl rfl (arr_get (post := []) (k := .u32) [.bool a0.Bad, .bool a0.Neg] e17 rfl rfl rfl)), fun _ => .plain rfl (op_conv_wrap undi22 undi63 rfl), fun _ => .plain rfl (op_move rfl), fun _ => .plain rfl (op_field_p tyFld25_2 rfl rfl), fun _ => .plain rfl (op_index_p tyArr23 (ix_lo e18) (ix_hi e18) rfl rfl rfl), fun _ => .plain rfl (op_load_p1 tyOne22 rfl rfl (arr_get (post := []) (k := .u32) [.bool b0.Bad, .bool b0.Neg] e18 rfl rfl rfl)), fun _ => .plain rfl (op_conv_wrap undi22 undi63 rfl), fun _ => .plain rfl (op_mul rfl rfl), fun _ => .plain rfl (op_move rfl), fun _ => .plain rfl (op_move rfl), fun _ => .plain rfl (op_add rfl rfl), fun _ => .plain rfl (op_index_p tyArr62 (ix_lo e19) (ix_hi e19) rfl rfl rfl), fun _ => .plain rfl (op_load_p1 tyOne22 rfl rfl (arr_get (post := []) (k := .u32) [] e19 rfl rfl rfl)), fun _ => .plain rfl (op_conv_wrap undi22 undi63 rfl), fun _ => .plain rfl (op_add rfl rfl), fun _ => .plain rfl (op_add rfl rfl), trivial⟩ ⟨_, by exact .plain rfl (op_assign rfl), rfl⟩ rfl ?_
              refine Tri.seq ?_
              refine Tri.regionL ?_
              refine OpsL.cons rfl (op_move rfl) ?_
              refine OpsL.cons rfl (op_move rfl) ?_
              refine OpsL.cons rfl (op_add rfl rfl) ?_
              refine OpsL.consI .u64 h15 rfl (op_move rfl) (fun x_20 h15 => ?_)
              refine OpsL.cons rfl (op_conv_wrap undi63 undi22 rfl) ?_
              obtain ⟨x_21, e20, h15⟩ := bnd h15
              refine OpsL.cons rfl (op_index_p tyArr62 (ix_lo e20) (ix_hi e20) rfl rfl rfl) ?_
              refine OpsL.cons rfl (op_store_p1 tyOne22 rfl rfl rfl (arr_lt (post := []) (k := .u32) [] e20 rfl rfl rfl) (arr_set (post := []) (k := .u32) [] e20 rfl rfl (A32.set_l out_12 (IntKind.i64.wrap (x_7 + x_14)) (IntKind.u32.wrap x_20)) rfl rfl)) ?_
              refine OpsL.nilK [2, 3, 4, 5, 7, 8, 9, 23, 24, 27, 28] [101, 102, 103, 105] (s' := ⟨[(2, .b (.ptr 101 0)), (3, .b (.ptr 102 0)), (4, .b (.ptr 103 0)), (5, .b (.ptr 105 0)), (7, I x_4), (8, I x_7), (9, .b (.one (.int .u64 (IntKind.u64.wrap (carry_13 + (IntKind.u64.wrap ((IntKind.u64.wrap ((IntKind.u64.wrap x_17) * (IntKind.u64.wrap x_18))) + (IntKind.u64.wrap x_19)))))))), (23, I x_3), (24, I x_7), (27, I x_4), (28, I x_14)], [(101, .box 25 (eBig a0)), (102, .box 25 (eBig b0)), (103, .box 25 (.bool false :: .bool false :: ((eA16 .u32) A16.zero))), (105, .box 62 ((eA32 .u32) (out_12.set (IntKind.i64.wrap (x_7 + x_14)) (IntKind.u32.wrap x_20))))]⟩) rfl ?_
              refine Tri.regionL ?_
              refine OpsL.consI .u64 h15 rfl (op_move rfl) (fun x_22 h15 => ?_)
              refine OpsL.cons rfl (op_shr2 (m := 32) (by decide) rfl rfl rfl) ?_
              refine OpsL.cons rfl (op_assign rfl) ?_
              refine OpsL.nil ?_
              refine Fin.block_normal ?_
              refine Fin.keep [2, 3, 4, 5, 7, 8, 9, 23, 24, 27, 28] [101, 102, 103, 105] (s' := ⟨[(2, .b (.ptr 101 0)), (3, .b (.ptr 102 0)), (4, .b (.ptr 103 0)), (5, .b (.ptr 105 0)), (7, I x_4), (8, I x_7), (9, .b (.one (.int .u64 (x_22 / 4294967296)))), (23, I x_3), (24, I x_7), (27, I x_4), (28, I x_14)], [(101, .box 25 (eBig a0)), (102, .box 25 (eBig b0)), (103, .box 25 (.bool false :: .bool false :: ((eA16 .u32) A16.zero))), (105, .box 62 ((eA32 .u32) (out_12.set (IntKind.i64.wrap (x_7 + x_14)) (IntKind.u32.wrap x_20))))]⟩) rfl ?_
              refine Fin.then ?_
              refine Tri.regionL ?_
              refine OpsL.cons rfl (op_add rfl rfl) ?_
              refine OpsL.cons rfl (op_move rfl) ?_
              refine OpsL.nil ?_
              exact Fin.againJ [2, 3, 4, 5, 7, 8, 9, 23, 24, 27, 28] [101, 102, 103, 105] (out_12.set (IntKind.i64.wrap (x_7 + x_14)) (IntKind.u32.wrap x_20), x_22 / 4294967296, IntKind.i64.wrap (x_14 + 1)) (Option.some.inj h15) rfl
            · refine Tri.exit ?_
              refine Fin.then_exit ?_
              obtain rfl := hy16 _ (Option.some.inj h15).symm
              refine Fin.then_exit ?_
              refine Fin.block_exit ?_
              exact Fin.join [2, 3, 4, 5, 7, 8, 9, 23, 24] [101, 102, 103, 105] (out_12, carry_13) rfl rfl
          · rintro ⟨out_10, carry_11⟩ hv
            subst v12
            refine Tri.regionL ?_
            refine OpsL.cons rfl (op_move rfl) ?_
            refine OpsL.cons rfl (op_move rfl) ?_
            refine OpsL.cons rfl (op_add rfl rfl) ?_
            refine OpsL.cons rfl (op_move rfl) ?_
            refine OpsL.cons rfl (op_conv_wrap undi63 undi22 rfl) ?_
            obtain ⟨x_23, e21, h11⟩ := bnd h11
            refine OpsL.cons rfl (op_index_p tyArr62 (ix_lo e21) (ix_hi e21) rfl rfl rfl) ?_
            refine OpsL.cons rfl (op_store_p1 tyOne22 rfl rfl rfl (arr_lt (post := []) (k := .u32) [] e21 rfl rfl rfl) (arr_set (post := []) (k := .u32) [] e21 rfl rfl (A32.set_l out_10 (IntKind.i64.wrap (x_7 + x_4)) (IntKind.u32.wrap carry_11)) rfl rfl)) ?_
            refine OpsL.nil ?_
            refine Fin.block_normal ?_
            exact Fin.join [2, 3, 4, 5, 7, 23, 24] [101, 102, 103, 105] (out_10.set (IntKind.i64.wrap (x_7 + x_4)) (IntKind.u32.wrap carry_11)) (Option.some.inj h11) rfl
        · rintro out_9 hv
          subst v10
          refine Tri.regionL ?_
          refine OpsL.cons rfl (op_add rfl rfl) ?_
          refine OpsL.cons rfl (op_move rfl) ?_
          refine OpsL.nil ?_
          exact Fin.againJ [2, 3, 4, 5, 7, 23, 24] [101, 102, 103, 105] (out_9, IntKind.i64.wrap (x_7 + 1)) (Option.some.inj h8) rfl
      · refine Tri.exit ?_
        refine Fin.then_exit ?_
        obtain rfl := hy9 _ (Option.some.inj h8).symm
        refine Fin.then_exit ?_
        refine Fin.block_exit ?_
        exact Fin.join [2, 3, 4, 5] [101, 102, 103, 105] out_6 rfl rfl
    · rintro out_5 hv
      subst v5
      refine Tri.seq ?_
      refine Tri.seq ?_
      refine Tri.regionL ?_
      refine OpsL.cons rfl (op_slice_al (i := 16) tyArr62 (by decide) (by decide) rfl rfl) ?_
      refine OpsL.cons rfl (op_toArr tyArr23 (by decide) rfl) ?_
      refine OpsL.consA (eA16 .u32) h rfl (op_load_p tyAgg23 rfl rfl rfl rfl) (fun x_24 h => ?_)
      refine OpsL.cons rfl (op_buildA tyBuild23 rfl rfl) ?_
      refine OpsL.cons rfl (op_neq_agg (eqAgg23 x_24 A16.zero) rfl rfl neg_dec) ?_
      refine OpsL.nilK [2, 3, 4, 5, 71] [101, 102, 103, 105] (s' := ⟨[(2, .b (.ptr 101 0)), (3, .b (.ptr 102 0)), (4, .b (.ptr 103 0)), (5, .b (.ptr 105 0)), (71, B (decide (x_24 ≠ A16.zero)))], [(101, .box 25 (eBig a0)), (102, .box 25 (eBig b0)), (103, .box 25 (.bool false :: .bool false :: ((eA16 .u32) A16.zero))), (105, .box 62 ((eA32 .u32) out_5))]⟩) rfl ?_
      refine Tri.ite h rfl (fun _ h => ?_) (fun _ h => ?_)
      · refine Tri.seq ?_
        refine Tri.regionL ?_
        obtain ⟨x_25, e22, h⟩ := bnd h
        refine OpsL.cons rfl (op_call0 (whole_Bad_spec e22) goes44 rfl rfl) ?_
        refine OpsL.cons rfl (op_store_p tyAgg25 rfl rfl rfl rfl (Nat.le_of_ble_eq_true rfl) rfl) ?_
        refine OpsL.nilK [4] [103] (s' := ⟨[(4, .b (.ptr 103 0))], [(103, .box 25 (eBig x_25))]⟩) rfl ?_
        refine Tri.ret ?_
        refine Fin.then_ret ?_
        obtain rfl := Option.some.inj h
        refine Fin.keep [4] [103] (s' := ⟨[(4, .b (.ptr 103 0))], [(103, .box 25 (eBig x_25))]⟩) rfl ?_
        refine Fin.result' [.agg (eBig x_25)] (.inl rfl) rfl (.cons (.agg tyAgg25 rfl rfl rfl rfl) .nil) ⟨rfl, rfl⟩
      · refine Tri.skip ?_
        refine Fin.keep [2, 3, 4, 5] [101, 102, 103, 105] (s' := ⟨[(2, .b (.ptr 101 0)), (3, .b (.ptr 102 0)), (4, .b (.ptr 103 0)), (5, .b (.ptr 105 0))], [(101, .box 25 (eBig a0)), (102, .box 25 (eBig b0)), (103, .box 25 (.bool false :: .bool false :: ((eA16 .u32) A16.zero))), (105, .box 62 ((eA32 .u32) out_5))]⟩) rfl ?_
        refine Fin.then ?_
        refine Tri.seq ?_
        refine Tri.keep [2, 3, 4, 5] [101, 102, 103, 105] (s' := ⟨[(2, .b (.ptr 101 0)), (3, .b (.ptr 102 0)), (4, .b (.ptr 103 0)), (5, .b (.ptr 105 0))], [(101, .box 25 (eBig a0)), (102, .box 25 (eBig b0)), (103, .box 25 (.bool false :: .bool false :: ((eA16 .u32) A16.zero))), (105, .box 62 ((eA32 .u32) out_5))]⟩) rfl ?_
        obtain ⟨x_26, e23, h⟩ := bnd h
        refine Tri.regionY mixed 9 [.b (.ptr 101 1), B a0.Neg, .b (.ptr 102 1), B b0.Neg, B (a0.Neg != b0.Neg), .b (.psl 105 0 16 32), .b (.ptr 105 0), .b (.agg [.int .u32 out_5.a0, .int .u32 out_5.a1, .int .u32 out_5.a2, .int .u32 out_5.a3, .int .u32 out_5.a4, .int .u32 out_5.a5, .int .u32 out_5.a6, .int .u32 out_5.a7, .int .u32 out_5.a8, .int .u32 out_5.a9, .int .u32 out_5.a10, .int .u32 out_5.a11, .int .u32 out_5.a12, .int .u32 out_5.a13, .int .u32 out_5.a14, .int .u32 out_5.a15]), .b (.agg (eBig x_26))] [4] [103] (s' := ⟨[(4, .b (.ptr 103 0))], [(103, .box 25 (eBig x_26))]⟩) rfl ⟨fun _ => .plain rfl (op_field_p tyFld25_1 rfl rfl), fun _ => .plain rfl (op_load_p1 tyOne4 rfl rfl rfl), fun _ => .plain rfl (op_field_p tyFld25_1 rfl rfl), fun _ => .plain rfl (op_load_p1 tyOne4 rfl rfl rfl), fun _ => .plain rfl (op_neq_bool und4 rfl rfl), fun _ => .plain rfl (op_slice_ah (i := 16) tyArr62 (by decide) (by decide) rfl rfl), fun _ => .plain rfl (op_toArr tyArr23 (by decide) rfl), fun _ => .plain rfl (op_load_p tyAgg23 rfl rfl rfl rfl), fun _ => .plain rfl (op_call0 (whole_signed_spec e23) goes46 rfl rfl), trivial⟩ ⟨_, by exact .plain rfl (op_store_p tyAgg25 rfl rfl rfl rfl (Nat.le_of_ble_eq_true rfl) rfl), rfl⟩ rfl ?_
        refine Tri.ret ?_
        obtain rfl := Option.some.inj h
        refine Fin.keep [4] [103] (s' := ⟨[(4, .b (.ptr 103 0))], [(103, .box 25 (eBig x_26))]⟩) rfl ?_
        refine Fin.result' [.agg (eBig x_26)] (.inl rfl) rfl (.cons (.agg tyAgg25 rfl rfl rfl rfl) .nil) ⟨rfl, rfl⟩

def whole_short_S (F : Nat) (a0 : A16) (b0 : Int) : Option (A16 × Int) :=
 Option.bind (iter F (un3 fun q_3 r_4 k_5 => if (decide (0 ≤ k_5)) = true then (Option.bind (idx? a0.l k_5) (fun x_8 => letN (ior .u64 (IntKind.u64.wrap (r_4 * 4294967296)) (IntKind.u64.wrap x_8)) fun x_9 => Option.bind (quo? .u64 x_9 (IntKind.u64.wrap b0)) (fun x_10 => Option.bind (idx? q_3.l k_5) (fun x_11 => Option.bind (rem? x_9 (IntKind.u64.wrap b0)) (fun x_12 => some (.inl (q_3.set k_5 (IntKind.u32.wrap x_10), x_12, IntKind.i64.wrap (k_5 - 1)))))))) else (some (.inr (q_3, r_4)))) (A16.zero, 0, 15)) (un2 fun q_1 r_2 => some (q_1, IntKind.u32.wrap r_2))
theorem whole_short_spec {F : Nat} {a0 : A16} {b0 : Int} {r : A16 × Int} (h : whole_short_S F a0 b0 = some r) : Meets Tryd.prog tabs 65 [] [.agg ((eA16 .u32) a0), .one (.int .u32 b0)] (Is [] (.tup [.agg ((eA16 .u32) r.1), .one (.int .u32 r.2)])) := by
  unfold whole_short_S at h
  refine Meets.intro 33 Tryd.func65 Tryd.ntmps65 rfl (by simp) fun E => ?_
  show Tri _ E ⟨33, [], []⟩ _ ⟨[(0, .b (.agg ((eA16 .u32) a0))), (1, .b (.one (.int .u32 b0)))], []⟩ _
  refine Tri.seq ?_
  refine Tri.regionL ?_
  refine OpsL.cons rfl (op_box (k := 101) rfl rfl) ?_
  refine OpsL.cons rfl (op_alloc (k := 102) tyZero23 rfl) ?_
  refine OpsL.cons rfl (op_assign rfl) ?_
  refine OpsL.nilK [1, 2, 4] [101, 102] (s' := ⟨[(1, .b (.one (.int .u32 b0))), (2, .b (.ptr 101 0)), (4, .b (.ptr 102 0))], [(101, .box 23 ((eA16 .u32) a0)), (102, .box 23 ((eA16 .u32) A16.zero))]⟩) rfl ?_
  refine Tri.seq ?_
  refine Tri.regionL ?_
  refine OpsL.cons rfl (op_assign rfl) ?_
  refine OpsL.nilK [1, 2, 4, 6] [101, 102] (s' := ⟨[(1, .b (.one (.int .u32 b0))), (2, .b (.ptr 101 0)), (4, .b (.ptr 102 0)), (6, .b (.one (.int .u64 0)))], [(101, .box 23 ((eA16 .u32) a0)), (102, .box 23 ((eA16 .u32) A16.zero))]⟩) rfl ?_
  obtain ⟨v1, h2, h⟩ := bnd h
  refine Tri.seqJ (v := v1) (un2 fun (q_1 : A16) (r_2 : Int) => ⟨[(4, .b (.ptr 102 0)), (6, .b (.one (.int .u64 r_2)))], [(102, .box 23 ((eA16 .u32) q_1))]⟩) (fun z => z) ?_ ?_
  · refine Tri.seq ?_
    refine Tri.regionL ?_
    refine OpsL.cons rfl (op_assign rfl) ?_
    refine OpsL.nilK [1, 2, 4, 6, 7] [101, 102] (s' := ⟨[(1, .b (.one (.int .u32 b0))), (2, .b (.ptr 101 0)), (4, .b (.ptr 102 0)), (6, .b (.one (.int .u64 0))), (7, I 15)], [(101, .box 23 ((eA16 .u32) a0)), (102, .box 23 ((eA16 .u32) A16.zero))]⟩) rfl ?_
    refine Tri.block ?_
    refine Tri.loopJ h2 (un3 fun (q_3 : A16) (r_4 : Int) (k_5 : Int) => ⟨[(1, .b (.one (.int .u32 b0))), (2, .b (.ptr 101 0)), (4, .b (.ptr 102 0)), (6, .b (.one (.int .u64 r_4))), (7, I k_5)], [(101, .box 23 ((eA16 .u32) a0)), (102, .box 23 ((eA16 .u32) q_3))]⟩) [1, 2, 4, 6, 7] [101, 102] rfl ?_
    rintro ⟨q_3, r_4, k_5⟩ o3 h4 hy5
    refine Tri.seq ?_
    refine Tri.seq ?_
    refine Tri.regionL ?_
    refine OpsL.cons rfl (op_move rfl) ?_
    refine OpsL.cons rfl (op_geq rfl rfl) ?_
    refine OpsL.nilK [1, 2, 4, 6, 7, 9] [101, 102] (s' := ⟨[(1, .b (.one (.int .u32 b0))), (2, .b (.ptr 101 0)), (4, .b (.ptr 102 0)), (6, .b (.one (.int .u64 r_4))), (7, I k_5), (9, B (decide (0 ≤ k_5)))], [(101, .box 23 ((eA16 .u32) a0)), (102, .box 23 ((eA16 .u32) q_3))]⟩) rfl ?_
    refine Tri.ite h4 rfl (fun _ h4 => ?_) (fun _ h4 => ?_)
    · refine Tri.skip ?_
      refine Fin.keep [1, 2, 4, 6, 7] [101, 102] (s' := ⟨[(1, .b (.one (.int .u32 b0))), (2, .b (.ptr 101 0)), (4, .b (.ptr 102 0)), (6, .b (.one (.int .u64 r_4))), (7, I k_5)], [(101, .box 23 ((eA16 .u32) a0)), (102, .box 23 ((eA16 .u32) q_3))]⟩) rfl ?_
      refine Fin.then ?_
      refine Tri.seq ?_
      refine Tri.block ?_
      refine Tri.seq ?_
      refine Tri.regionL ?_
      refine OpsL.cons rfl (op_move rfl) ?_
      refine OpsL.cons rfl (op_shl0 (m := 32) (q := 4294967296) (by decide) rfl rfl (by decide)) ?_
      refine OpsL.cons rfl (op_move rfl) ?_
      obtain ⟨x_8, e6, h4⟩ := bnd h4
      refine OpsL.cons rfl (op_index_p tyArr23 (ix_lo e6) (ix_hi e6) rfl rfl rfl) ?_
      refine OpsL.cons rfl (op_load_p1 tyOne22 rfl rfl (arr_get (post := []) (k := .u32) [] e6 rfl rfl rfl)) ?_
      refine OpsL.cons rfl (op_conv_wrap undi22 undi63 rfl) ?_
      refine OpsL.consI .u64 h4 rfl (op_or rfl rfl) (fun x_9 h4 => ?_)
      refine OpsL.cons rfl (op_assign rfl) ?_
      refine OpsL.nilK [1, 2, 4, 6, 7] [101, 102] (s' := ⟨[(1, .b (.one (.int .u32 b0))), (2, .b (.ptr 101 0)), (4, .b (.ptr 102 0)), (6, .b (.one (.int .u64 x_9))), (7, I k_5)], [(101, .box 23 ((eA16 .u32) a0)), (102, .box 23 ((eA16 .u32) q_3))]⟩) rfl ?_
      refine Tri.seq ?_
      refine Tri.regionL ?_
      refine OpsL.cons rfl (op_move rfl) ?_
      refine OpsL.cons rfl (op_move rfl) ?_
      refine OpsL.cons rfl (op_move rfl) ?_
      refine OpsL.cons rfl (op_conv_wrap undi22 undi63 rfl) ?_
      obtain ⟨x_10, e7, h4⟩ := bnd h4
      refine OpsL.cons rfl (op_quo2 e7 rfl rfl) ?_
      refine OpsL.cons rfl (op_conv_wrap undi63 undi22 rfl) ?_
      obtain ⟨x_11, e8, h4⟩ := bnd h4
      refine OpsL.cons rfl (op_index_p tyArr23 (ix_lo e8) (ix_hi e8) rfl rfl rfl) ?_
      refine OpsL.cons rfl (op_store_p1 tyOne22 rfl rfl rfl (arr_lt (post := []) (k := .u32) [] e8 rfl rfl rfl) (arr_set (post := []) (k := .u32) [] e8 rfl rfl (A16.set_l q_3 k_5 (IntKind.u32.wrap x_10)) rfl rfl)) ?_
      refine OpsL.nilK [1, 2, 4, 6, 7] [101, 102] (s' := ⟨[(1, .b (.one (.int .u32 b0))), (2, .b (.ptr 101 0)), (4, .b (.ptr 102 0)), (6, .b (.one (.int .u64 x_9))), (7, I k_5)], [(101, .box 23 ((eA16 .u32) a0)), (102, .box 23 ((eA16 .u32) (q_3.set k_5 (IntKind.u32.wrap x_10))))]⟩) rfl ?_
      refine Tri.regionL ?_
      refine OpsL.cons rfl (op_move rfl) ?_
      refine OpsL.cons rfl (op_move rfl) ?_
      refine OpsL.cons rfl (op_conv_wrap undi22 undi63 rfl) ?_
      obtain ⟨x_12, e9, h4⟩ := bnd h4
      refine OpsL.cons rfl (op_rem2 e9 rfl rfl) ?_
      refine OpsL.cons rfl (op_assign rfl) ?_
      refine OpsL.nil ?_
      refine Fin.block_normal ?_
      refine Fin.keep [1, 2, 4, 6, 7] [101, 102] (s' := ⟨[(1, .b (.one (.int .u32 b0))), (2, .b (.ptr 101 0)), (4, .b (.ptr 102 0)), (6, .b (.one (.int .u64 x_12))), (7, I k_5)], [(101, .box 23 ((eA16 .u32) a0)), (102, .box 23 ((eA16 .u32) (q_3.set k_5 (IntKind.u32.wrap x_10))))]⟩) rfl ?_
      refine Fin.then ?_
      refine Tri.regionL ?_
      refine OpsL.cons rfl (op_move rfl) ?_
      refine OpsL.cons rfl (op_sub rfl rfl) ?_
      refine OpsL.cons rfl (op_assign rfl) ?_
      refine OpsL.nil ?_
      exact Fin.againJ [1, 2, 4, 6, 7] [101, 102] (q_3.set k_5 (IntKind.u32.wrap x_10), x_12, IntKind.i64.wrap (k_5 - 1)) (Option.some.inj h4) rfl
    · refine Tri.exit ?_
      refine Fin.then_exit ?_
      obtain rfl := hy5 _ (Option.some.inj h4).symm
      refine Fin.then_exit ?_
      refine Fin.block_exit ?_
      exact Fin.join [4, 6] [102] (q_3, r_4) rfl rfl
  · rintro ⟨q_1, r_2⟩ hv
    subst v1
    refine Tri.seq ?_
    refine Tri.regionL ?_
    refine OpsL.cons rfl (op_load_p tyAgg23 rfl rfl rfl rfl) ?_
    refine OpsL.cons rfl (op_move rfl) ?_
    refine OpsL.cons rfl (op_conv_wrap undi63 undi22 rfl) ?_
    refine OpsL.cons rfl (op_store_p tyAgg23 rfl rfl rfl rfl (Nat.le_of_ble_eq_true rfl) rfl) ?_
    refine OpsL.cons rfl (op_assign rfl) ?_
    refine OpsL.nilK [4, 5] [102] (s' := ⟨[(4, .b (.ptr 102 0)), (5, .b (.one (.int .u32 (IntKind.u32.wrap r_2))))], [(102, .box 23 ((eA16 .u32) q_1))]⟩) rfl ?_
    refine Tri.ret ?_
    obtain rfl := Option.some.inj h
    refine Fin.keep [4, 5] [102] (s' := ⟨[(4, .b (.ptr 102 0)), (5, .b (.one (.int .u32 (IntKind.u32.wrap r_2))))], [(102, .box 23 ((eA16 .u32) q_1))]⟩) rfl ?_
    refine Fin.result' [.agg ((eA16 .u32) q_1), .one (.int .u32 (IntKind.u32.wrap r_2))] (.inl rfl) rfl (.cons (.agg tyAgg23 rfl rfl rfl rfl) (.cons (.tmp rfl) .nil)) ⟨rfl, rfl⟩

def slices_Reverse_S (F : Nat) (s0 : List Str) : Option (List Str) :=
 letN (IntKind.i64.wrap ((s0.length : Int) - 1)) fun x_1 => Option.bind (iter F (un3 fun s_2 i_3 j_4 => if (decide (i_3 < j_4)) = true then (Option.bind (idx? s_2 j_4) (fun x_6 => Option.bind (idx? s_2 i_3) (fun x_7 => Option.bind (idx? s_2 i_3) (fun x_8 => Option.bind (idx? (s_2.set (i_3 : Int).toNat x_6) j_4) (fun x_9 => some (.inl ((s_2.set (i_3 : Int).toNat x_6).set (j_4 : Int).toNat x_7, IntKind.i64.wrap (i_3 + 1), IntKind.i64.wrap (j_4 - 1)))))))) else (some (.inr s_2))) (s0, 0, x_1)) (fun y_5 => some y_5)
theorem slices_Reverse_spec {F : Nat} {s0 : List Str} {r : (List Str)} (h : slices_Reverse_S F s0 = some r) : Meets Tryd.prog tabs 68 [(1, .frow 9 1 (s0.map eS))] [.row 1] (Is [(1, .frow 9 1 (r.map eS))] (.tup [])) := by
  unfold slices_Reverse_S at h
  refine Meets.intro 28 Tryd.func68 Tryd.ntmps68 rfl (by simp) fun E => ?_
  show Tri _ E ⟨28, [1], [1]⟩ _ ⟨[(0, .b (.row 1))], [(1, .frow 9 1 (s0.map eS))]⟩ _
  refine Tri.unF 1 rfl ?_
  refine Tri.seq ?_
  refine Tri.regionL ?_
  refine OpsL.cons rfl (op_move rfl) ?_
  refine OpsL.cons rfl (op_len_r' und71 rfl rfl (List.length_map _)) ?_
  refine OpsL.consI .i64 h rfl (op_sub rfl rfl) (fun x_1 h => ?_)
  refine OpsL.cons rfl (op_assign rfl) ?_
  refine OpsL.cons rfl (op_assign rfl) ?_
  refine OpsL.nilK [0, 2, 3] [1] (s' := ⟨[(0, .b (.row 1)), (2, I 0), (3, I x_1)], [(1, .row 9 1 (s0.map eS))]⟩) rfl ?_
  refine Tri.block ?_
  obtain ⟨v1, h2, h⟩ := bnd h
  refine Tri.loopJ h2 (un3 fun (s_2 : List Str) (i_3 : Int) (j_4 : Int) => ⟨[(0, .b (.row 1)), (2, I i_3), (3, I j_4)], [(1, .row 9 1 (s_2.map eS))]⟩) [0, 2, 3] [1] rfl ?_
  rintro ⟨s_2, i_3, j_4⟩ o3 h4 hy5
  refine Tri.seq ?_
  refine Tri.seq ?_
  refine Tri.regionL ?_
  refine OpsL.cons rfl (op_move rfl) ?_
  refine OpsL.cons rfl (op_move rfl) ?_
  refine OpsL.cons rfl (op_lss rfl rfl) ?_
  refine OpsL.nilK [0, 2, 3, 9] [1] (s' := ⟨[(0, .b (.row 1)), (2, I i_3), (3, I j_4), (9, B (decide (i_3 < j_4)))], [(1, .row 9 1 (s_2.map eS))]⟩) rfl ?_
  refine Tri.ite h4 rfl (fun _ h4 => ?_) (fun _ h4 => ?_)
  · refine Tri.skip ?_
    refine Fin.keep [0, 2, 3] [1] (s' := ⟨[(0, .b (.row 1)), (2, I i_3), (3, I j_4)], [(1, .row 9 1 (s_2.map eS))]⟩) rfl ?_
    refine Fin.then ?_
    refine Tri.seq ?_
    refine Tri.block ?_
    refine Tri.keep [0, 2, 3] [1] (s' := ⟨[(0, .b (.row 1)), (2, I i_3), (3, I j_4)], [(1, .row 9 1 (s_2.map eS))]⟩) rfl ?_
    obtain ⟨x_6, e6, h4⟩ := bnd h4
    obtain ⟨x_7, e7, h4⟩ := bnd h4
    obtain ⟨x_8, e8, h4⟩ := bnd h4
    obtain ⟨x_9, e9, h4⟩ := bnd h4
    refine Tri.regionWF mixed [false, false, false, false, false, false, false, false, false, false, false, false, false, true, false, true] [.b (.row 1), I i_3, .b (.row 1), I j_4, .b (.row 1), I j_4, .b (.rptr 1 ((j_4 : Int).toNat * 1)), .b (.one (.str x_6)), .b (.row 1), I i_3, .b (.rptr 1 ((i_3 : Int).toNat * 1)), .b (.one (.str x_7)), .b (.rptr 1 ((i_3 : Int).toNat * 1)), B true, .b (.rptr 1 ((j_4 : Int).toNat * 1)), B true] [⟨[false, false, false, false, false, false, false, false, false, false, false, false, false, false, false, false], [(0, .b (.row 1)), (2, I i_3), (3, I j_4)], [(1, .row 9 1 (s_2.map eS))], [true, true, true, true, true, true, true, true, true, true, true, true, true, true, true, true], []⟩, ⟨[false, false, false, false, false, false, false, false, false, false, false, false, false, true, false, false], [(0, .b (.row 1)), (2, I i_3), (3, I j_4)], [(1, .row 9 1 ((s_2.set (i_3 : Int).toNat x_6).map eS))], [true, true, true, true, true, true, true, true, true, true, true, true, true, true, true, true], [0, 1, 4, 5, 6, 7, 8, 9, 10, 11, 12, 13]⟩, ⟨[false, false, false, false, false, false, false, false, false, false, false, false, false, true, false, true], [(0, .b (.row 1)), (2, I i_3), (3, I j_4)], [(1, .row 9 1 (((s_2.set (i_3 : Int).toNat x_6).set (j_4 : Int).toNat x_7).map eS))], [true, true, true, true, true, true, true, true, true, true, true, true, true, true, true, true], [0, 1, 2, 3, 4, 5, 6, 7, 8, 9, 10, 11, 12, 13, 14, 15]⟩] rfl (⟨by kernel_rfl, ⟨⟨.b (.row 1), fun _ => rfl, fun _ => .plain rfl (by exact op_move rfl)⟩, ⟨I i_3, fun _ => rfl, fun _ => .plain rfl (by exact op_move rfl)⟩, ⟨.b (.row 1), fun _ => rfl, fun _ => .plain rfl (by exact op_move rfl)⟩, ⟨I j_4, fun _ => rfl, fun _ => .plain rfl (by exact op_move rfl)⟩, ⟨.b (.row 1), fun _ => rfl, fun _ => .plain rfl (by exact op_move rfl)⟩, ⟨I j_4, fun _ => rfl, fun _ => .plain rfl (by exact op_move rfl)⟩, ⟨.b (.rptr 1 ((j_4 : Int).toNat * 1)), fun _ => rfl, fun _ => .plain rfl (by exact op_index_r tySl71 (ix_lo e6) (ix_lt' e6) rfl rfl rfl rfl)⟩, ⟨.b (.one (.str x_6)), fun _ => rfl, fun _ => .plain rfl (by exact op_load_r1 (i := (j_4 : Int).toNat) (f := 0) tyOne9 rfl rfl rfl (ix_map (e := eS) e6) rfl)⟩, ⟨.b (.row 1), fun _ => rfl, fun _ => .plain rfl (by exact op_move rfl)⟩, ⟨I i_3, fun _ => rfl, fun _ => .plain rfl (by exact op_move rfl)⟩, ⟨.b (.rptr 1 ((i_3 : Int).toNat * 1)), fun _ => rfl, fun _ => .plain rfl (by exact op_index_r tySl71 (ix_lo e7) (ix_lt' e7) rfl rfl rfl rfl)⟩, ⟨.b (.one (.str x_7)), fun _ => rfl, fun _ => .plain rfl (by exact op_load_r1 (i := (i_3 : Int).toNat) (f := 0) tyOne9 rfl rfl rfl (ix_map (e := eS) e7) rfl)⟩, ⟨.b (.rptr 1 ((i_3 : Int).toNat * 1)), fun _ => rfl, fun _ => .plain rfl (by exact op_index_r tySl71 (ix_lo e8) (ix_lt' e8) rfl rfl rfl rfl)⟩, ⟨_, none, .b (.one .any), rfl, (fun e => by simp at e), rfl, rfl, fun _ => .toO [1] (by exact .plain rfl (by exact op_store_r1 (i := (i_3 : Int).toNat) tyOne9 rfl rfl rfl rfl (ix_lt e8) (map_set _ _ _ _))) (by exact rfl)⟩, trivial, trivial, trivial⟩, ⟨by kernel_rfl, ⟨trivial, trivial, ⟨.b (.row 1), fun _ => rfl, fun _ => .plain rfl (by exact op_move rfl)⟩, ⟨I j_4, fun _ => rfl, fun _ => .plain rfl (by exact op_move rfl)⟩, trivial, trivial, trivial, trivial, trivial, trivial, trivial, trivial, trivial, trivial, ⟨.b (.rptr 1 ((j_4 : Int).toNat * 1)), fun _ => rfl, fun _ => .plain rfl (by exact op_index_r tySl71 (ix_lo e9) (ix_lt' e9) rfl rfl rfl rfl)⟩, ⟨_, none, .b (.one .any), rfl, (fun e => by simp at e), rfl, rfl, fun _ => .toO [1] (by exact .plain rfl (by exact op_store_r1 (i := (j_4 : Int).toNat) tyOne9 rfl rfl rfl rfl (ix_lt e9) (map_set _ _ _ _))) (by exact rfl)⟩, trivial⟩, ⟨by kernel_rfl, ⟨trivial, trivial, trivial, trivial, trivial, trivial, trivial, trivial, trivial, trivial, trivial, trivial, trivial, trivial, trivial, trivial, trivial⟩, trivial⟩⟩⟩) rfl rfl rfl [0, 2, 3] [1] (s' := ⟨[(0, .b (.row 1)), (2, I i_3), (3, I j_4)], [(1, .row 9 1 (((s_2.set (i_3 : Int).toNat x_6).set (j_4 : Int).toNat x_7).map eS))]⟩) rfl ?_
    refine Fin.block_normal ?_
    refine Fin.keep [0, 2, 3] [1] (s' := ⟨[(0, .b (.row 1)), (2, I i_3), (3, I j_4)], [(1, .row 9 1 (((s_2.set (i_3 : Int).toNat x_6).set (j_4 : Int).toNat x_7).map eS))]⟩) rfl ?_
    refine Fin.then ?_
    refine Tri.regionL ?_
    refine OpsL.cons rfl (op_move rfl) ?_
    refine OpsL.cons rfl (op_add rfl rfl) ?_
    refine OpsL.cons rfl (op_move rfl) ?_
    refine OpsL.cons rfl (op_sub rfl rfl) ?_
    refine OpsL.cons rfl (op_assign rfl) ?_
    refine OpsL.cons rfl (op_assign rfl) ?_
    refine OpsL.nil ?_
    exact Fin.againJ [0, 2, 3] [1] ((s_2.set (i_3 : Int).toNat x_6).set (j_4 : Int).toNat x_7, IntKind.i64.wrap (i_3 + 1), IntKind.i64.wrap (j_4 - 1)) (Option.some.inj h4) rfl
  · refine Tri.exit ?_
    refine Fin.then_exit ?_
    obtain rfl := hy5 _ (Option.some.inj h4).symm
    refine Fin.then_exit ?_
    refine Fin.block_exit ?_
    obtain rfl := Option.some.inj h
    refine Fin.keep [] [1] (s' := ⟨[], [(1, .row 9 1 (s_2.map eS))]⟩) rfl ?_
    refine Fin.toF 1 rfl ?_
    refine Fin.keep [] [1] (s' := ⟨[], [(1, .frow 9 1 (s_2.map eS))]⟩) rfl ?_
    exact Fin.result [] (.inr rfl) rfl (.nil) ⟨rfl, rfl⟩

def whole_Text_S (F : Nat) (x0 : Big) : Option Str :=
 Option.bind (whole_good_S F [x0]) (fun x_1 => if (!x_1) = true then (some []) else (Option.bind (iter F (un2 fun parts_3 w_4 => Option.bind (whole_short_S F w_4 1000000000) (un2 fun x_6 x_7 => Option.bind (strconv_Itoa_S F (IntKind.i64.wrap x_7)) (fun x_8 => if (decide (x_6 = A16.zero)) = true then (Option.bind (app? parts_3 [x_8]) (fun x_9 => some (.inr x_9))) else (letN (IntKind.i64.wrap (9 - (x_8.length : Int))) fun x_10 => Option.bind (strings_Repeat_S F [48] x_10) (fun x_11 => Option.bind (app? x_11 x_8) (fun x_12 => Option.bind (app? parts_3 [x_12]) (fun x_13 => some (.inl (x_13, x_6))))))))) ([], x0.W)) (fun parts_2 => Option.bind (if x0.Neg = true then (Option.bind (app? parts_2 [[45]]) (fun x_15 => some x_15)) else (some parts_2)) (fun parts_14 => Option.bind (slices_Reverse_S F parts_14) (fun x_16 => Option.bind (strings_Join_S F x_16 []) (fun x_17 => some x_17))))))
theorem whole_Text_spec {F : Nat} {x0 : Big} {r : Str} (h : whole_Text_S F x0 = some r) : Meets Tryd.prog tabs 33 [] [.agg (eBig x0)] (Is [] (.b (.one (.str r)))) := by
  unfold whole_Text_S at h
  refine Meets.intro 49 Tryd.func33 Tryd.ntmps33 rfl (by simp) fun E => ?_
  show Tri _ E ⟨49, [], []⟩ _ ⟨[(0, .b (.agg (eBig x0)))], []⟩ _
  refine Tri.seq ?_
  refine Tri.regionL ?_
  refine OpsL.cons rfl (op_box (k := 101) rfl rfl) ?_
  refine OpsL.cons rfl (op_assign rfl) ?_
  refine OpsL.nilK [1] [101] (s' := ⟨[(1, .b (.ptr 101 0))], [(101, .box 25 (eBig x0))]⟩) rfl ?_
  refine Tri.seq ?_
  refine Tri.seq ?_
  refine Tri.regionL ?_
  refine OpsL.cons rfl (op_load_p tyAgg25 rfl rfl rfl rfl) ?_
  refine OpsL.cons rfl (op_buildSlice (k := 102) (es := [x0].map eBig) tySl85 rfl rfl (uni_map fun _ => rfl) rfl (by decide) (by decide) rfl) ?_
  obtain ⟨x_1, e1, h⟩ := bnd h
  refine OpsL.cons rfl (op_callB (whole_good_spec e1) goes43 rfl CP.flat_bool) ?_
  refine OpsL.cons rfl (op_not rfl) ?_
  refine OpsL.nilK [1, 11] [101] (s' := ⟨[(1, .b (.ptr 101 0)), (11, B (!x_1))], [(101, .box 25 (eBig x0))]⟩) rfl ?_
  refine Tri.ite h rfl (fun _ h => ?_) (fun _ h => ?_)
  · refine Tri.seq ?_
    refine Tri.regionL ?_
    refine OpsL.cons rfl (op_assign rfl) ?_
    refine OpsL.nilK [2] [] (s' := ⟨[(2, .b (.one (.str [])))], []⟩) rfl ?_
    refine Tri.ret ?_
    refine Fin.then_ret ?_
    obtain rfl := Option.some.inj h
    refine Fin.keep [2] [] (s' := ⟨[(2, .b (.one (.str [])))], []⟩) rfl ?_
    refine Fin.result' [.one (.str [])] (.inl rfl) rfl (.cons (.tmp rfl) .nil) ⟨rfl, rfl⟩
  · refine Tri.skip ?_
    refine Fin.keep [1] [101] (s' := ⟨[(1, .b (.ptr 101 0))], [(101, .box 25 (eBig x0))]⟩) rfl ?_
    refine Fin.then ?_
    refine Tri.seq ?_
    refine Tri.regionL ?_
    refine OpsL.cons rfl (op_assign rfl) ?_
    refine OpsL.nilK [1, 3] [101] (s' := ⟨[(1, .b (.ptr 101 0)), (3, .b (.one (.nil)))], [(101, .box 25 (eBig x0))]⟩) rfl ?_
    obtain ⟨v2, h3, h⟩ := bnd h
    refine Tri.seqJ (v := v2) (fun (parts_2 : List Str) => ⟨[(1, .b (.ptr 101 0)), (3, .b (.row 108))], [(101, .box 25 (eBig x0)), (108, .row 9 1 (parts_2.map eS))]⟩) (fun z => z) ?_ ?_
    · refine Tri.seq ?_
      refine Tri.regionL ?_
      refine OpsL.cons rfl (op_field_p tyFld25_2 rfl rfl) ?_
      refine OpsL.cons rfl (op_load_p tyAgg23 rfl rfl rfl rfl) ?_
      refine OpsL.cons rfl (op_alloc (k := 103) tyZero23 rfl) ?_
      refine OpsL.cons rfl (op_store_p tyAgg23 rfl rfl rfl rfl (Nat.le_of_ble_eq_true rfl) rfl) ?_
      refine OpsL.nilK [1, 3, 4] [101, 103] (s' := ⟨[(1, .b (.ptr 101 0)), (3, .b (.one (.nil))), (4, .b (.ptr 103 0))], [(101, .box 25 (eBig x0)), (103, .box 23 ((eA16 .u32) x0.W))]⟩) rfl ?_
      refine Tri.block ?_
      refine Tri.keep [1, 3, 4] [101, 103] (s' := ⟨[(1, .b (.ptr 101 0)), (3, .b (.one (.nil))), (4, .b (.ptr 103 0))], [(101, .box 25 (eBig x0)), (103, .box 23 ((eA16 .u32) x0.W))]⟩) rfl ?_
      refine Tri.nilrow 3 108 1 9 rfl (by decide) rfl ?_
      refine Tri.loopJ h3 (un2 fun (parts_3 : List Str) (w_4 : A16) => ⟨[(1, .b (.ptr 101 0)), (3, .b (.row 108)), (4, .b (.ptr 103 0))], [(101, .box 25 (eBig x0)), (103, .box 23 ((eA16 .u32) w_4)), (108, .row 9 1 (parts_3.map eS))]⟩) [1, 3, 4] [101, 103, 108] rfl ?_
      rintro ⟨parts_3, w_4⟩ o4 h5 hy6
      refine Tri.seq ?_
      refine Tri.block ?_
      refine Tri.seq ?_
      refine Tri.regionL ?_
      refine OpsL.cons rfl (op_load_p tyAgg23 rfl rfl rfl rfl) ?_
      obtain ⟨⟨x_6, x_7⟩, e7, h5⟩ := bnd h5
      refine OpsL.cons rfl (op_call0 (whole_short_spec e7) goes65 rfl rfl) ?_
      refine OpsL.cons rfl (op_move rfl) ?_
      refine OpsL.cons rfl (op_extract rfl rfl) ?_
      refine OpsL.cons rfl (op_extract rfl rfl) ?_
      refine OpsL.keep [1, 3, 4, 17, 18] [101, 103, 108] (s' := ⟨[(1, .b (.ptr 101 0)), (3, .b (.row 108)), (4, .b (.ptr 103 0)), (17, .b (.agg ((eA16 .u32) x_6))), (18, .b (.one (.int .u32 x_7)))], [(101, .box 25 (eBig x0)), (103, .box 23 ((eA16 .u32) w_4)), (108, .row 9 1 (parts_3.map eS))]⟩) rfl ?_
      refine OpsL.cons rfl (op_alloc (k := 109) tyZero23 rfl) ?_
      refine OpsL.cons rfl (op_store_p tyAgg23 rfl rfl rfl rfl (Nat.le_of_ble_eq_true rfl) rfl) ?_
      refine OpsL.cons rfl (op_assign rfl) ?_
      refine OpsL.nilK [1, 3, 4, 5, 6] [101, 103, 108, 109] (s' := ⟨[(1, .b (.ptr 101 0)), (3, .b (.row 108)), (4, .b (.ptr 103 0)), (5, .b (.ptr 109 0)), (6, .b (.one (.int .u32 x_7)))], [(101, .box 25 (eBig x0)), (103, .box 23 ((eA16 .u32) w_4)), (108, .row 9 1 (parts_3.map eS)), (109, .box 23 ((eA16 .u32) x_6))]⟩) rfl ?_
      refine Tri.seq ?_
      refine Tri.regionL ?_
      refine OpsL.cons rfl (op_move rfl) ?_
      refine OpsL.cons rfl (op_conv_wrap undi22 undi3 rfl) ?_
      obtain ⟨x_8, e8, h5⟩ := bnd h5
      refine OpsL.cons rfl (op_call0 (strconv_Itoa_spec e8) goes66 rfl rfl) ?_
      refine OpsL.cons rfl (op_assign rfl) ?_
      refine OpsL.nilK [1, 3, 4, 5, 7] [101, 103, 108, 109] (s' := ⟨[(1, .b (.ptr 101 0)), (3, .b (.row 108)), (4, .b (.ptr 103 0)), (5, .b (.ptr 109 0)), (7, .b (.one (.str x_8)))], [(101, .box 25 (eBig x0)), (103, .box 23 ((eA16 .u32) w_4)), (108, .row 9 1 (parts_3.map eS)), (109, .box 23 ((eA16 .u32) x_6))]⟩) rfl ?_
      refine Tri.seq ?_
      refine Tri.seq ?_
      refine Tri.regionL ?_
      refine OpsL.cons rfl (op_load_p tyAgg23 rfl rfl rfl rfl) ?_
      refine OpsL.cons rfl (op_buildA tyBuild23 rfl rfl) ?_
      refine OpsL.cons rfl (op_eql_agg (eqAgg23 x_6 A16.zero) rfl rfl) ?_
      refine OpsL.nilK [1, 3, 4, 5, 7, 24] [101, 103, 108, 109] (s' := ⟨[(1, .b (.ptr 101 0)), (3, .b (.row 108)), (4, .b (.ptr 103 0)), (5, .b (.ptr 109 0)), (7, .b (.one (.str x_8))), (24, B (decide (x_6 = A16.zero)))], [(101, .box 25 (eBig x0)), (103, .box 23 ((eA16 .u32) w_4)), (108, .row 9 1 (parts_3.map eS)), (109, .box 23 ((eA16 .u32) x_6))]⟩) rfl ?_
      refine Tri.ite h5 rfl (fun _ h5 => ?_) (fun _ h5 => ?_)
      · refine Tri.seq ?_
        refine Tri.regionL ?_
        refine OpsL.cons rfl (op_move rfl) ?_
        refine OpsL.cons rfl (op_move rfl) ?_
        refine OpsL.cons rfl (op_buildSlice (k := 110) (es := [x_8].map eS) tySl71 rfl rfl (uni_map fun _ => rfl) rfl (by decide) (by decide) rfl) ?_
        obtain ⟨x_9, e9, h5⟩ := bnd h5
        refine OpsL.cons rfl (op_append_r tySl71 (app_b e9) (app_m e9) rfl rfl rfl rfl (app_map e9) rfl) ?_
        refine OpsL.cons rfl (op_assign rfl) ?_
        refine OpsL.nilK [1, 3] [101, 108] (s' := ⟨[(1, .b (.ptr 101 0)), (3, .b (.row 108))], [(101, .box 25 (eBig x0)), (108, .row 9 1 (x_9.map eS))]⟩) rfl ?_
        refine Tri.exit ?_
        refine Fin.then_exit ?_
        refine Fin.block_exit_other (by decide) ?_
        refine Fin.then_exit ?_
        obtain rfl := hy6 _ (Option.some.inj h5).symm
        refine Fin.then_exit ?_
        refine Fin.block_exit ?_
        exact Fin.join [1, 3] [101, 108] x_9 rfl rfl
      · refine Tri.skip ?_
        refine Fin.keep [1, 3, 4, 5, 7] [101, 103, 108, 109] (s' := ⟨[(1, .b (.ptr 101 0)), (3, .b (.row 108)), (4, .b (.ptr 103 0)), (5, .b (.ptr 109 0)), (7, .b (.one (.str x_8)))], [(101, .box 25 (eBig x0)), (103, .box 23 ((eA16 .u32) w_4)), (108, .row 9 1 (parts_3.map eS)), (109, .box 23 ((eA16 .u32) x_6))]⟩) rfl ?_
        refine Fin.then ?_
        refine Tri.seq ?_
        refine Tri.regionL ?_
        refine OpsL.cons rfl (op_move rfl) ?_
        refine OpsL.cons rfl (op_move rfl) ?_
        refine OpsL.cons rfl (op_len_str und9 rfl) ?_
        refine OpsL.consI .i64 h5 rfl (op_sub rfl rfl) (fun x_10 h5 => ?_)
        refine OpsL.keep [1, 3, 4, 5, 7, 29, 32] [101, 103, 108, 109] (s' := ⟨[(1, .b (.ptr 101 0)), (3, .b (.row 108)), (4, .b (.ptr 103 0)), (5, .b (.ptr 109 0)), (7, .b (.one (.str x_8))), (29, .b (.row 108)), (32, I x_10)], [(101, .box 25 (eBig x0)), (103, .box 23 ((eA16 .u32) w_4)), (108, .row 9 1 (parts_3.map eS)), (109, .box 23 ((eA16 .u32) x_6))]⟩) rfl ?_
        obtain ⟨x_11, e10, h5⟩ := bnd h5
        refine OpsL.cons rfl (op_call0 (strings_Repeat_spec e10) goes67 rfl rfl) ?_
        refine OpsL.cons rfl (op_move rfl) ?_
        obtain ⟨x_12, e11, h5⟩ := bnd h5
        refine OpsL.cons rfl (op_add_str2 e11 rfl rfl) ?_
        refine OpsL.cons rfl (op_buildSlice (k := 111) (es := [x_12].map eS) tySl71 rfl rfl (uni_map fun _ => rfl) rfl (by decide) (by decide) rfl) ?_
        obtain ⟨x_13, e12, h5⟩ := bnd h5
        refine OpsL.cons rfl (op_append_r tySl71 (app_b e12) (app_m e12) rfl rfl rfl rfl (app_map e12) rfl) ?_
        refine OpsL.cons rfl (op_assign rfl) ?_
        refine OpsL.nilK [1, 3, 4, 5] [101, 103, 108, 109] (s' := ⟨[(1, .b (.ptr 101 0)), (3, .b (.row 108)), (4, .b (.ptr 103 0)), (5, .b (.ptr 109 0))], [(101, .box 25 (eBig x0)), (103, .box 23 ((eA16 .u32) w_4)), (108, .row 9 1 (x_13.map eS)), (109, .box 23 ((eA16 .u32) x_6))]⟩) rfl ?_
        refine Tri.regionL ?_
        refine OpsL.cons rfl (op_load_p tyAgg23 rfl rfl rfl rfl) ?_
        refine OpsL.cons rfl (op_store_p tyAgg23 rfl rfl rfl rfl (Nat.le_of_ble_eq_true rfl) rfl) ?_
        refine OpsL.nil ?_
        refine Fin.block_normal ?_
        refine Fin.keep [1, 3, 4] [101, 103, 108] (s' := ⟨[(1, .b (.ptr 101 0)), (3, .b (.row 108)), (4, .b (.ptr 103 0))], [(101, .box 25 (eBig x0)), (103, .box 23 ((eA16 .u32) x_6)), (108, .row 9 1 (x_13.map eS))]⟩) rfl ?_
        refine Fin.then ?_
        refine Tri.seq ?_
        refine Tri.regionL ?_
        refine OpsL.cons rfl (op_load_p tyAgg23 rfl rfl rfl rfl) ?_
        refine OpsL.nilK [1, 3, 39] [101, 108] (s' := ⟨[(1, .b (.ptr 101 0)), (3, .b (.row 108)), (39, .b (.agg ((eA16 .u32) x_6)))], [(101, .box 25 (eBig x0)), (108, .row 9 1 (x_13.map eS))]⟩) rfl ?_
        refine Tri.regionL ?_
        refine OpsL.cons rfl (op_alloc (k := 112) tyZero23 rfl) ?_
        refine OpsL.cons rfl (op_store_p tyAgg23 rfl rfl rfl rfl (Nat.le_of_ble_eq_true rfl) rfl) ?_
        refine OpsL.nil ?_
        refine Fin.keep [1, 3, 4] [101, 108, 112] (s' := ⟨[(1, .b (.ptr 101 0)), (3, .b (.row 108)), (4, .b (.ptr 112 0))], [(101, .box 25 (eBig x0)), (108, .row 9 1 (x_13.map eS)), (112, .box 23 ((eA16 .u32) x_6))]⟩) rfl ?_
        refine Fin.rename 112 103 rfl (by decide) rfl ?_
        exact Fin.againJ [1, 3, 4] [101, 103, 108] (x_13, x_6) (Option.some.inj h5) rfl
    · rintro parts_2 hv
      subst v2
      obtain ⟨v13, h14, h⟩ := bnd h
      refine Tri.seqJ (v := v13) (fun (parts_14 : List Str) => ⟨[(3, .b (.row 108))], [(108, .row 9 1 (parts_14.map eS))]⟩) (fun z => z) ?_ ?_
      · refine Tri.seq ?_
        refine Tri.regionL ?_
        refine OpsL.cons rfl (op_field_p tyFld25_1 rfl rfl) ?_
        refine OpsL.cons rfl (op_load_p1 tyOne4 rfl rfl rfl) ?_
        refine OpsL.nilK [3, 41] [108] (s' := ⟨[(3, .b (.row 108)), (41, B x0.Neg)], [(108, .row 9 1 (parts_2.map eS))]⟩) rfl ?_
        refine Tri.ite h14 rfl (fun _ h14 => ?_) (fun _ h14 => ?_)
        · refine Tri.regionL ?_
          refine OpsL.cons rfl (op_move rfl) ?_
          refine OpsL.cons rfl (op_buildSlice (k := 113) (es := [[45]].map eS) tySl71 rfl rfl (uni_map fun _ => rfl) rfl (by decide) (by decide) rfl) ?_
          obtain ⟨x_15, e15, h14⟩ := bnd h14
          refine OpsL.cons rfl (op_append_r tySl71 (app_b e15) (app_m e15) rfl rfl rfl rfl (app_map e15) rfl) ?_
          refine OpsL.cons rfl (op_assign rfl) ?_
          refine OpsL.nil ?_
          exact Fin.join [3] [108] x_15 (Option.some.inj h14) rfl
        · refine Tri.skip ?_
          exact Fin.join [3] [108] parts_2 (Option.some.inj h14) rfl
      · rintro parts_14 hv
        subst v13
        refine Tri.seq ?_
        refine Tri.regionL ?_
        refine OpsL.cons rfl (op_move rfl) ?_
        refine OpsL.toF 108 rfl ?_
        obtain ⟨x_16, e16, h⟩ := bnd h
        refine OpsL.cons rfl (op_call (own_a := [(108, _)]) ((slices_Reverse_spec e16).sw 1 108) goes68 rfl ⟨rfl, trivial⟩ rfl rfl) ?_
        refine OpsL.unF 108 rfl ?_
        refine OpsL.nilK [3] [108] (s' := ⟨[(3, .b (.row 108))], [(108, .row 9 1 (x_16.map eS))]⟩) rfl ?_
        refine Tri.seq ?_
        refine Tri.regionL ?_
        refine OpsL.cons rfl (op_move rfl) ?_
        obtain ⟨x_17, e17, h⟩ := bnd h
        refine OpsL.cons rfl (op_callB (strings_Join_spec e17) goes69 rfl CP.flat_str) ?_
        refine OpsL.cons rfl (op_assign rfl) ?_
        refine OpsL.nilK [2] [] (s' := ⟨[(2, .b (.one (.str x_17)))], []⟩) rfl ?_
        refine Tri.ret ?_
        obtain rfl := Option.some.inj h
        refine Fin.keep [2] [] (s' := ⟨[(2, .b (.one (.str x_17)))], []⟩) rfl ?_
        refine Fin.result' [.one (.str x_17)] (.inl rfl) rfl (.cons (.tmp rfl) .nil) ⟨rfl, rfl⟩

def whole_Neg_S (F : Nat) (x0 : Big) : Option Big :=
 Option.bind (whole_good_S F [x0]) (fun x_1 => if (!x_1) = true then (Option.bind (whole_Bad_S F) (fun x_2 => some x_2)) else (Option.bind (whole_signed_S F (!x0.Neg) x0.W) (fun x_3 => some x_3)))
theorem whole_Neg_spec {F : Nat} {x0 : Big} {r : Big} (h : whole_Neg_S F x0 = some r) : Meets Tryd.prog tabs 14 [] [.agg (eBig x0)] (Is [] (.b (.agg (eBig r)))) := by
  unfold whole_Neg_S at h
  refine Meets.intro 14 Tryd.func14 Tryd.ntmps14 rfl (by simp) fun E => ?_
  show Tri _ E ⟨14, [], []⟩ _ ⟨[(0, .b (.agg (eBig x0)))], []⟩ _
  refine Tri.seq ?_
  refine Tri.regionL ?_
  refine OpsL.cons rfl (op_box (k := 101) rfl rfl) ?_
  refine OpsL.cons rfl (op_alloc (k := 102) tyZero25 rfl) ?_
  refine OpsL.nilK [1, 2] [101, 102] (s' := ⟨[(1, .b (.ptr 101 0)), (2, .b (.ptr 102 0))], [(101, .box 25 (eBig x0)), (102, .box 25 (.bool false :: .bool false :: ((eA16 .u32) A16.zero)))]⟩) rfl ?_
  refine Tri.seq ?_
  refine Tri.seq ?_
  refine Tri.regionL ?_
  refine OpsL.cons rfl (op_load_p tyAgg25 rfl rfl rfl rfl) ?_
  refine OpsL.cons rfl (op_buildSlice (k := 103) (es := [x0].map eBig) tySl85 rfl rfl (uni_map fun _ => rfl) rfl (by decide) (by decide) rfl) ?_
  obtain ⟨x_1, e1, h⟩ := bnd h
  refine OpsL.cons rfl (op_callB (whole_good_spec e1) goes43 rfl CP.flat_bool) ?_
  refine OpsL.cons rfl (op_not rfl) ?_
  refine OpsL.nilK [1, 2, 6] [101, 102] (s' := ⟨[(1, .b (.ptr 101 0)), (2, .b (.ptr 102 0)), (6, B (!x_1))], [(101, .box 25 (eBig x0)), (102, .box 25 (.bool false :: .bool false :: ((eA16 .u32) A16.zero)))]⟩) rfl ?_
  refine Tri.ite h rfl (fun _ h => ?_) (fun _ h => ?_)
  · refine Tri.seq ?_
    refine Tri.regionL ?_
    obtain ⟨x_2, e2, h⟩ := bnd h
    refine OpsL.cons rfl (op_call0 (whole_Bad_spec e2) goes44 rfl rfl) ?_
    refine OpsL.cons rfl (op_store_p tyAgg25 rfl rfl rfl rfl (Nat.le_of_ble_eq_true rfl) rfl) ?_
    refine OpsL.nilK [2] [102] (s' := ⟨[(2, .b (.ptr 102 0))], [(102, .box 25 (eBig x_2))]⟩) rfl ?_
    refine Tri.ret ?_
    refine Fin.then_ret ?_
    obtain rfl := Option.some.inj h
    refine Fin.keep [2] [102] (s' := ⟨[(2, .b (.ptr 102 0))], [(102, .box 25 (eBig x_2))]⟩) rfl ?_
    refine Fin.result' [.agg (eBig x_2)] (.inl rfl) rfl (.cons (.agg tyAgg25 rfl rfl rfl rfl) .nil) ⟨rfl, rfl⟩
  · refine Tri.skip ?_
    refine Fin.keep [1, 2] [101, 102] (s' := ⟨[(1, .b (.ptr 101 0)), (2, .b (.ptr 102 0))], [(101, .box 25 (eBig x0)), (102, .box 25 (.bool false :: .bool false :: ((eA16 .u32) A16.zero)))]⟩) rfl ?_
    refine Fin.then ?_
    refine Tri.seq ?_
    refine Tri.regionL ?_
    refine OpsL.cons rfl (op_field_p tyFld25_1 rfl rfl) ?_
    refine OpsL.cons rfl (op_load_p1 tyOne4 rfl rfl rfl) ?_
    refine OpsL.cons rfl (op_not rfl) ?_
    refine OpsL.cons rfl (op_field_p tyFld25_2 rfl rfl) ?_
    refine OpsL.cons rfl (op_load_p tyAgg23 rfl rfl rfl rfl) ?_
    obtain ⟨x_3, e3, h⟩ := bnd h
    refine OpsL.cons rfl (op_call0 (whole_signed_spec e3) goes46 rfl rfl) ?_
    refine OpsL.cons rfl (op_store_p tyAgg25 rfl rfl rfl rfl (Nat.le_of_ble_eq_true rfl) rfl) ?_
    refine OpsL.nilK [2] [102] (s' := ⟨[(2, .b (.ptr 102 0))], [(102, .box 25 (eBig x_3))]⟩) rfl ?_
    refine Tri.ret ?_
    obtain rfl := Option.some.inj h
    refine Fin.keep [2] [102] (s' := ⟨[(2, .b (.ptr 102 0))], [(102, .box 25 (eBig x_3))]⟩) rfl ?_
    refine Fin.result' [.agg (eBig x_3)] (.inl rfl) rfl (.cons (.agg tyAgg25 rfl rfl rfl rfl) .nil) ⟨rfl, rfl⟩

def whole_Sign_S (F : Nat) (x0 : Big) : Option Int :=
 Option.bind (whole_good_S F [x0]) (fun x_1 => if ((!x_1) || (decide (x0.W = A16.zero))) = true then (some 0) else (if x0.Neg = true then (some (-1)) else (some 1)))
theorem whole_Sign_spec {F : Nat} {x0 : Big} {r : Int} (h : whole_Sign_S F x0 = some r) : Meets Tryd.prog tabs 18 [] [.agg (eBig x0)] (Is [] (.b (.one (.i r)))) := by
  unfold whole_Sign_S at h
  refine Meets.intro 17 Tryd.func18 Tryd.ntmps18 rfl (by simp) fun E => ?_
  show Tri _ E ⟨17, [], []⟩ _ ⟨[(0, .b (.agg (eBig x0)))], []⟩ _
  refine Tri.seq ?_
  refine Tri.regionL ?_
  refine OpsL.cons rfl (op_box (k := 101) rfl rfl) ?_
  refine OpsL.cons rfl (op_assign rfl) ?_
  refine OpsL.nilK [1] [101] (s' := ⟨[(1, .b (.ptr 101 0))], [(101, .box 25 (eBig x0))]⟩) rfl ?_
  refine Tri.seq ?_
  refine Tri.block ?_
  refine Tri.seq ?_
  refine Tri.regionL ?_
  refine OpsL.cons rfl (op_load_p tyAgg25 rfl rfl rfl rfl) ?_
  refine OpsL.cons rfl (op_buildSlice (k := 102) (es := [x0].map eBig) tySl85 rfl rfl (uni_map fun _ => rfl) rfl (by decide) (by decide) rfl) ?_
  obtain ⟨x_1, e1, h⟩ := bnd h
  refine OpsL.cons rfl (op_callB (whole_good_spec e1) goes43 rfl CP.flat_bool) ?_
  refine OpsL.cons rfl (op_not rfl) ?_
  refine OpsL.keep [1, 7] [101] (s' := ⟨[(1, .b (.ptr 101 0)), (7, B (!x_1))], [(101, .box 25 (eBig x0))]⟩) rfl ?_
  refine OpsL.cons rfl (op_move rfl) ?_
  refine OpsL.consG (!(!x_1)) 99 [] (.plain rfl) (eq_f _) rfl rfl (fun g2 => trivial) (fun g2 => op_field_p tyFld25_2 rfl rfl) ?_
  refine OpsL.consG (!(!x_1)) 99 [9] (.plain rfl) (eq_f _) rfl rfl (fun g3 => ⟨g3, trivial⟩) (fun g3 => op_load_p tyAgg23 rfl rfl rfl rfl) ?_
  refine OpsL.consG (!(!x_1)) 99 [] (.plain rfl) (eq_f _) rfl rfl (fun g4 => trivial) (fun g4 => op_buildA tyBuild23 rfl rfl) ?_
  refine OpsL.consG (!(!x_1)) 99 [10, 11] (.plain rfl) (eq_f _) rfl rfl (fun g5 => ⟨g5, g5, trivial⟩) (fun g5 => op_eql_agg (eqAgg23 x0.W A16.zero) rfl rfl) ?_
  refine OpsL.cons rfl (op_pick_or (fun e => by rw [e]; rfl) rfl rfl rfl rfl) ?_
  refine OpsL.cons rfl (op_assign rfl) ?_
  refine OpsL.nilK [1, 3] [101] (s' := ⟨[(1, .b (.ptr 101 0)), (3, B ((!x_1) || (decide (x0.W = A16.zero))))], [(101, .box 25 (eBig x0))]⟩) rfl ?_
  refine Tri.ite h rfl (fun _ h => ?_) (fun _ h => ?_)
  · refine Tri.seq ?_
    refine Tri.regionL ?_
    refine OpsL.cons rfl (op_assign rfl) ?_
    refine OpsL.nilK [2] [] (s' := ⟨[(2, I 0)], []⟩) rfl ?_
    refine Tri.ret ?_
    refine Fin.block_ret ?_
    refine Fin.then_ret ?_
    obtain rfl := Option.some.inj h
    refine Fin.keep [2] [] (s' := ⟨[(2, I 0)], []⟩) rfl ?_
    refine Fin.result' [.one (.i 0)] (.inl rfl) rfl (.cons (.tmp rfl) .nil) ⟨rfl, rfl⟩
  · refine Tri.seq ?_
    refine Tri.regionL ?_
    refine OpsL.cons rfl (op_field_p tyFld25_1 rfl rfl) ?_
    refine OpsL.cons rfl (op_load_p1 tyOne4 rfl rfl rfl) ?_
    refine OpsL.cons rfl (op_assign rfl) ?_
    refine OpsL.nilK [14] [] (s' := ⟨[(14, B x0.Neg)], []⟩) rfl ?_
    refine Tri.ite h rfl (fun _ h => ?_) (fun _ h => ?_)
    · refine Tri.seq ?_
      refine Tri.regionL ?_
      refine OpsL.cons rfl (op_assign rfl) ?_
      refine OpsL.nilK [2] [] (s' := ⟨[(2, I (-1))], []⟩) rfl ?_
      refine Tri.ret ?_
      refine Fin.block_ret ?_
      refine Fin.then_ret ?_
      obtain rfl := Option.some.inj h
      refine Fin.keep [2] [] (s' := ⟨[(2, I (-1))], []⟩) rfl ?_
      refine Fin.result' [.one (.i (-1))] (.inl rfl) rfl (.cons (.tmp rfl) .nil) ⟨rfl, rfl⟩
    · refine Tri.skip ?_
      refine Fin.block_normal ?_
      refine Fin.keep [] [] (s' := ⟨[], []⟩) rfl ?_
      refine Fin.then ?_
      refine Tri.seq ?_
      refine Tri.regionL ?_
      refine OpsL.cons rfl (op_assign rfl) ?_
      refine OpsL.nilK [2] [] (s' := ⟨[(2, I 1)], []⟩) rfl ?_
      refine Tri.ret ?_
      obtain rfl := Option.some.inj h
      refine Fin.keep [2] [] (s' := ⟨[(2, I 1)], []⟩) rfl ?_
      refine Fin.result' [.one (.i 1)] (.inl rfl) rfl (.cons (.tmp rfl) .nil) ⟨rfl, rfl⟩

def bits_Len32_S (F : Nat) (x0 : Int) : Option Int :=
 Option.bind (if (decide (65536 ≤ x0)) = true then (some (x0 / 65536, 16)) else (some (x0, 0))) (un2 fun x_1 n_2 => Option.bind (if (decide (256 ≤ x_1)) = true then (some (x_1 / 256, IntKind.i64.wrap (n_2 + 8))) else (some (x_1, n_2))) (un2 fun x_3 n_4 => Option.bind (idx? ([0, 1, 2, 2, 3, 3, 3, 3, 4, 4, 4, 4, 4, 4, 4, 4, 5, 5, 5, 5, 5, 5, 5, 5, 5, 5, 5, 5, 5, 5, 5, 5, 6, 6, 6, 6, 6, 6, 6, 6, 6, 6, 6, 6, 6, 6, 6, 6, 6, 6, 6, 6, 6, 6, 6, 6, 6, 6, 6, 6, 6, 6, 6, 6, 7, 7, 7, 7, 7, 7, 7, 7, 7, 7, 7, 7, 7, 7, 7, 7, 7, 7, 7, 7, 7, 7, 7, 7, 7, 7, 7, 7, 7, 7, 7, 7, 7, 7, 7, 7, 7, 7, 7, 7, 7, 7, 7, 7, 7, 7, 7, 7, 7, 7, 7, 7, 7, 7, 7, 7, 7, 7, 7, 7, 7, 7, 7, 7, 8, 8, 8, 8, 8, 8, 8, 8, 8, 8, 8, 8, 8, 8, 8, 8, 8, 8, 8, 8, 8, 8, 8, 8, 8, 8, 8, 8, 8, 8, 8, 8, 8, 8, 8, 8, 8, 8, 8, 8, 8, 8, 8, 8, 8, 8, 8, 8, 8, 8, 8, 8, 8, 8, 8, 8, 8, 8, 8, 8, 8, 8, 8, 8, 8, 8, 8, 8, 8, 8, 8, 8, 8, 8, 8, 8, 8, 8, 8, 8, 8, 8, 8, 8, 8, 8, 8, 8, 8, 8, 8, 8, 8, 8, 8, 8, 8, 8, 8, 8, 8, 8, 8, 8, 8, 8, 8, 8, 8, 8, 8, 8, 8, 8, 8, 8, 8, 8, 8, 8, 8, 8, 8, 8, 8, 8, 8, 8] : Str) (IntKind.u8.wrap x_3)) (fun x_5 => letN (IntKind.i64.wrap (n_4 + (IntKind.i64.wrap (x_5.toNat : Int)))) fun x_6 => some x_6)))
theorem bits_Len32_spec {F : Nat} {x0 : Int} {r : Int} (h : bits_Len32_S F x0 = some r) : Meets Tryd.prog tabs 58 [] [.one (.int .u32 x0)] (Is [] (.b (.one (.i r)))) := by
  unfold bits_Len32_S at h
  refine Meets.intro 19 Tryd.func58 Tryd.ntmps58 rfl (by simp) fun E => ?_
  show Tri _ E ⟨19, [], []⟩ _ ⟨[(0, .b (.one (.int .u32 x0)))], []⟩ _
  refine Tri.seq ?_
  refine Tri.regionL ?_
  refine OpsL.cons rfl (op_assign rfl) ?_
  refine OpsL.nilK [0, 2] [] (s' := ⟨[(0, .b (.one (.int .u32 x0))), (2, I 0)], []⟩) rfl ?_
  obtain ⟨v1, h2, h⟩ := bnd h
  refine Tri.seqJ (v := v1) (un2 fun (x_1 : Int) (n_2 : Int) => ⟨[(0, .b (.one (.int .u32 x_1))), (2, I n_2)], []⟩) (fun z => z) ?_ ?_
  · refine Tri.seq ?_
    refine Tri.regionL ?_
    refine OpsL.cons rfl (op_move rfl) ?_
    refine OpsL.cons rfl (op_geq rfl rfl) ?_
    refine OpsL.nilK [0, 2, 4] [] (s' := ⟨[(0, .b (.one (.int .u32 x0))), (2, I 0), (4, B (decide (65536 ≤ x0)))], []⟩) rfl ?_
    refine Tri.ite h2 rfl (fun _ h2 => ?_) (fun _ h2 => ?_)
    · refine Tri.seq ?_
      refine Tri.regionL ?_
      refine OpsL.cons rfl (op_move rfl) ?_
      refine OpsL.cons rfl (op_shr2 (m := 16) (by decide) rfl rfl rfl) ?_
      refine OpsL.cons rfl (op_assign rfl) ?_
      refine OpsL.nilK [0] [] (s' := ⟨[(0, .b (.one (.int .u32 (x0 / 65536))))], []⟩) rfl ?_
      refine Tri.regionL ?_
      refine OpsL.cons rfl (op_assign rfl) ?_
      refine OpsL.nil ?_
      exact Fin.join [0, 2] [] (x0 / 65536, 16) (Option.some.inj h2) rfl
    · refine Tri.skip ?_
      exact Fin.join [0, 2] [] (x0, 0) (Option.some.inj h2) rfl
  · rintro ⟨x_1, n_2⟩ hv
    subst v1
    obtain ⟨v3, h4, h⟩ := bnd h
    refine Tri.seqJ (v := v3) (un2 fun (x_3 : Int) (n_4 : Int) => ⟨[(0, .b (.one (.int .u32 x_3))), (2, I n_4)], []⟩) (fun z => z) ?_ ?_
    · refine Tri.seq ?_
      refine Tri.regionL ?_
      refine OpsL.cons rfl (op_move rfl) ?_
      refine OpsL.cons rfl (op_geq rfl rfl) ?_
      refine OpsL.nilK [0, 2, 8] [] (s' := ⟨[(0, .b (.one (.int .u32 x_1))), (2, I n_2), (8, B (decide (256 ≤ x_1)))], []⟩) rfl ?_
      refine Tri.ite h4 rfl (fun _ h4 => ?_) (fun _ h4 => ?_)
      · refine Tri.seq ?_
        refine Tri.regionL ?_
        refine OpsL.cons rfl (op_move rfl) ?_
        refine OpsL.cons rfl (op_shr2 (m := 8) (by decide) rfl rfl rfl) ?_
        refine OpsL.cons rfl (op_assign rfl) ?_
        refine OpsL.nilK [0, 2] [] (s' := ⟨[(0, .b (.one (.int .u32 (x_1 / 256)))), (2, I n_2)], []⟩) rfl ?_
        refine Tri.regionL ?_
        refine OpsL.cons rfl (op_move rfl) ?_
        refine OpsL.cons rfl (op_add rfl rfl) ?_
        refine OpsL.cons rfl (op_assign rfl) ?_
        refine OpsL.nil ?_
        exact Fin.join [0, 2] [] (x_1 / 256, IntKind.i64.wrap (n_2 + 8)) (Option.some.inj h4) rfl
      · refine Tri.skip ?_
        exact Fin.join [0, 2] [] (x_1, n_2) (Option.some.inj h4) rfl
    · rintro ⟨x_3, n_4⟩ hv
      subst v3
      refine Tri.seq ?_
      refine Tri.regionL ?_
      refine OpsL.cons rfl (op_move rfl) ?_
      refine OpsL.cons rfl (op_move rfl) ?_
      refine OpsL.cons rfl (op_conv_wrap undi22 undi5 rfl) ?_
      obtain ⟨x_5, e5, h⟩ := bnd h
      refine OpsL.cons rfl (op_index_str und9 rfl rfl (ix_lo e5) (ix_get e5)) ?_
      refine OpsL.cons rfl (op_conv_wrap undi5 undi3 rfl) ?_
      refine OpsL.consI .i64 h rfl (op_add rfl rfl) (fun x_6 h => ?_)
      refine OpsL.cons rfl (op_assign rfl) ?_
      refine OpsL.nilK [2] [] (s' := ⟨[(2, I x_6)], []⟩) rfl ?_
      refine Tri.ret ?_
      obtain rfl := Option.some.inj h
      refine Fin.keep [2] [] (s' := ⟨[(2, I x_6)], []⟩) rfl ?_
      refine Fin.result' [.one (.i x_6)] (.inl rfl) rfl (.cons (.tmp rfl) .nil) ⟨rfl, rfl⟩

def whole_Bits_S (F : Nat) (x0 : Big) : Option Int :=
 Option.bind (whole_size_S F x0.W) (fun x_1 => Option.bind (whole_good_S F [x0]) (fun x_2 => if ((!x_2) || (decide (x_1 = 0))) = true then (some 0) else (letN (IntKind.i64.wrap (32 * (IntKind.i64.wrap (x_1 - 1)))) fun x_3 => Option.bind (idx? x0.W.l (IntKind.i64.wrap (x_1 - 1))) (fun x_4 => Option.bind (bits_Len32_S F x_4) (fun x_5 => some (IntKind.i64.wrap (x_3 + x_5)))))))
theorem whole_Bits_spec {F : Nat} {x0 : Big} {r : Int} (h : whole_Bits_S F x0 = some r) : Meets Tryd.prog tabs 20 [] [.agg (eBig x0)] (Is [] (.b (.one (.i r)))) := by
  unfold whole_Bits_S at h
  refine Meets.intro 25 Tryd.func20 Tryd.ntmps20 rfl (by simp) fun E => ?_
  show Tri _ E ⟨25, [], []⟩ _ ⟨[(0, .b (.agg (eBig x0)))], []⟩ _
  refine Tri.seq ?_
  refine Tri.regionL ?_
  refine OpsL.cons rfl (op_box (k := 101) rfl rfl) ?_
  refine OpsL.cons rfl (op_assign rfl) ?_
  refine OpsL.nilK [1] [101] (s' := ⟨[(1, .b (.ptr 101 0))], [(101, .box 25 (eBig x0))]⟩) rfl ?_
  refine Tri.seq ?_
  refine Tri.regionL ?_
  refine OpsL.cons rfl (op_field_p tyFld25_2 rfl rfl) ?_
  refine OpsL.cons rfl (op_load_p tyAgg23 rfl rfl rfl rfl) ?_
  obtain ⟨x_1, e1, h⟩ := bnd h
  refine OpsL.cons rfl (op_call0 (whole_size_spec e1) goes57 rfl rfl) ?_
  refine OpsL.cons rfl (op_assign rfl) ?_
  refine OpsL.nilK [1, 3] [101] (s' := ⟨[(1, .b (.ptr 101 0)), (3, I x_1)], [(101, .box 25 (eBig x0))]⟩) rfl ?_
  refine Tri.seq ?_
  refine Tri.seq ?_
  refine Tri.regionL ?_
  refine OpsL.cons rfl (op_load_p tyAgg25 rfl rfl rfl rfl) ?_
  refine OpsL.cons rfl (op_buildSlice (k := 102) (es := [x0].map eBig) tySl85 rfl rfl (uni_map fun _ => rfl) rfl (by decide) (by decide) rfl) ?_
  obtain ⟨x_2, e2, h⟩ := bnd h
  refine OpsL.cons rfl (op_callB (whole_good_spec e2) goes43 rfl CP.flat_bool) ?_
  refine OpsL.cons rfl (op_not rfl) ?_
  refine OpsL.keep [1, 3, 10] [101] (s' := ⟨[(1, .b (.ptr 101 0)), (3, I x_1), (10, B (!x_2))], [(101, .box 25 (eBig x0))]⟩) rfl ?_
  refine OpsL.cons rfl (op_move rfl) ?_
  refine OpsL.consG (!(!x_2)) 99 [] (.plain rfl) (eq_f _) rfl rfl (fun g3 => trivial) (fun g3 => op_move rfl) ?_
  refine OpsL.consG (!(!x_2)) 99 [12] (.plain rfl) (eq_f _) rfl rfl (fun g4 => ⟨g4, trivial⟩) (fun g4 => op_eql rfl rfl) ?_
  refine OpsL.cons rfl (op_pick_or (fun e => by rw [e]; rfl) rfl rfl rfl rfl) ?_
  refine OpsL.nilK [1, 3, 14] [101] (s' := ⟨[(1, .b (.ptr 101 0)), (3, I x_1), (14, B ((!x_2) || (decide (x_1 = 0))))], [(101, .box 25 (eBig x0))]⟩) rfl ?_
  refine Tri.ite h rfl (fun _ h => ?_) (fun _ h => ?_)
  · refine Tri.seq ?_
    refine Tri.regionL ?_
    refine OpsL.cons rfl (op_assign rfl) ?_
    refine OpsL.nilK [2] [] (s' := ⟨[(2, I 0)], []⟩) rfl ?_
    refine Tri.ret ?_
    refine Fin.then_ret ?_
    obtain rfl := Option.some.inj h
    refine Fin.keep [2] [] (s' := ⟨[(2, I 0)], []⟩) rfl ?_
    refine Fin.result' [.one (.i 0)] (.inl rfl) rfl (.cons (.tmp rfl) .nil) ⟨rfl, rfl⟩
  · refine Tri.skip ?_
    refine Fin.keep [1, 3] [101] (s' := ⟨[(1, .b (.ptr 101 0)), (3, I x_1)], [(101, .box 25 (eBig x0))]⟩) rfl ?_
    refine Fin.then ?_
    refine Tri.seq ?_
    refine Tri.regionL ?_
    refine OpsL.cons rfl (op_move rfl) ?_
    refine OpsL.cons rfl (op_sub rfl rfl) ?_
    refine OpsL.consI .i64 h rfl (op_mul rfl rfl) (fun x_3 h => ?_)
    refine OpsL.cons rfl (op_move rfl) ?_
    refine OpsL.cons rfl (op_sub rfl rfl) ?_
    refine OpsL.cons rfl (op_field_p tyFld25_2 rfl rfl) ?_
    obtain ⟨x_4, e5, h⟩ := bnd h
    refine OpsL.cons rfl (op_index_p tyArr23 (ix_lo e5) (ix_hi e5) rfl rfl rfl) ?_
    refine OpsL.keep [17, 21] [101] (s' := ⟨[(17, I x_3), (21, .b (.ptr 101 (2 + (IntKind.i64.wrap (x_1 - 1) : Int).toNat * 1)))], [(101, .box 25 (eBig x0))]⟩) rfl ?_
    refine OpsL.cons rfl (op_load_p1 tyOne22 rfl rfl (arr_get (post := []) (k := .u32) [.bool x0.Bad, .bool x0.Neg] e5 rfl rfl rfl)) ?_
    obtain ⟨x_5, e6, h⟩ := bnd h
    refine OpsL.cons rfl (op_call0 (bits_Len32_spec e6) goes58 rfl rfl) ?_
    refine OpsL.cons rfl (op_add rfl rfl) ?_
    refine OpsL.cons rfl (op_assign rfl) ?_
    refine OpsL.nilK [2] [] (s' := ⟨[(2, I (IntKind.i64.wrap (x_3 + x_5)))], []⟩) rfl ?_
    refine Tri.ret ?_
    obtain rfl := Option.some.inj h
    refine Fin.keep [2] [] (s' := ⟨[(2, I (IntKind.i64.wrap (x_3 + x_5)))], []⟩) rfl ?_
    refine Fin.result' [.one (.i (IntKind.i64.wrap (x_3 + x_5)))] (.inl rfl) rfl (.cons (.tmp rfl) .nil) ⟨rfl, rfl⟩

def whole_Small_S (F : Nat) (x0 : Big) : Option (Int × Bool) :=
 Option.bind (whole_good_S F [x0]) (fun x_1 => Option.bind (gcall (!(!x_1)) (whole_Bits_S F x0)) (fun x_2 => if ((!x_1) || (decide (64 < x_2))) = true then (some (0, false)) else (letN (IntKind.u64.wrap ((IntKind.u64.wrap x0.W.a1) * 4294967296)) fun x_3 => letN (ior .u64 x_3 (IntKind.u64.wrap x0.W.a0)) fun x_4 => if (x0.Neg && (decide (x_4 ≤ 9223372036854775808))) = true then (letN (IntKind.i64.wrap (IntKind.u64.wrap (-x_4))) fun x_5 => some (x_5, true)) else (if ((!x0.Neg) && (decide (x_4 < 9223372036854775808))) = true then (some (IntKind.i64.wrap x_4, true)) else (some (0, false))))))
theorem whole_Small_spec {F : Nat} {x0 : Big} {r : Int × Bool} (h : whole_Small_S F x0 = some r) : Meets Tryd.prog tabs 39 [] [.agg (eBig x0)] (Is [] (.tup [.one (.i r.1), .one (.bool r.2)])) := by
  unfold whole_Small_S at h
  refine Meets.intro 44 Tryd.func39 Tryd.ntmps39 rfl (by simp) fun E => ?_
  show Tri _ E ⟨44, [], []⟩ _ ⟨[(0, .b (.agg (eBig x0)))], []⟩ _
  refine Tri.seq ?_
  refine Tri.regionL ?_
  refine OpsL.cons rfl (op_box (k := 101) rfl rfl) ?_
  refine OpsL.cons rfl (op_assign rfl) ?_
  refine OpsL.cons rfl (op_assign rfl) ?_
  refine OpsL.nilK [1] [101] (s' := ⟨[(1, .b (.ptr 101 0))], [(101, .box 25 (eBig x0))]⟩) rfl ?_
  refine Tri.seq ?_
  refine Tri.seq ?_
  refine Tri.regionL ?_
  refine OpsL.cons rfl (op_load_p tyAgg25 rfl rfl rfl rfl) ?_
  refine OpsL.cons rfl (op_buildSlice (k := 102) (es := [x0].map eBig) tySl85 rfl rfl (uni_map fun _ => rfl) rfl (by decide) (by decide) rfl) ?_
  obtain ⟨x_1, e1, h⟩ := bnd h
  refine OpsL.cons rfl (op_callB (whole_good_spec e1) goes43 rfl CP.flat_bool) ?_
  refine OpsL.cons rfl (op_not rfl) ?_
  refine OpsL.keep [1, 8] [101] (s' := ⟨[(1, .b (.ptr 101 0)), (8, B (!x_1))], [(101, .box 25 (eBig x0))]⟩) rfl ?_
  refine OpsL.cons rfl (op_move rfl) ?_
  refine OpsL.consG (!(!x_1)) 99 [] (.plain rfl) (eq_f _) rfl rfl (fun g2 => trivial) (fun g2 => op_load_p tyAgg25 rfl rfl rfl rfl) ?_
  obtain ⟨x_2, e4, h⟩ := bnd h
  refine OpsL.consG (!(!x_1)) 99 [10] (.plain rfl) (eq_f _) rfl rfl (fun g3 => ⟨g3, trivial⟩) (fun g3 => op_call0 (whole_Bits_spec (gc e4 g3)) goes20 rfl rfl) ?_
  refine OpsL.consG (!(!x_1)) 99 [11] (.plain rfl) (eq_f _) rfl rfl (fun g5 => ⟨g5, trivial⟩) (fun g5 => op_gtr rfl rfl) ?_
  refine OpsL.cons rfl (op_pick_or (fun e => by rw [e]; rfl) rfl rfl rfl rfl) ?_
  refine OpsL.nilK [1, 13] [101] (s' := ⟨[(1, .b (.ptr 101 0)), (13, B ((!x_1) || (decide (64 < x_2))))], [(101, .box 25 (eBig x0))]⟩) rfl ?_
  refine Tri.ite h rfl (fun _ h => ?_) (fun _ h => ?_)
  · refine Tri.seq ?_
    refine Tri.regionL ?_
    refine OpsL.cons rfl (op_assign rfl) ?_
    refine OpsL.cons rfl (op_assign rfl) ?_
    refine OpsL.nilK [2, 3] [] (s' := ⟨[(2, I 0), (3, B false)], []⟩) rfl ?_
    refine Tri.ret ?_
    refine Fin.then_ret ?_
    obtain rfl := Option.some.inj h
    refine Fin.keep [2, 3] [] (s' := ⟨[(2, I 0), (3, B false)], []⟩) rfl ?_
    refine Fin.result' [.one (.i 0), .one (.bool false)] (.inl rfl) rfl (.cons (.tmp rfl) (.cons (.tmp rfl) .nil)) ⟨rfl, rfl⟩
  · refine Tri.skip ?_
    refine Fin.keep [1] [101] (s' := ⟨[(1, .b (.ptr 101 0))], [(101, .box 25 (eBig x0))]⟩) rfl ?_
    refine Fin.then ?_
    refine Tri.seq ?_
    refine Tri.regionL ?_
    refine OpsL.cons rfl (op_field_p tyFld25_2 rfl rfl) ?_
    refine OpsL.cons rfl (op_index_p tyArr23 (by decide) (by decide) rfl rfl rfl) ?_
    refine OpsL.cons rfl (op_load_p1 tyOne22 rfl rfl rfl) ?_
    refine OpsL.cons rfl (op_conv_wrap undi22 undi63 rfl) ?_
    refine OpsL.consI .u64 h rfl (op_shl0 (m := 32) (q := 4294967296) (by decide) rfl rfl (by decide)) (fun x_3 h => ?_)
    refine OpsL.cons rfl (op_field_p tyFld25_2 rfl rfl) ?_
    refine OpsL.cons rfl (op_index_p tyArr23 (by decide) (by decide) rfl rfl rfl) ?_
    refine OpsL.keep [1, 18, 20] [101] (s' := ⟨[(1, .b (.ptr 101 0)), (18, .b (.one (.int .u64 x_3))), (20, .b (.ptr 101 2))], [(101, .box 25 (eBig x0))]⟩) rfl ?_
    refine OpsL.cons rfl (op_load_p1 tyOne22 rfl rfl rfl) ?_
    refine OpsL.cons rfl (op_conv_wrap undi22 undi63 rfl) ?_
    refine OpsL.consI .u64 h rfl (op_or rfl rfl) (fun x_4 h => ?_)
    refine OpsL.cons rfl (op_assign rfl) ?_
    refine OpsL.nilK [1, 4] [101] (s' := ⟨[(1, .b (.ptr 101 0)), (4, .b (.one (.int .u64 x_4)))], [(101, .box 25 (eBig x0))]⟩) rfl ?_
    refine Tri.seq ?_
    refine Tri.block ?_
    refine Tri.seq ?_
    refine Tri.regionL ?_
    refine OpsL.cons rfl (op_field_p tyFld25_1 rfl rfl) ?_
    refine OpsL.cons rfl (op_load_p1 tyOne4 rfl rfl rfl) ?_
    refine OpsL.cons rfl (op_move rfl) ?_
    refine OpsL.consG x0.Neg 99 [] (.plain rfl) (eq_t _) rfl rfl (fun g6 => trivial) (fun g6 => op_move rfl) ?_
    refine OpsL.consG x0.Neg 99 [28] (.plain rfl) (eq_t _) rfl rfl (fun g7 => ⟨g7, trivial⟩) (fun g7 => op_leq rfl rfl) ?_
    refine OpsL.cons rfl (op_pick_and (fun e => e) rfl rfl rfl rfl) ?_
    refine OpsL.cons rfl (op_assign rfl) ?_
    refine OpsL.nilK [1, 4, 24] [101] (s' := ⟨[(1, .b (.ptr 101 0)), (4, .b (.one (.int .u64 x_4))), (24, B (x0.Neg && (decide (x_4 ≤ 9223372036854775808))))], [(101, .box 25 (eBig x0))]⟩) rfl ?_
    refine Tri.ite h rfl (fun _ h => ?_) (fun _ h => ?_)
    · refine Tri.seq ?_
      refine Tri.regionL ?_
      refine OpsL.cons rfl (op_move rfl) ?_
      refine OpsL.cons rfl (op_neg rfl) ?_
      refine OpsL.consI .i64 h rfl (op_conv_wrap undi63 undi3 rfl) (fun x_5 h => ?_)
      refine OpsL.cons rfl (op_assign rfl) ?_
      refine OpsL.cons rfl (op_assign rfl) ?_
      refine OpsL.nilK [2, 3] [] (s' := ⟨[(2, I x_5), (3, B true)], []⟩) rfl ?_
      refine Tri.ret ?_
      refine Fin.block_ret ?_
      refine Fin.then_ret ?_
      obtain rfl := Option.some.inj h
      refine Fin.keep [2, 3] [] (s' := ⟨[(2, I x_5), (3, B true)], []⟩) rfl ?_
      refine Fin.result' [.one (.i x_5), .one (.bool true)] (.inl rfl) rfl (.cons (.tmp rfl) (.cons (.tmp rfl) .nil)) ⟨rfl, rfl⟩
    · refine Tri.seq ?_
      refine Tri.regionL ?_
      refine OpsL.cons rfl (op_field_p tyFld25_1 rfl rfl) ?_
      refine OpsL.cons rfl (op_load_p1 tyOne4 rfl rfl rfl) ?_
      refine OpsL.cons rfl (op_not rfl) ?_
      refine OpsL.cons rfl (op_move rfl) ?_
      refine OpsL.consG (!x0.Neg) 99 [] (.plain rfl) (eq_t _) rfl rfl (fun g8 => trivial) (fun g8 => op_move rfl) ?_
      refine OpsL.consG (!x0.Neg) 99 [39] (.plain rfl) (eq_t _) rfl rfl (fun g9 => ⟨g9, trivial⟩) (fun g9 => op_lss rfl rfl) ?_
      refine OpsL.cons rfl (op_pick_and (fun e => e) rfl rfl rfl rfl) ?_
      refine OpsL.cons rfl (op_assign rfl) ?_
      refine OpsL.nilK [4, 34] [] (s' := ⟨[(4, .b (.one (.int .u64 x_4))), (34, B ((!x0.Neg) && (decide (x_4 < 9223372036854775808))))], []⟩) rfl ?_
      refine Tri.ite h rfl (fun _ h => ?_) (fun _ h => ?_)
      · refine Tri.seq ?_
        refine Tri.regionL ?_
        refine OpsL.cons rfl (op_move rfl) ?_
        refine OpsL.cons rfl (op_conv_wrap undi63 undi3 rfl) ?_
        refine OpsL.cons rfl (op_assign rfl) ?_
        refine OpsL.cons rfl (op_assign rfl) ?_
        refine OpsL.nilK [2, 3] [] (s' := ⟨[(2, I (IntKind.i64.wrap x_4)), (3, B true)], []⟩) rfl ?_
        refine Tri.ret ?_
        refine Fin.block_ret ?_
        refine Fin.then_ret ?_
        obtain rfl := Option.some.inj h
        refine Fin.keep [2, 3] [] (s' := ⟨[(2, I (IntKind.i64.wrap x_4)), (3, B true)], []⟩) rfl ?_
        refine Fin.result' [.one (.i (IntKind.i64.wrap x_4)), .one (.bool true)] (.inl rfl) rfl (.cons (.tmp rfl) (.cons (.tmp rfl) .nil)) ⟨rfl, rfl⟩
      · refine Tri.skip ?_
        refine Fin.block_normal ?_
        refine Fin.keep [] [] (s' := ⟨[], []⟩) rfl ?_
        refine Fin.then ?_
        refine Tri.seq ?_
        refine Tri.regionL ?_
        refine OpsL.cons rfl (op_assign rfl) ?_
        refine OpsL.cons rfl (op_assign rfl) ?_
        refine OpsL.nilK [2, 3] [] (s' := ⟨[(2, I 0), (3, B false)], []⟩) rfl ?_
        refine Tri.ret ?_
        obtain rfl := Option.some.inj h
        refine Fin.keep [2, 3] [] (s' := ⟨[(2, I 0), (3, B false)], []⟩) rfl ?_
        refine Fin.result' [.one (.i 0), .one (.bool false)] (.inl rfl) rfl (.cons (.tmp rfl) (.cons (.tmp rfl) .nil)) ⟨rfl, rfl⟩

def cmp_isNaN_S (F : Nat) (x0 : Int) : Option Bool :=
 some (decide (x0 ≠ x0))
theorem cmp_isNaN_spec {F : Nat} {x0 : Int} {r : Bool} (h : cmp_isNaN_S F x0 = some r) : Meets Tryd.prog tabs 90 [] [.one (.int .u32 x0)] (Is [] (.b (.one (.bool r)))) := by
  unfold cmp_isNaN_S at h
  refine Meets.intro 6 Tryd.func90 Tryd.ntmps90 rfl (by simp) fun E => ?_
  show Tri _ E ⟨6, [], []⟩ _ ⟨[(0, .b (.one (.int .u32 x0)))], []⟩ _
  refine Tri.seq ?_
  refine Tri.regionL ?_
  refine OpsL.cons rfl (op_assign rfl) ?_
  refine OpsL.nilK [0] [] (s' := ⟨[(0, .b (.one (.int .u32 x0)))], []⟩) rfl ?_
  refine Tri.seq ?_
  refine Tri.regionL ?_
  refine OpsL.cons rfl (op_move rfl) ?_
  refine OpsL.cons rfl (op_move rfl) ?_
  refine OpsL.cons rfl (op_neq rfl rfl) ?_
  refine OpsL.cons rfl (op_assign rfl) ?_
  refine OpsL.nilK [2] [] (s' := ⟨[(2, B (decide (x0 ≠ x0)))], []⟩) rfl ?_
  refine Tri.ret ?_
  obtain rfl := Option.some.inj h
  refine Fin.keep [2] [] (s' := ⟨[(2, B (decide (x0 ≠ x0)))], []⟩) rfl ?_
  refine Fin.result' [.one (.bool (decide (x0 ≠ x0)))] (.inl rfl) rfl (.cons (.tmp rfl) .nil) ⟨rfl, rfl⟩

def cmp_Compare_S (F : Nat) (x0 : Int) (y0 : Int) : Option Int :=
 Option.bind (cmp_isNaN_S F x0) (fun x_1 => Option.bind (cmp_isNaN_S F y0) (fun x_2 => if x_1 = true then (if x_2 = true then (some 0) else (some (-1))) else (if x_2 = true then (some 1) else (if (decide (x0 < y0)) = true then (some (-1)) else (if (decide (y0 < x0)) = true then (some 1) else (some 0))))))
theorem cmp_Compare_spec {F : Nat} {x0 : Int} {y0 : Int} {r : Int} (h : cmp_Compare_S F x0 y0 = some r) : Meets Tryd.prog tabs 75 [] [.one (.int .u32 x0), .one (.int .u32 y0)] (Is [] (.b (.one (.i r)))) := by
  unfold cmp_Compare_S at h
  refine Meets.intro 20 Tryd.func75 Tryd.ntmps75 rfl (by simp) fun E => ?_
  show Tri _ E ⟨20, [], []⟩ _ ⟨[(0, .b (.one (.int .u32 x0))), (1, .b (.one (.int .u32 y0)))], []⟩ _
  refine Tri.seq ?_
  refine Tri.regionL ?_
  refine OpsL.cons rfl (op_assign rfl) ?_
  refine OpsL.nilK [0, 1] [] (s' := ⟨[(0, .b (.one (.int .u32 x0))), (1, .b (.one (.int .u32 y0)))], []⟩) rfl ?_
  refine Tri.seq ?_
  refine Tri.regionL ?_
  refine OpsL.cons rfl (op_move rfl) ?_
  obtain ⟨x_1, e1, h⟩ := bnd h
  refine OpsL.cons rfl (op_call0 (cmp_isNaN_spec e1) goes90 rfl rfl) ?_
  refine OpsL.cons rfl (op_assign rfl) ?_
  refine OpsL.nilK [0, 1, 5] [] (s' := ⟨[(0, .b (.one (.int .u32 x0))), (1, .b (.one (.int .u32 y0))), (5, B x_1)], []⟩) rfl ?_
  refine Tri.seq ?_
  refine Tri.regionL ?_
  refine OpsL.cons rfl (op_move rfl) ?_
  obtain ⟨x_2, e2, h⟩ := bnd h
  refine OpsL.cons rfl (op_call0 (cmp_isNaN_spec e2) goes90 rfl rfl) ?_
  refine OpsL.cons rfl (op_assign rfl) ?_
  refine OpsL.nilK [0, 1, 5, 6] [] (s' := ⟨[(0, .b (.one (.int .u32 x0))), (1, .b (.one (.int .u32 y0))), (5, B x_1), (6, B x_2)], []⟩) rfl ?_
  refine Tri.seq ?_
  refine Tri.seq ?_
  refine Tri.regionL ?_
  refine OpsL.cons rfl (op_move rfl) ?_
  refine OpsL.nilK [0, 1, 6, 11] [] (s' := ⟨[(0, .b (.one (.int .u32 x0))), (1, .b (.one (.int .u32 y0))), (6, B x_2), (11, B x_1)], []⟩) rfl ?_
  refine Tri.ite h rfl (fun _ h => ?_) (fun _ h => ?_)
  · refine Tri.seq ?_
    refine Tri.seq ?_
    refine Tri.regionL ?_
    refine OpsL.cons rfl (op_move rfl) ?_
    refine OpsL.nilK [12] [] (s' := ⟨[(12, B x_2)], []⟩) rfl ?_
    refine Tri.ite h rfl (fun _ h => ?_) (fun _ h => ?_)
    · refine Tri.seq ?_
      refine Tri.regionL ?_
      refine OpsL.cons rfl (op_assign rfl) ?_
      refine OpsL.nilK [4] [] (s' := ⟨[(4, I 0)], []⟩) rfl ?_
      refine Tri.ret ?_
      refine Fin.then_ret ?_
      refine Fin.then_ret ?_
      obtain rfl := Option.some.inj h
      refine Fin.keep [4] [] (s' := ⟨[(4, I 0)], []⟩) rfl ?_
      refine Fin.result' [.one (.i 0)] (.inl rfl) rfl (.cons (.tmp rfl) .nil) ⟨rfl, rfl⟩
    · refine Tri.skip ?_
      refine Fin.keep [] [] (s' := ⟨[], []⟩) rfl ?_
      refine Fin.then ?_
      refine Tri.seq ?_
      refine Tri.regionL ?_
      refine OpsL.cons rfl (op_assign rfl) ?_
      refine OpsL.nilK [4] [] (s' := ⟨[(4, I (-1))], []⟩) rfl ?_
      refine Tri.ret ?_
      refine Fin.then_ret ?_
      obtain rfl := Option.some.inj h
      refine Fin.keep [4] [] (s' := ⟨[(4, I (-1))], []⟩) rfl ?_
      refine Fin.result' [.one (.i (-1))] (.inl rfl) rfl (.cons (.tmp rfl) .nil) ⟨rfl, rfl⟩
  · refine Tri.skip ?_
    refine Fin.keep [0, 1, 6] [] (s' := ⟨[(0, .b (.one (.int .u32 x0))), (1, .b (.one (.int .u32 y0))), (6, B x_2)], []⟩) rfl ?_
    refine Fin.then ?_
    refine Tri.seq ?_
    refine Tri.seq ?_
    refine Tri.regionL ?_
    refine OpsL.cons rfl (op_move rfl) ?_
    refine OpsL.nilK [0, 1, 13] [] (s' := ⟨[(0, .b (.one (.int .u32 x0))), (1, .b (.one (.int .u32 y0))), (13, B x_2)], []⟩) rfl ?_
    refine Tri.ite h rfl (fun _ h => ?_) (fun _ h => ?_)
    · refine Tri.seq ?_
      refine Tri.regionL ?_
      refine OpsL.cons rfl (op_assign rfl) ?_
      refine OpsL.nilK [4] [] (s' := ⟨[(4, I 1)], []⟩) rfl ?_
      refine Tri.ret ?_
      refine Fin.then_ret ?_
      obtain rfl := Option.some.inj h
      refine Fin.keep [4] [] (s' := ⟨[(4, I 1)], []⟩) rfl ?_
      refine Fin.result' [.one (.i 1)] (.inl rfl) rfl (.cons (.tmp rfl) .nil) ⟨rfl, rfl⟩
    · refine Tri.skip ?_
      refine Fin.keep [0, 1] [] (s' := ⟨[(0, .b (.one (.int .u32 x0))), (1, .b (.one (.int .u32 y0)))], []⟩) rfl ?_
      refine Fin.then ?_
      refine Tri.seq ?_
      refine Tri.seq ?_
      refine Tri.regionL ?_
      refine OpsL.cons rfl (op_move rfl) ?_
      refine OpsL.cons rfl (op_move rfl) ?_
      refine OpsL.cons rfl (op_lss rfl rfl) ?_
      refine OpsL.nilK [0, 1, 16] [] (s' := ⟨[(0, .b (.one (.int .u32 x0))), (1, .b (.one (.int .u32 y0))), (16, B (decide (x0 < y0)))], []⟩) rfl ?_
      refine Tri.ite h rfl (fun _ h => ?_) (fun _ h => ?_)
      · refine Tri.seq ?_
        refine Tri.regionL ?_
        refine OpsL.cons rfl (op_assign rfl) ?_
        refine OpsL.nilK [4] [] (s' := ⟨[(4, I (-1))], []⟩) rfl ?_
        refine Tri.ret ?_
        refine Fin.then_ret ?_
        obtain rfl := Option.some.inj h
        refine Fin.keep [4] [] (s' := ⟨[(4, I (-1))], []⟩) rfl ?_
        refine Fin.result' [.one (.i (-1))] (.inl rfl) rfl (.cons (.tmp rfl) .nil) ⟨rfl, rfl⟩
      · refine Tri.skip ?_
        refine Fin.keep [0, 1] [] (s' := ⟨[(0, .b (.one (.int .u32 x0))), (1, .b (.one (.int .u32 y0)))], []⟩) rfl ?_
        refine Fin.then ?_
        refine Tri.seq ?_
        refine Tri.seq ?_
        refine Tri.regionL ?_
        refine OpsL.cons rfl (op_move rfl) ?_
        refine OpsL.cons rfl (op_move rfl) ?_
        refine OpsL.cons rfl (op_gtr rfl rfl) ?_
        refine OpsL.nilK [19] [] (s' := ⟨[(19, B (decide (y0 < x0)))], []⟩) rfl ?_
        refine Tri.ite h rfl (fun _ h => ?_) (fun _ h => ?_)
        · refine Tri.seq ?_
          refine Tri.regionL ?_
          refine OpsL.cons rfl (op_assign rfl) ?_
          refine OpsL.nilK [4] [] (s' := ⟨[(4, I 1)], []⟩) rfl ?_
          refine Tri.ret ?_
          refine Fin.then_ret ?_
          obtain rfl := Option.some.inj h
          refine Fin.keep [4] [] (s' := ⟨[(4, I 1)], []⟩) rfl ?_
          refine Fin.result' [.one (.i 1)] (.inl rfl) rfl (.cons (.tmp rfl) .nil) ⟨rfl, rfl⟩
        · refine Tri.skip ?_
          refine Fin.keep [] [] (s' := ⟨[], []⟩) rfl ?_
          refine Fin.then ?_
          refine Tri.seq ?_
          refine Tri.regionL ?_
          refine OpsL.cons rfl (op_assign rfl) ?_
          refine OpsL.nilK [4] [] (s' := ⟨[(4, I 0)], []⟩) rfl ?_
          refine Tri.ret ?_
          obtain rfl := Option.some.inj h
          refine Fin.keep [4] [] (s' := ⟨[(4, I 0)], []⟩) rfl ?_
          refine Fin.result' [.one (.i 0)] (.inl rfl) rfl (.cons (.tmp rfl) .nil) ⟨rfl, rfl⟩

def whole_order_S (F : Nat) (a0 : A16) (b0 : A16) : Option Int :=
 Option.bind (iter F (fun k_1 => if (decide (0 ≤ k_1)) = true then (Option.bind (idx? a0.l k_1) (fun x_2 => Option.bind (idx? b0.l k_1) (fun x_3 => if (decide (x_2 ≠ x_3)) = true then (Option.bind (idx? a0.l k_1) (fun x_4 => Option.bind (idx? b0.l k_1) (fun x_5 => Option.bind (cmp_Compare_S F x_4 x_5) (fun x_6 => some (.inr (.inr x_6)))))) else (some (.inl (IntKind.i64.wrap (k_1 - 1))))))) else (some (.inr (.inl ())))) 15) (alt2 (fun _ => some 0) (fun y => some y))
theorem whole_order_spec {F : Nat} {a0 : A16} {b0 : A16} {r : Int} (h : whole_order_S F a0 b0 = some r) : Meets Tryd.prog tabs 47 [] [.agg ((eA16 .u32) a0), .agg ((eA16 .u32) b0)] (Is [] (.b (.one (.i r)))) := by
  unfold whole_order_S at h
  refine Meets.intro 24 Tryd.func47 Tryd.ntmps47 rfl (by simp) fun E => ?_
  show Tri _ E ⟨24, [], []⟩ _ ⟨[(0, .b (.agg ((eA16 .u32) a0))), (1, .b (.agg ((eA16 .u32) b0)))], []⟩ _
  refine Tri.seq ?_
  refine Tri.regionL ?_
  refine OpsL.cons rfl (op_box (k := 101) rfl rfl) ?_
  refine OpsL.cons rfl (op_box (k := 102) rfl rfl) ?_
  refine OpsL.cons rfl (op_assign rfl) ?_
  refine OpsL.nilK [2, 3] [101, 102] (s' := ⟨[(2, .b (.ptr 101 0)), (3, .b (.ptr 102 0))], [(101, .box 23 ((eA16 .u32) a0)), (102, .box 23 ((eA16 .u32) b0))]⟩) rfl ?_
  obtain ⟨v1, h2, h⟩ := bnd h
  refine Tri.seqJ (v := v1) (fun (_ : Unit) => ⟨[], []⟩) (fun z => .inl z) ?_ ?_
  · refine Tri.seq ?_
    refine Tri.regionL ?_
    refine OpsL.cons rfl (op_assign rfl) ?_
    refine OpsL.nilK [2, 3, 5] [101, 102] (s' := ⟨[(2, .b (.ptr 101 0)), (3, .b (.ptr 102 0)), (5, I 15)], [(101, .box 23 ((eA16 .u32) a0)), (102, .box 23 ((eA16 .u32) b0))]⟩) rfl ?_
    refine Tri.block ?_
    refine Tri.loopJ h2 (fun (k_1 : Int) => ⟨[(2, .b (.ptr 101 0)), (3, .b (.ptr 102 0)), (5, I k_1)], [(101, .box 23 ((eA16 .u32) a0)), (102, .box 23 ((eA16 .u32) b0))]⟩) [2, 3, 5] [101, 102] rfl ?_
    rintro k_1 o3 h4 hy5
    refine Tri.seq ?_
    refine Tri.seq ?_
    refine Tri.regionL ?_
    refine OpsL.cons rfl (op_move rfl) ?_
    refine OpsL.cons rfl (op_geq rfl rfl) ?_
    refine OpsL.nilK [2, 3, 5, 7] [101, 102] (s' := ⟨[(2, .b (.ptr 101 0)), (3, .b (.ptr 102 0)), (5, I k_1), (7, B (decide (0 ≤ k_1)))], [(101, .box 23 ((eA16 .u32) a0)), (102, .box 23 ((eA16 .u32) b0))]⟩) rfl ?_
    refine Tri.ite h4 rfl (fun _ h4 => ?_) (fun _ h4 => ?_)
    · refine Tri.skip ?_
      refine Fin.keep [2, 3, 5] [101, 102] (s' := ⟨[(2, .b (.ptr 101 0)), (3, .b (.ptr 102 0)), (5, I k_1)], [(101, .box 23 ((eA16 .u32) a0)), (102, .box 23 ((eA16 .u32) b0))]⟩) rfl ?_
      refine Fin.then ?_
      refine Tri.seq ?_
      refine Tri.block ?_
      refine Tri.seq ?_
      refine Tri.keep [2, 3, 5] [101, 102] (s' := ⟨[(2, .b (.ptr 101 0)), (3, .b (.ptr 102 0)), (5, I k_1)], [(101, .box 23 ((eA16 .u32) a0)), (102, .box 23 ((eA16 .u32) b0))]⟩) rfl ?_
      obtain ⟨x_2, e6, h4⟩ := bnd h4
      obtain ⟨x_3, e7, h4⟩ := bnd h4
      refine Tri.regionY mixed 7 [I k_1, .b (.ptr 101 (0 + (k_1 : Int).toNat * 1)), .b (.one (.int .u32 x_2)), I k_1, .b (.ptr 102 (0 + (k_1 : Int).toNat * 1)), .b (.one (.int .u32 x_3)), B (decide (x_2 ≠ x_3))] [2, 3, 5, 16] [101, 102] (s' := ⟨[(2, .b (.ptr 101 0)), (3, .b (.ptr 102 0)), (5, I k_1), (16, B (decide (x_2 ≠ x_3)))], [(101, .box 23 ((eA16 .u32) a0)), (102, .box 23 ((eA16 .u32) b0))]⟩) rfl ⟨fun _ => .plain rfl (op_move rfl), fun _ => .plain rfl (op_index_p tyArr23 (ix_lo e6) (ix_hi e6) rfl rfl rfl), fun _ => .plain rfl (op_load_p1 tyOne22 rfl rfl (arr_get (post := []) (k := .u32) [] e6 rfl rfl rfl)), fun _ => .plain rfl (op_move rfl), fun _ => .plain rfl (op_index_p tyArr23 (ix_lo e7) (ix_hi e7) rfl rfl rfl), fun _ => .plain rfl (op_load_p1 tyOne22 rfl rfl (arr_get (post := []) (k := .u32) [] e7 rfl rfl rfl)), fun _ => .plain rfl (op_neq rfl rfl), trivial⟩ rfl rfl ?_
      refine Tri.ite h4 rfl (fun _ h4 => ?_) (fun _ h4 => ?_)
      · refine Tri.seq ?_
        refine Tri.keep [2, 3, 5] [101, 102] (s' := ⟨[(2, .b (.ptr 101 0)), (3, .b (.ptr 102 0)), (5, I k_1)], [(101, .box 23 ((eA16 .u32) a0)), (102, .box 23 ((eA16 .u32) b0))]⟩) rfl ?_
        obtain ⟨x_4, e8, h4⟩ := bnd h4
        obtain ⟨x_5, e9, h4⟩ := bnd h4
        obtain ⟨x_6, e10, h4⟩ := bnd h4
        refine Tri.regionY mixed 8 [I k_1, .b (.ptr 101 (0 + (k_1 : Int).toNat * 1)), .b (.one (.int .u32 x_4)), I k_1, .b (.ptr 102 (0 + (k_1 : Int).toNat * 1)), .b (.one (.int .u32 x_5)), I x_6, I x_6] [4] [] (s' := ⟨[(4, I x_6)], []⟩) rfl ⟨fun _ => .plain rfl (op_move rfl), fun _ => .plain rfl (op_index_p tyArr23 (ix_lo e8) (ix_hi e8) rfl rfl rfl), fun _ => .plain rfl (op_load_p1 tyOne22 rfl rfl (arr_get (post := []) (k := .u32) [] e8 rfl rfl rfl)), fun _ => .plain rfl (op_move rfl), fun _ => .plain rfl (op_index_p tyArr23 (ix_lo e9) (ix_hi e9) rfl rfl rfl), fun _ => .plain rfl (op_load_p1 tyOne22 rfl rfl (arr_get (post := []) (k := .u32) [] e9 rfl rfl rfl)), fun _ => .plain rfl (op_call0 (cmp_Compare_spec e10) goes75 rfl rfl), fun _ => .plain rfl (op_assign rfl), trivial⟩ rfl rfl ?_
        refine Tri.ret ?_
        refine Fin.block_ret ?_
        refine Fin.then_ret ?_
        obtain rfl := hy5 _ (Option.some.inj h4).symm
        refine Fin.then_ret ?_
        refine Fin.block_ret ?_
        refine Fin.then_ret ?_
        obtain rfl := Option.some.inj h
        refine Fin.keep [4] [] (s' := ⟨[(4, I x_6)], []⟩) rfl ?_
        refine Fin.result' [.one (.i x_6)] (.inl rfl) rfl (.cons (.tmp rfl) .nil) ⟨rfl, rfl⟩
      · refine Tri.skip ?_
        refine Fin.block_normal ?_
        refine Fin.keep [2, 3, 5] [101, 102] (s' := ⟨[(2, .b (.ptr 101 0)), (3, .b (.ptr 102 0)), (5, I k_1)], [(101, .box 23 ((eA16 .u32) a0)), (102, .box 23 ((eA16 .u32) b0))]⟩) rfl ?_
        refine Fin.then ?_
        refine Tri.regionL ?_
        refine OpsL.cons rfl (op_move rfl) ?_
        refine OpsL.cons rfl (op_sub rfl rfl) ?_
        refine OpsL.cons rfl (op_assign rfl) ?_
        refine OpsL.nil ?_
        exact Fin.againJ [2, 3, 5] [101, 102] (IntKind.i64.wrap (k_1 - 1)) (Option.some.inj h4) rfl
    · refine Tri.exit ?_
      refine Fin.then_exit ?_
      obtain rfl := hy5 _ (Option.some.inj h4).symm
      refine Fin.then_exit ?_
      refine Fin.block_exit ?_
      exact Fin.join [] [] () rfl rfl
  · rintro _ hv
    subst v1
    refine Tri.seq ?_
    refine Tri.regionL ?_
    refine OpsL.cons rfl (op_assign rfl) ?_
    refine OpsL.nilK [4] [] (s' := ⟨[(4, I 0)], []⟩) rfl ?_
    refine Tri.ret ?_
    obtain rfl := Option.some.inj h
    refine Fin.keep [4] [] (s' := ⟨[(4, I 0)], []⟩) rfl ?_
    refine Fin.result' [.one (.i 0)] (.inl rfl) rfl (.cons (.tmp rfl) .nil) ⟨rfl, rfl⟩

def bits_LeadingZeros32_S (F : Nat) (x0 : Int) : Option Int :=
 Option.bind (bits_Len32_S F x0) (fun x_1 => some (IntKind.i64.wrap (32 - x_1)))
theorem bits_LeadingZeros32_spec {F : Nat} {x0 : Int} {r : Int} (h : bits_LeadingZeros32_S F x0 = some r) : Meets Tryd.prog tabs 85 [] [.one (.int .u32 x0)] (Is [] (.b (.one (.i r)))) := by
  unfold bits_LeadingZeros32_S at h
  refine Meets.intro 6 Tryd.func85 Tryd.ntmps85 rfl (by simp) fun E => ?_
  show Tri _ E ⟨6, [], []⟩ _ ⟨[(0, .b (.one (.int .u32 x0)))], []⟩ _
  refine Tri.seq ?_
  refine Tri.regionL ?_
  refine OpsL.cons rfl (op_assign rfl) ?_
  refine OpsL.nilK [0] [] (s' := ⟨[(0, .b (.one (.int .u32 x0)))], []⟩) rfl ?_
  refine Tri.seq ?_
  refine Tri.regionL ?_
  refine OpsL.cons rfl (op_move rfl) ?_
  obtain ⟨x_1, e1, h⟩ := bnd h
  refine OpsL.cons rfl (op_call0 (bits_Len32_spec e1) goes58 rfl rfl) ?_
  refine OpsL.cons rfl (op_sub rfl rfl) ?_
  refine OpsL.cons rfl (op_assign rfl) ?_
  refine OpsL.nilK [2] [] (s' := ⟨[(2, I (IntKind.i64.wrap (32 - x_1)))], []⟩) rfl ?_
  refine Tri.ret ?_
  obtain rfl := Option.some.inj h
  refine Fin.keep [2] [] (s' := ⟨[(2, I (IntKind.i64.wrap (32 - x_1)))], []⟩) rfl ?_
  refine Fin.result' [.one (.i (IntKind.i64.wrap (32 - x_1)))] (.inl rfl) rfl (.cons (.tmp rfl) .nil) ⟨rfl, rfl⟩

end Go.Proofs.YtaigaoifloldcaaDoor
