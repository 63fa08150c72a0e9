/- printed walks -/
import Derived.Test.YtimhhebjefkjlaaT1
namespace Go.Proofs.Ytimhhebjefkjlaa
open Go.Sk Go
set_option maxHeartbeats 1000000
set_option maxRecDepth 4000
set_option linter.unusedSimpArgs false
set_option linter.unusedVariables false
theorem tyOne22 : TyOne Try.prog 22 := ⟨⟨_, Try.underlying22, rfl⟩, ⟨Try.t22, by kernel_rfl, by kernel_rfl⟩⟩
theorem tyOne3 : TyOne Try.prog 3 := ⟨⟨_, Try.underlying3, rfl⟩, ⟨Try.t3, by kernel_rfl, by kernel_rfl⟩⟩
theorem tyFld24_5 : TyField Try.prog 24 5 5 3 := ⟨⟨_, _, Try.t3, Try.underlying24, rfl, rfl, rfl, by kernel_rfl, by decide⟩⟩
theorem tySl22 : TySl Try.prog 22 24 6 48 [.i 0, .i 0, .i 0, .i 0, .i 0, .i 0] := ⟨Try.underlying22, ⟨Try.t24, _, by kernel_rfl, rfl, rfl, rfl, rfl, by decide, rfl⟩⟩
theorem tyAgg24 : TyAgg Try.prog 24 6 := ⟨⟨_, Try.underlying24, rfl⟩, ⟨Try.t24, by kernel_rfl, by kernel_rfl⟩⟩
theorem tyZero24 : TyZero Try.prog 24 [.i 0, .i 0, .i 0, .i 0, .i 0, .i 0] := ⟨⟨Try.t24, _, by kernel_rfl, rfl, rfl⟩⟩
theorem goes56 : Goes Try.prog 56 := ⟨Try.call56⟩
theorem tyFld24_0 : TyField Try.prog 24 0 0 3 := ⟨⟨_, _, Try.t3, Try.underlying24, rfl, rfl, rfl, by kernel_rfl, by decide⟩⟩
theorem goes63 : Goes Try.prog 63 := ⟨Try.call63⟩
theorem tyFld24_1 : TyField Try.prog 24 1 1 3 := ⟨⟨_, _, Try.t3, Try.underlying24, rfl, rfl, rfl, by kernel_rfl, by decide⟩⟩
theorem tyFld24_2 : TyField Try.prog 24 2 2 3 := ⟨⟨_, _, Try.t3, Try.underlying24, rfl, rfl, rfl, by kernel_rfl, by decide⟩⟩
theorem tyFld24_3 : TyField Try.prog 24 3 3 3 := ⟨⟨_, _, Try.t3, Try.underlying24, rfl, rfl, rfl, by kernel_rfl, by decide⟩⟩
theorem goes64 : Goes Try.prog 64 := ⟨Try.call64⟩
theorem tyFld24_4 : TyField Try.prog 24 4 4 3 := ⟨⟨_, _, Try.t3, Try.underlying24, rfl, rfl, rfl, by kernel_rfl, by decide⟩⟩
theorem goes47 : Goes Try.prog 47 := ⟨Try.call47⟩
theorem goes65 : Goes Try.prog 65 := ⟨Try.call65⟩
theorem und22 : Try.prog.underlying 22 = some (.slice 24) := Try.underlying22
theorem goes48 : Goes Try.prog 48 := ⟨Try.call48⟩
theorem mixed : Try.prog.follows .mixedOrders = true := by kernel_rfl
theorem goes23 : Goes Try.prog 23 := ⟨Try.call23⟩
theorem goes30 : Goes Try.prog 30 := ⟨Try.call30⟩
theorem tyBuild24 : TyBuild Try.prog 24 [(0, 1), (1, 1), (2, 1), (3, 1), (4, 1), (5, 1)] [.i 0, .i 0, .i 0, .i 0, .i 0, .i 0] := ⟨⟨Try.t24, _, _, by kernel_rfl, rfl, rfl, Try.underlying24, by kernel_rfl⟩⟩
theorem tyZero69 : TyZero Try.prog 69 [.nil] := ⟨⟨Try.t69, _, by kernel_rfl, rfl, rfl⟩⟩
theorem goes41 : Goes Try.prog 41 := ⟨Try.call41⟩
theorem tyOne69 : TyOne Try.prog 69 := ⟨⟨_, Try.underlying69, rfl⟩, ⟨Try.t69, by kernel_rfl, by kernel_rfl⟩⟩
theorem tyBuild87 : TyBuild Try.prog 87 [(0, 1), (1, 1), (2, 1), (3, 1)] [.i 0, .i 0, .i 0, .i 0] := ⟨⟨Try.t87, _, _, by kernel_rfl, rfl, rfl, Try.underlying87, by kernel_rfl⟩⟩
theorem tySl69 : TySl Try.prog 69 87 4 32 [.i 0, .i 0, .i 0, .i 0] := ⟨Try.underlying69, ⟨Try.t87, _, by kernel_rfl, rfl, rfl, rfl, rfl, by decide, rfl⟩⟩
theorem und69 : Try.prog.underlying 69 = some (.slice 87) := Try.underlying69
theorem tyAgg87 : TyAgg Try.prog 87 4 := ⟨⟨_, Try.underlying87, rfl⟩, ⟨Try.t87, by kernel_rfl, by kernel_rfl⟩⟩
theorem tyZero87 : TyZero Try.prog 87 [.i 0, .i 0, .i 0, .i 0] := ⟨⟨Try.t87, _, by kernel_rfl, rfl, rfl⟩⟩
theorem tyFld87_0 : TyField Try.prog 87 0 0 3 := ⟨⟨_, _, Try.t3, Try.underlying87, rfl, rfl, rfl, by kernel_rfl, by decide⟩⟩
theorem undm71 : Try.prog.underlying 71 = some (.map 3 3) := Try.underlying71
theorem tyMap71 : TyMap Try.prog 71 3 3 .i64 (.i 0) := ⟨Try.underlying71, Try.underlying3, ⟨Try.t3, _, by kernel_rfl, rfl, fun _ => ⟨rfl, by decide, by decide⟩⟩⟩
theorem tyFld87_1 : TyField Try.prog 87 1 1 3 := ⟨⟨_, _, Try.t3, Try.underlying87, rfl, rfl, rfl, by kernel_rfl, by decide⟩⟩
theorem tyFld87_2 : TyField Try.prog 87 2 2 3 := ⟨⟨_, _, Try.t3, Try.underlying87, rfl, rfl, rfl, by kernel_rfl, by decide⟩⟩
theorem goes54 : Goes Try.prog 54 := ⟨Try.call54⟩
theorem goes34 : Goes Try.prog 34 := ⟨Try.call34⟩
theorem goes33 : Goes Try.prog 33 := ⟨Try.call33⟩
theorem goes49 : Goes Try.prog 49 := ⟨Try.call49⟩
theorem goes55 : Goes Try.prog 55 := ⟨Try.call55⟩
theorem goes17 : Goes Try.prog 17 := ⟨Try.call17⟩
theorem tySl27 : TySl Try.prog 27 36 12 72 [.i 0, .i 0, .bool false, .bool false, .i 0, .i 0, .bool false, .bool false, .i 0, .i 0, .bool false, .bool false] := ⟨Try.underlying27, ⟨Try.t36, _, by kernel_rfl, rfl, rfl, rfl, rfl, by decide, rfl⟩⟩
theorem goes35 : Goes Try.prog 35 := ⟨Try.call35⟩
theorem goes36 : Goes Try.prog 36 := ⟨Try.call36⟩
theorem und27 : Try.prog.underlying 27 = some (.slice 36) := Try.underlying27
theorem tyArr36 : TyArr Try.prog 36 35 3 4 := ⟨Try.underlying36, ⟨Try.t35, by kernel_rfl, by kernel_rfl⟩⟩
theorem tyFld35_1 : TyField Try.prog 35 1 1 3 := ⟨⟨_, _, Try.t3, Try.underlying35, rfl, rfl, rfl, by kernel_rfl, by decide⟩⟩
theorem tyFld35_3 : TyField Try.prog 35 3 3 4 := ⟨⟨_, _, Try.t4, Try.underlying35, rfl, rfl, rfl, by kernel_rfl, by decide⟩⟩
theorem tyOne4 : TyOne Try.prog 4 := ⟨⟨_, Try.underlying4, rfl⟩, ⟨Try.t4, by kernel_rfl, by kernel_rfl⟩⟩
theorem tyFld35_0 : TyField Try.prog 35 0 0 3 := ⟨⟨_, _, Try.t3, Try.underlying35, rfl, rfl, rfl, by kernel_rfl, by decide⟩⟩
theorem tyFld35_2 : TyField Try.prog 35 2 2 4 := ⟨⟨_, _, Try.t4, Try.underlying35, rfl, rfl, rfl, by kernel_rfl, by decide⟩⟩
theorem tySl50 : TySl Try.prog 50 52 3 24 ((eA3 .i64) A3.zero) := ⟨Try.underlying50, ⟨Try.t52, _, by kernel_rfl, rfl, rfl, rfl, rfl, by decide, rfl⟩⟩
theorem und50 : Try.prog.underlying 50 = some (.slice 52) := Try.underlying50
theorem tyArr52 : TyArr Try.prog 52 3 3 1 := ⟨Try.underlying52, ⟨Try.t3, by kernel_rfl, by kernel_rfl⟩⟩
theorem tyZero36 : TyZero Try.prog 36 [.i 0, .i 0, .bool false, .bool false, .i 0, .i 0, .bool false, .bool false, .i 0, .i 0, .bool false, .bool false] := ⟨⟨Try.t36, _, by kernel_rfl, rfl, rfl⟩⟩
theorem tyBuild35 : TyBuild Try.prog 35 [(0, 1), (1, 1), (2, 1), (3, 1)] [.i 0, .i 0, .bool false, .bool false] := ⟨⟨Try.t35, _, _, by kernel_rfl, rfl, rfl, Try.underlying35, by kernel_rfl⟩⟩
theorem tyBuild36 : TyBuildA Try.prog 36 4 [.i 0, .i 0, .bool false, .bool false, .i 0, .i 0, .bool false, .bool false, .i 0, .i 0, .bool false, .bool false] := ⟨⟨Try.t36, _, _, _, Try.t35, by kernel_rfl, rfl, rfl, Try.underlying36, by kernel_rfl, by kernel_rfl⟩⟩
theorem tyAgg36 : TyAgg Try.prog 36 12 := ⟨⟨_, Try.underlying36, rfl⟩, ⟨Try.t36, by kernel_rfl, by kernel_rfl⟩⟩
theorem tySl105 : TySl Try.prog 105 71 1 8 [.raw (.map none)] := ⟨Try.underlying105, ⟨Try.t71, _, by kernel_rfl, rfl, rfl, rfl, rfl, by decide, rfl⟩⟩
theorem tyOne71 : TyOne Try.prog 71 := ⟨⟨_, Try.underlying71, rfl⟩, ⟨Try.t71, by kernel_rfl, by kernel_rfl⟩⟩
theorem tyOne105 : TyOne Try.prog 105 := ⟨⟨_, Try.underlying105, rfl⟩, ⟨Try.t105, by kernel_rfl, by kernel_rfl⟩⟩
theorem goes59 : Goes Try.prog 59 := ⟨Try.call59⟩
theorem goes57 : Goes Try.prog 57 := ⟨Try.call57⟩
theorem tyZero105 : TyZero Try.prog 105 [.nil] := ⟨⟨Try.t105, _, by kernel_rfl, rfl, rfl⟩⟩
theorem tyZero3 : TyZero Try.prog 3 [.i 0] := ⟨⟨Try.t3, _, by kernel_rfl, rfl, rfl⟩⟩
theorem goes58 : Goes Try.prog 58 := ⟨Try.call58⟩
theorem tySl68 : TySl Try.prog 68 87 4 32 [.i 0, .i 0, .i 0, .i 0] := ⟨Try.underlying68, ⟨Try.t87, _, by kernel_rfl, rfl, rfl, rfl, rfl, by decide, rfl⟩⟩
theorem tyZero37 : TyZero Try.prog 37 [.nil] := ⟨⟨Try.t37, _, by kernel_rfl, rfl, rfl⟩⟩
theorem tySl37 : TySl Try.prog 37 3 1 8 [.i 0] := ⟨Try.underlying37, ⟨Try.t3, _, by kernel_rfl, rfl, rfl, rfl, rfl, by decide, rfl⟩⟩
theorem tyOne37 : TyOne Try.prog 37 := ⟨⟨_, Try.underlying37, rfl⟩, ⟨Try.t37, by kernel_rfl, by kernel_rfl⟩⟩
theorem goes42 : Goes Try.prog 42 := ⟨Try.call42⟩
theorem und68 : Try.prog.underlying 68 = some (.slice 87) := Try.underlying68
theorem tyFld87_3 : TyField Try.prog 87 3 3 3 := ⟨⟨_, _, Try.t3, Try.underlying87, rfl, rfl, rfl, by kernel_rfl, by decide⟩⟩
theorem goes43 : Goes Try.prog 43 := ⟨Try.call43⟩
theorem goes44 : Goes Try.prog 44 := ⟨Try.call44⟩
theorem und37 : Try.prog.underlying 37 = some (.slice 3) := Try.underlying37
theorem tyOne50 : TyOne Try.prog 50 := ⟨⟨_, Try.underlying50, rfl⟩, ⟨Try.t50, by kernel_rfl, by kernel_rfl⟩⟩
theorem tyZero4 : TyZero Try.prog 4 [.bool false] := ⟨⟨Try.t4, _, by kernel_rfl, rfl, rfl⟩⟩
theorem tyZero97 : TyZero Try.prog 97 [.raw .nilFunc] := ⟨⟨Try.t97, _, by kernel_rfl, rfl, rfl⟩⟩
theorem tyOne97 : TyOne Try.prog 97 := ⟨⟨_, Try.underlying97, rfl⟩, ⟨Try.t97, by kernel_rfl, by kernel_rfl⟩⟩
theorem goes50 : Goes Try.prog 50 := ⟨Try.call50⟩
theorem goes31 : Goes Try.prog 31 := ⟨Try.call31⟩
theorem goes10 : Goes Try.prog 10 := ⟨Try.call10⟩
theorem goes24 : Goes Try.prog 24 := ⟨Try.call24⟩
theorem goes32 : Goes Try.prog 32 := ⟨Try.call32⟩
theorem tyAgg35 : TyAgg Try.prog 35 4 := ⟨⟨_, Try.underlying35, rfl⟩, ⟨Try.t35, by kernel_rfl, by kernel_rfl⟩⟩
theorem eqPart35 (x y : Bound) {d : Nat} : EqPart Try.prog (d + 2) 35 4 (eBound x) (eBound y) (decide (x = y)) :=
 (EqPart.struct (d := d + 1) (rs := [decide (x.Lo = y.Lo), decide (x.Hi = y.Hi), x.Below == y.Below, x.Above == y.Above]) tyAgg35 Try.stoodInHeld35 Try.underlying35 (⟨by decide, ⟨_, [.i x.Lo], [.i y.Lo], rfl, rfl, rfl, rfl, EqPart.int tyOne3 Try.underlying3⟩, ⟨by decide, ⟨_, [.i x.Hi], [.i y.Hi], rfl, rfl, rfl, rfl, EqPart.int tyOne3 Try.underlying3⟩, ⟨by decide, ⟨_, [.bool x.Below], [.bool y.Below], rfl, rfl, rfl, rfl, (.bool tyOne4 Try.underlying4)⟩, ⟨by decide, ⟨_, [.bool x.Above], [.bool y.Above], rfl, rfl, rfl, rfl, (.bool tyOne4 Try.underlying4)⟩, trivial⟩⟩⟩⟩) rfl).cast
  (by cases x; cases y; rw [Bool.eq_iff_iff]; simp [Bound.mk.injEq])
theorem eqPart36 (x y : Arr3Bound) {d : Nat} : EqPart Try.prog (d + 3) 36 12 (eArr3Bound x) (eArr3Bound y) (decide (x = y)) :=
 (EqPart.arrS (d := d + 2) (is := [0, 1, 2]) (rs := [decide (x.a0 = y.a0), decide (x.a1 = y.a1), decide (x.a2 = y.a2)]) tyAgg36 Try.underlying36 tyAgg35 rfl (⟨⟨(eBound x.a0), (eBound y.a0), rfl, rfl, rfl, rfl, eqPart35 _ _⟩, ⟨⟨(eBound x.a1), (eBound y.a1), rfl, rfl, rfl, rfl, eqPart35 _ _⟩, ⟨⟨(eBound x.a2), (eBound y.a2), rfl, rfl, rfl, rfl, eqPart35 _ _⟩, trivial⟩⟩⟩) rfl).cast
  (by cases x; cases y; rw [Bool.eq_iff_iff]; simp [Arr3Bound.mk.injEq])
theorem eqAgg36 (x y : Arr3Bound) : EqAgg Try.prog 36 (eArr3Bound x) (eArr3Bound y) (decide (x = y)) := EqAgg.ofPart (by kernel_rfl) tyAgg36 (eqPart36 x y (d := 9997)) rfl rfl
theorem tyAgg52 : TyAgg Try.prog 52 3 := ⟨⟨_, Try.underlying52, rfl⟩, ⟨Try.t52, by kernel_rfl, by kernel_rfl⟩⟩
theorem tyBuild52 : TyBuildA Try.prog 52 1 ((eA3 .i64) A3.zero) := ⟨⟨Try.t52, _, _, _, Try.t3, by kernel_rfl, rfl, rfl, Try.underlying52, by kernel_rfl, by kernel_rfl⟩⟩
theorem eqPart52 (x y : A3) {d : Nat} : EqPart Try.prog (d + 2) 52 3 ((eA3 .i64) x) ((eA3 .i64) y) (decide (x = y)) :=
 (EqPart.arr (l := x.l) (l' := y.l) tyAgg52 Try.underlying52 tyOne3 Try.underlying3).cast (by rw [Bool.eq_iff_iff]; simp [A3.l_inj])
theorem eqAgg52 (x y : A3) : EqAgg Try.prog 52 ((eA3 .i64) x) ((eA3 .i64) y) (decide (x = y)) := EqAgg.ofPart (by kernel_rfl) tyAgg52 (eqPart52 x y (d := 9998)) rfl rfl
theorem goes12 : Goes Try.prog 12 := ⟨Try.call12⟩
theorem goes14 : Goes Try.prog 14 := ⟨Try.call14⟩
theorem goes16 : Goes Try.prog 16 := ⟨Try.call16⟩
theorem goes18 : Goes Try.prog 18 := ⟨Try.call18⟩
theorem tyZero35 : TyZero Try.prog 35 [.i 0, .i 0, .bool false, .bool false] := ⟨⟨Try.t35, _, by kernel_rfl, rfl, rfl⟩⟩
theorem goes8 : Goes Try.prog 8 := ⟨Try.call8⟩
theorem goes9 : Goes Try.prog 9 := ⟨Try.call9⟩
theorem eqAgg35 (x y : Bound) : EqAgg Try.prog 35 (eBound x) (eBound y) (decide (x = y)) := EqAgg.ofPart (by kernel_rfl) tyAgg35 (eqPart35 x y (d := 9998)) rfl rfl
def cntF (now : Int) : Int → List Report → List (Int × Report)
 | _, [] => []
 | i, r :: l => if r.Time ≤ now then (i, r) :: cntF now (i + 1) l else cntF now (i + 1) l
def cnt (l : List Report) (now : Int) : List (Int × Report) := cntF now 0 l
def cArg (p : Int × Report) : List BV := [.one (.i p.1), .agg (eReport p.2)]
theorem cntF_append (now : Int) : ∀ (l l' : List Report) (i : Int), cntF now i (l ++ l') = cntF now i l ++ cntF now (i + l.length) l'
 | [], l', i => by simp [cntF]
 | r :: l, l', i => by
  have e : i + ((r :: l).length : Int) = i + 1 + l.length := by simp; omega
  simp only [List.cons_append, cntF, cntF_append now l l' (i + 1), e]
  split <;> simp
theorem counting_iter {l : List Report} {now : Int} : Iter Try.prog [] 56 [CP.rp [.sl 6 (l.map eReport)], CP.rp [.i now]] ((cnt l now).map cArg) := by
 intro J Jx L hJ hJx hround h W caps hJ0 hcaps
 cases hcaps with
 | @cons _ c1 _ _ g1 hc =>
 cases hc with
 | @cons _ c2 _ _ g2 hc2 =>
 cases hc2
 refine callsIn_wide.1 (callsIn_of_wp (n := 0) (F := Fence.wide) Try.func56 rfl trivial ?_)
 obtain ⟨hs0, hn0⟩ := args_slots (m := 25) (h := h) (ρ := fun _ => .bool false) (args := [.one (.raw (.func (.yield L) #[] #[])), .eptr [.sl 6 (l.map eReport)], .eptr [.i now]]) (vals := [.func (.yield L) #[] #[], c1, c2])
  (.cons ⟨rfl, rfl⟩ (.cons g1 (.cons g2 .nil))) (Nat.le_of_ble_eq_true rfl)
 obtain ⟨hag0, htb0⟩ := (hJ 0).1 h W hJ0
 generalize hQo : bodyPost Try.prog _ _ = Qo
 have hlo : ¬ LetsOut Qo := by
  rw [← hQo]
  rintro ⟨a, w, ⟨v, hv⟩, _⟩
  simp at hv
 have hend : ∀ (e : Exit) (a' : Act) (w' : World), e = .normal ∨ e = .ret → a'.defers = [] → ((∃ h', J ((cnt l now).map cArg).length h' w') ∨ ∃ h', Jx h' w') → Qo e a' w' := by
  intro e a' w' he hd hj
  rw [← hQo]
  have hres : ∀ fn : Func, fn.results = #[] → (results fn a'.tmps).run Try.prog w' = .ok (.tuple #[]) w' := fun fn hf => by
   rw [results_eq, hf]
   simp
  rcases he with rfl | rfl
  ·exact ⟨hd, _, hres _ rfl, ⟨_, rfl⟩, hj⟩
  ·exact ⟨hd, _, hres _ rfl, ⟨_, rfl⟩, hj⟩
 let ρd : RM := fun _ => .bool false
 let SL : Nat → List (Nat × SV) := fun i => [(0, .b (.one (.raw (.func (.yield L) #[] #[])))), (2, .b (.eptr [.i now])), (6, .b (.one (.sl 6 (l.map eReport)))), (7, I (l.length : Int)), (8, I (i : Int))]
 let Inv : Nat → Act → World → Prop := fun m a w => ∃ pre rest h, l = pre ++ rest ∧ rest.length = m ∧ J (cnt pre now).length h w ∧ a.defers = [] ∧ a.tmps.size = 25 ∧ SlotsRel h ρd (SL pre.length) a.tmps
 refine (show TriR Try.prog (⟨W, h, fun _ => .bool false, htb0⟩ : Env []) ⟨25, [], [], []⟩ Fence.wide _ ⟨_, []⟩ Qo from ?_) hlo _ _ (R.fresh htb0 hag0 rfl hn0 hs0)
 refine TriR.seq (TriR.regionL (.inl rfl) (Oc (op_load_e1 tyOne22 rfl rfl) (Oc (op_len_e' und22 rfl (List.length_map _)) (Oc om ?_))))
 refine OpsL.nil (Fin.keep [0, 2, 6, 7, 8] [] (s' := ⟨SL 0, []⟩) rfl ?_)
 rintro a w ⟨hd, hn, h1, ρ1, hw1, hs1⟩
 have hflat : ∀ {h : PH} {ρ : RM} {i : Nat} {tm : Array Value}, SlotsRel h ρ (SL i) tm → SlotsRel h ρd (SL i) tm := fun {h ρ i tm} hs k x hx => by
  obtain ⟨v, hv, hr⟩ := hs k x hx
  refine ⟨v, hv, ?_⟩
  simp only [SL, List.mem_cons, List.not_mem_nil, or_false, Prod.mk.injEq] at hx
  rcases hx with ⟨_, rfl⟩ | ⟨_, rfl⟩ | ⟨_, rfl⟩ | ⟨_, rfl⟩ | ⟨_, rfl⟩ <;> exact hr
 refine wpIn_block (wpIn_loop_rounds (l.length + 1) (loop_left (Inv := Inv) ?_ l.length a w ⟨[], l, h1, rfl, rfl, (hJ 0).2 h W hJ0 htb0 _ _ _ _ _ _ hw1, hd, hn, hflat hs1⟩))
 clear hs1 hw1 hn hd hs0 hn0 hag0 htb0 hJ0
 rintro m a w ⟨pre, rest, h, hl, hm, hj, hd, hn, hs⟩
 obtain ⟨hag, htb⟩ := (hJ _).1 h w hj
 refine (show TriR Try.prog (⟨w, h, ρd, htb⟩ : Env []) ⟨25, [], [], []⟩ Fence.wide _ ⟨SL pre.length, []⟩ _ from ?_) (letsThen (letsBlock hlo)) _ _ (R.fresh htb hag hd hn hs)
 refine TriR.seq (TriR.regionL (.inl rfl) (Oc (op_lss rfl rfl) (OpsL.nil (Fin.thenR ?_ (letsThen (letsBlock hlo))))))
 refine TriR.seq (TriR.cond rfl (fun he => ?_) (fun he => ?_))
 ·refine TriR.skip (Fin.keep [0, 2, 6, 7, 8] [] (s' := ⟨SL pre.length, []⟩) rfl (Fin.thenR ?_ (letsThen (letsBlock hlo))))
  have hlt : pre.length < l.length := by simpa using he
  cases rest with
  | nil => exfalso; rw [hl] at hlt; simp at hlt
  | cons r rest =>
  have e6 : idx? l (pre.length : Int) = some r := by
   unfold idx?
   rw [if_pos ⟨by omega, by omega⟩]
   simp [idx, hl]
  refine TriR.seq (TriR.block (TriR.seq (TriR.regionL (.inl rfl) (Oc om (Oc (op_index_e tySl22 (ix_lo e6) (ix_map (e := eReport) e6) rfl rfl) (Oc (op_load_e tyAgg24 rfl rfl rfl) (Oc (op_alloc (k := 101) tyZero24 rfl) (Oc oa (Oc (op_store_p tyAgg24 rfl rfl rfl rfl (Nat.le_of_ble_eq_true rfl) rfl) ?_)))))))))
  refine OpsL.nil (Fin.keepS ⟨[(0, .b (.one (.raw (.func (.yield L) #[] #[])))), (2, .b (.eptr [.i now])), (4, I (pre.length : Int)), (5, Pt 101 0), (6, .b (.one (.sl 6 (l.map eReport)))), (7, I (l.length : Int)), (8, I (pre.length : Int))], [(101, .box 24 (eReport r))]⟩ rfl (Fin.thenR ?_ (letsBlock (letsThen (letsThen (letsBlock hlo))))))
  refine TriR.seq (TriR.regionI (.inl rfl) (OpsI.cons (.inl rfl) rfl (op_field_p tyFld24_5 rfl rfl) (OpsI.cons (.inl rfl) rfl (op_load_p1 tyOne3 rfl rfl rfl) (OpsI.cons (.inl rfl) rfl (op_load_e1 tyOne3 rfl rfl) (OpsI.cons (.inl rfl) rfl (op_leq rfl rfl) ?_)))))
  refine OpsI.cons (.inl rfl) rfl om ?_
  have hsplit : cnt (pre ++ [r]) now = if r.Time ≤ now then cnt pre now ++ [((pre.length : Int), r)] else cnt pre now := by
   unfold cnt
   rw [cntF_append]
   simp only [cntF]
   split <;> simp
  have hall : cnt l now = cnt (pre ++ [r]) now ++ cntF now ((pre.length : Int) + 1) rest := by
   have : l = (pre ++ [r]) ++ rest := by rw [hl]; simp
   rw [this]
   unfold cnt
   rw [cntF_append now (pre ++ [r]) rest 0]
   simp
  -- what follows a round
  have next : ∀ {E : Env []} {h' : PH} {a' : Act} {w' : World}, J (cnt (pre ++ [r]) now).length h' w' → a'.defers = [] → a'.tmps.size = 25 → SlotsRel h' ρd (SL (pre.length + 1)) a'.tmps → Exit.then (fun a w => ∃ m', m = m' + 1 ∧ Inv m' a w) (Exit.inBlock 0 Qo) .normal a' w' := fun {E h' a' w'} g1 g2 g3 g4 =>
   ⟨rest.length, by rw [← hm]; rfl, pre ++ [r], rest, h', by rw [hl]; simp, rfl, g1, g2, g3, by simpa using g4⟩
  have hin : inR .i64 ((pre.length : Int) + 1) := by
   obtain ⟨_, _, hf⟩ := (ev_rel (s := ⟨SL pre.length, []⟩) hs (o := .tmp 6) rfl : (CP.sl 6 (l.map eReport)).rel h _)
   rcases hf with ⟨_, e⟩ | ⟨_, _, c, _, e1, e2, _⟩
   ·have : l = [] := by simpa using e
    rw [this] at hlt; simp at hlt
   ·rw [List.length_map] at e1
    rw [maxLen_eq] at e2
    exact inR_i64 (by omega) (by omega)
  by_cases ht : r.Time ≤ now
  ·-- it counts: yield
   refine OpsI.consT (.inl rfl) (.plain rfl) (by simpa using ht) rfl rfl om (OpsI.consT (.inl rfl) (.plain rfl) (by simpa using ht) rfl rfl om (OpsI.consT (.inl rfl) (.plain rfl) (by simpa using ht) rfl rfl (lp tyAgg24) (OpsI.keep [0, 2, 6, 7, 8, 17, 18, 19, 20] [] (s' := ⟨SL pre.length ++ [(17, B (decide (r.Time ≤ now))), (18, .b (.one (.raw (.func (.yield L) #[] #[])))), (19, I (pre.length : Int)), (20, .b (.agg (eReport r)))], []⟩) rfl (OpsI.stepT (.plain (t := 17) rfl) (by simpa using ht) rfl rfl ?_))))
   intro a1 w1 hr1
   obtain ⟨hd1, hn1, h2, ρ2, hw2, hs2⟩ := hr1
   have hj2 := (hJ _).2 h w hj htb _ _ _ _ _ _ hw2
   have hx18 : a1.eval (.tmp 18) = .func (.yield L) #[] #[] := (ev_rel hs2 (o := .tmp 18) rfl : (CP.raw _).rel h2 _).1
   have hx19 := (ev_rel hs2 (o := .tmp 19) (x := I (pre.length : Int)) rfl : (CP.i _).rel h2 _)
   have hx20 := (ev_rel hs2 (o := .tmp 20) (x := .b (.agg (eReport r))) rfl : BV.rel h2 ρ2 (.agg (eReport r)) _)
   refine oper_yield (vals := [a1.eval (.tmp 19), a1.eval (.tmp 20)].toArray) rfl ((yield_run hx18).trans (by simp)) (hround (cnt pre now).length (cArg ((pre.length : Int), r)) h2 w1 _ ?_ hj2 ?_) ?_
   ·rw [List.getElem?_map, hall, hsplit, if_pos ht]
    simp
   ·exact .cons (fun _ => hx19) (.cons (fun _ => hx20) .nil)
   ·intro e w3 he
    have hlen : (cnt (pre ++ [r]) now).length = (cnt pre now).length + 1 := by rw [hsplit, if_pos ht]; simp
    obtain ⟨b, h3, rfl, hle, hjj⟩ : ∃ (b : Bool) (h3 : PH), e = .returned (.bool b) ∧ h2.le h3 ∧ (if b = true then J (cnt (pre ++ [r]) now).length h3 w3 else Jx h3 w3) := by
     rcases he with ⟨rfl, h3, g1, g2⟩ | ⟨rfl, h3, g1, g2⟩
     ·exact ⟨true, h3, rfl, g1, by rw [hlen]; simpa using g2⟩
     ·exact ⟨false, h3, rfl, g1, by simpa using g2⟩
    have hag3 : Agree h3 w3 ∧ TabsOk [] h3 w3 := by
     cases b
     ·exact hJx.1 _ _ (by simpa using hjj)
     ·exact (hJ _).1 _ _ (by simpa using hjj)
    refine ⟨_, rfl, ?_⟩
    have hs3 : SlotsRel h3 ρ2 ((21, B b) :: (SL pre.length ++ [(17, B (decide (r.Time ≤ now)))])) (a1.put (some 21) (.bool b)).tmps := by
     refine SlotsRel.set (h := h3) (ρ := ρ2) (slots := SL pre.length ++ [(17, B (decide (r.Time ≤ now)))]) (tmps := a1.tmps) (n := 25) (d := 21) (x := B b) (v := .bool b) (fun k x hx => ?_) hn1 (by decide) rfl
     refine (hs2.mono hle) k x ?_
     simp only [List.mem_append, List.mem_cons, List.not_mem_nil, or_false] at hx ⊢
     rcases hx with hx | hx
     ·exact .inl hx
     ·exact .inr (.inl hx)
    have hr3 : R (⟨w3, h3, ρ2, hag3.2⟩ : Env []) ⟨25, [], [], []⟩ ⟨(21, B b) :: (SL pre.length ++ [(17, B (decide (r.Time ≤ now)))]), []⟩ (a1.put (some 21) (.bool b)) w3 := R.fresh hag3.2 hag3.1 hd1 (by simpa [Act.put] using hn1) hs3
    revert hr3
    generalize a1.put (some 21) (.bool b) = a3
    intro hr3
    refine (show OpsI Try.prog (⟨w3, h3, ρ2, hag3.2⟩ : Env []) ⟨25, [], [], []⟩ Fence.wide _ _ ⟨(21, B b) :: (SL pre.length ++ [(17, B (decide (r.Time ≤ now)))]), []⟩ _ from ?_) a3 w3 hr3
    refine OpsI.consT (.inl rfl) (.plain (t := 17) rfl) (by simpa using ht) rfl rfl (op_not rfl) (OpsI.opt 22 rfl (OpsI.cons (.inl rfl) rfl (op_pick_and (fun _ => rfl) rfl rfl rfl) (OpsI.nil (Fin.keep [0, 2, 6, 7, 8, 23] [] (s' := ⟨SL pre.length ++ [(23, B (decide (r.Time ≤ now) && !b))], []⟩) rfl (Fin.thenR ?_ (letsBlock (letsThen (letsThen (letsBlock hlo)))))))))
    refine TriR.cond rfl (fun he => ?_) (fun he => ?_)
    ·refine TriR.ret (Fin.block_ret (Fin.then_ret (Fin.then_ret (Fin.block_ret ?_))))
     rintro a' w' ⟨hd', _, h', ρ', hw', _⟩
     have hb : b = false := by simpa [ht] using he
     subst hb
     exact hend _ _ _ (.inr rfl) hd' (.inr ⟨h', hJx.2 h3 w3 (by simpa using hjj) hag3.2 _ _ _ _ _ _ hw'⟩)
    ·refine TriR.skip (Fin.keep [0, 2, 6, 7, 8] [] (s' := ⟨SL pre.length, []⟩) rfl (Fin.block_normal (Fin.thenR ?_ (letsThen (letsBlock hlo)))))
     refine TriR.regionL (.inl rfl) (Oc (op_add' (k := .i64) hin rfl rfl) (Oc om ?_))
     refine OpsL.nil (Fin.keep [0, 2, 6, 7, 8] [] (s' := ⟨SL (pre.length + 1), []⟩) rfl ?_)
     rintro a' w' ⟨hd', hn', h', ρ', hw', hs'⟩
     have hb : b = true := by simpa [ht] using he
     subst hb
     exact next (E := ⟨w3, h3, ρ2, hag3.2⟩) ((hJ _).2 h3 w3 (by simpa using hjj) hag3.2 _ _ _ _ _ _ hw') hd' hn' (hflat hs')
  ·refine OpsI.consF (.plain (t := 17) rfl) (by simpa using ht) rfl rfl (.one .any) (OpsI.consF (.plain (t := 17) rfl) (by simpa using ht) rfl rfl (.one .any) (OpsI.consF (.plain (t := 17) rfl) (by simpa using ht) rfl rfl (.one .any) (OpsI.consF (.plain (t := 17) rfl) (by simpa using ht) rfl rfl (.one .any) (OpsI.consF (.plain (t := 17) rfl) (by simpa using ht) rfl rfl (.one (.bool true)) (OpsI.cons (.inl rfl) rfl (op_pick_and (fun e => absurd (by simpa using e) ht) rfl rfl rfl) ?_)))))
   refine OpsI.nil (Fin.keep [0, 2, 6, 7, 8, 23] [] (s' := ⟨SL pre.length ++ [(23, B (decide (r.Time ≤ now) && true))], []⟩) rfl (Fin.thenR ?_ (letsBlock (letsThen (letsThen (letsBlock hlo))))))
   refine TriR.cond rfl (fun he => absurd (by simpa using he) ht) (fun he => ?_)
   refine TriR.skip (Fin.keep [0, 2, 6, 7, 8] [] (s' := ⟨SL pre.length, []⟩) rfl (Fin.block_normal (Fin.thenR ?_ (letsThen (letsBlock hlo)))))
   refine TriR.regionL (.inl rfl) (Oc (op_add' (k := .i64) hin rfl rfl) (Oc om ?_))
   refine OpsL.nil (Fin.keep [0, 2, 6, 7, 8] [] (s' := ⟨SL (pre.length + 1), []⟩) rfl ?_)
   rintro a' w' ⟨hd', hn', h', ρ', hw', hs'⟩
   refine next (E := ⟨w, h, ρd, htb⟩) ?_ hd' hn' (hflat hs')
   rw [hsplit, if_neg ht]
   exact (hJ _).2 h w hj htb _ _ _ _ _ _ hw'
 ·refine TriR.exit (Fin.then_exit (Fin.then_exit (Fin.block_exit ?_)))
  rintro a' w' ⟨hd', _, h', ρ', hw', _⟩
  refine hend _ _ _ (.inl rfl) hd' (.inl ⟨h', ?_⟩)
  have hnl : ¬ pre.length < l.length := by simpa using he
  cases rest with
  | nil =>
   have : l = pre := by simpa using hl
   rw [List.length_map, this]
   exact (hJ _).2 h w hj htb _ _ _ _ _ _ hw'
  | cons r rest => exfalso; rw [hl] at hnl; simp at hnl
theorem counting_spec {l : List Report} {now : Int} : Meets Try.prog [] 41 [] [.one (.sl 6 (l.map eReport)), .one (.i now)] (Is [] (.b (.one (.cloP 56 [CP.rp [.sl 6 (l.map eReport)], CP.rp [.i now]])))) := by
 refine Meets.intro 6 Try.func41 Try.ntmps41 rfl (by simp) fun E => ?_
 show Tri _ E ⟨6, [], [], []⟩ _ ⟨[(0, .b (.one (.sl 6 (l.map eReport)))), (1, I now)], []⟩ _
 refine Tri.seq (Tri.regionL ?_)
 refine Oc (op_boxR rfl) (Oc (op_boxR rfl) (Oc oa ?_))
 refine OpsL.nilS ⟨[(2, .b (.eptr [.sl 6 (l.map eReport)])), (3, .b (.eptr [.i now]))], []⟩ rfl (Tri.seq (Tri.regionL ?_))
 refine Oc (op_makeFuncP rfl) (Oc oa ?_)
 refine OpsL.nilS ⟨[(4, .b (.one (.cloP 56 [CP.rp [.sl 6 (l.map eReport)], CP.rp [.i now]])))], []⟩ rfl (Tri.ret ?_)
 exact Fin.result' [.one (.cloP 56 [CP.rp [.sl 6 (l.map eReport)], CP.rp [.i now]])] (.inl rfl) rfl (.cons (.tmp rfl) .nil) ⟨rfl, rfl⟩
def slices_Sort_S (F : Nat) (zs : List Int) : Option (List Int) := sortI? zs
theorem slices_Sort_spec {F : Nat} {zs r : List Int} (h : slices_Sort_S F zs = some r) : Meets Try.prog [] 43 [(1, .frow 3 1 (zs.map eI))] [.row 1] (Is [(1, .frow 3 1 (r.map eI))] (.tup [])) := meets_SortI Try.lays189 h
def slices_Compact_S (F : Nat) (zs : List Int) : Option (List Int) := compactI? zs
theorem slices_Compact_spec {F : Nat} {zs r : List Int} (h : slices_Compact_S F zs = some r) : Meets Try.prog [] 44 [(1, .row 3 1 (zs.map eI))] [.row 1] (Is [(1, .row 3 1 (r.map eI))] (.b (.row 1))) := meets_CompactI Try.lays2_20 h
def sensor_valid_1_S (F : Nat) (n0 : Int) : Option Bool :=
 some ((decide (0 ≤ n0)) && (decide (n0 ≤ 400)))
theorem sensor_valid_1_spec {F : Nat} {n0 : Int} {r : Bool} (h : sensor_valid_1_S F n0 = some r) : Meets Try.prog [] 63 [] [.one (.i n0)] (Is [] (.b (.one (.bool r)))) := by
 unfold sensor_valid_1_S at h
 refine Meets.intro 9 Try.func63 Try.ntmps63 rfl (by simp) fun E => ?_
 show Tri _ E ⟨9, [], [], []⟩ _ ⟨[(0, I n0)], []⟩ _
 refine Tri.seq (Tri.regionL ?_)
 refine Oc oa (OpsL.nilS ⟨[(0, I n0)], []⟩ rfl (Tri.seq (Tri.regionL ?_)))
 refine Oc om (Oc (op_geq rfl rfl) (Oc om ?_))
 refine CgT (decide (0 ≤ n0)) [] (fun g1 => trivial) (fun g1 => om) (CgT (decide (0 ≤ n0)) [6] (fun g2 => by exact ⟨g2, trivial⟩) (fun g2 => op_leq rfl rfl) (Oc (op_pick_and (fun e => e) rfl rfl rfl rfl) (Oc oa ?_)))
 refine OpsL.nilS ⟨[(2, B ((decide (0 ≤ n0)) && (decide (n0 ≤ 400))))], []⟩ rfl (Tri.ret ?_)
 obtain rfl := Option.some.inj h
 refine Fin.keepS ⟨[(2, _)], []⟩ rfl (Fin.result' [.one (.bool ((decide (0 ≤ n0)) && (decide (n0 ≤ 400))))] (.inl rfl) rfl (.cons (.tmp rfl) .nil) ⟨rfl, rfl⟩)
def sensor_valid_2_S (F : Nat) (n0 : Int) : Option Bool :=
 letN ((decide (n0 ≤ 1099511627776)) && (decide ((-1099511627776) ≤ n0))) fun x_1 => some x_1
theorem sensor_valid_2_spec {F : Nat} {n0 : Int} {r : Bool} (h : sensor_valid_2_S F n0 = some r) : Meets Try.prog [] 64 [] [.one (.i n0)] (Is [] (.b (.one (.bool r)))) := by
 unfold sensor_valid_2_S at h
 refine Meets.intro 9 Try.func64 Try.ntmps64 rfl (by simp) fun E => ?_
 show Tri _ E ⟨9, [], [], []⟩ _ ⟨[(0, I n0)], []⟩ _
 refine Tri.seq (Tri.regionL ?_)
 refine Oc oa (OpsL.nilS ⟨[(0, I n0)], []⟩ rfl (Tri.seq (Tri.regionL ?_)))
 refine Oc om (Oc (op_leq rfl rfl) (Oc om ?_))
 refine CgT (decide (n0 ≤ 1099511627776)) [] (fun g1 => trivial) (fun g1 => om) (CgT (decide (n0 ≤ 1099511627776)) [6] (fun g2 => by exact ⟨g2, trivial⟩) (fun g2 => op_geq rfl rfl) (OpsL.consB h rfl (op_pick_and (fun e => e) rfl rfl rfl rfl) (fun x_1 h => ?_)))
 refine Oc oa (OpsL.nilS ⟨[(2, B x_1)], []⟩ rfl (Tri.ret ?_))
 obtain rfl := Option.some.inj h
 refine Fin.keepS ⟨[(2, _)], []⟩ rfl (Fin.result' [.one (.bool x_1)] (.inl rfl) rfl (.cons (.tmp rfl) .nil) ⟨rfl, rfl⟩)
def sensor_valid_S (F : Nat) (r0 : Report) : Option Bool :=
 (sensor_valid_1_S F r0.A).bind fun x_1 => (gcall x_1 (sensor_valid_1_S F r0.B)).bind fun x_2 => letN (((x_1 && x_2) && (decide (r0.A ≠ r0.B))) && (decide (0 ≤ r0.Axis))) fun x_3 => (gcall (x_3 && (decide (r0.Axis ≤ 2))) (sensor_valid_2_S F r0.Lo)).bind fun x_4 => (gcall ((x_3 && (decide (r0.Axis ≤ 2))) && x_4) (sensor_valid_2_S F r0.Hi)).bind fun x_5 => letN ((((x_3 && (decide (r0.Axis ≤ 2))) && x_4) && x_5) && (decide (0 ≤ r0.Time))) fun x_6 => some x_6
theorem sensor_valid_spec {F : Nat} {r0 : Report} {r : Bool} (h : sensor_valid_S F r0 = some r) : Meets Try.prog [] 47 [] [.agg (eReport r0)] (Is [] (.b (.one (.bool r)))) := by
 unfold sensor_valid_S at h
 refine Meets.intro 49 Try.func47 Try.ntmps47 rfl (by simp) fun E => ?_
 show Tri _ E ⟨49, [], [], []⟩ _ ⟨[(0, .b (.agg (eReport r0)))], []⟩ _
 refine Tri.seq (Tri.regionL ?_)
 refine Oc (op_box (k := 101) rfl rfl) (Oc oa ?_)
 refine OpsL.nilS ⟨[(1, Pt 101 0)], [(101, .box 24 (eReport r0))]⟩ rfl (Tri.seq (Tri.regionL ?_))
 refine Oc oa (OpsL.nilS ⟨[(1, _), (3, .b (.one (.raw (.func (.func 63) #[] #[]))))], [(101, _)]⟩ rfl (Tri.seq (Tri.regionL ?_)))
 refine Oc oa (OpsL.nilS ⟨[(1, _), (3, _), (4, .b (.one (.raw (.func (.func 64) #[] #[]))))], [(101, _)]⟩ rfl (Tri.seq (Tri.regionL ?_)))
 refine Oc om (Oc (op_field_p tyFld24_0 rfl rfl) (Oc (op_load_p1 tyOne3 rfl rfl rfl) ?_))
 obtain ⟨x_1, e1, h⟩ := bnd h
 refine Oc (op_callv0 (sensor_valid_1_spec e1) goes63 rfl rfl rfl) (Oc om ?_)
 refine OpsL.keepS ⟨[(1, _), (3, _), (4, _), (9, B x_1)], [(101, _)]⟩ rfl (CgT x_1 [] (fun g2 => trivial) (fun g2 => om) (CgT x_1 [] (fun g3 => by exact trivial) (fun g3 => op_field_p tyFld24_1 rfl rfl) (CgT x_1 [11] (fun g4 => by exact ⟨g4, trivial⟩) (fun g4 => op_load_p1 tyOne3 rfl rfl rfl) ?_)))
 obtain ⟨x_2, e6, h⟩ := bnd h
 refine CgT x_1 [10, 12] (fun g5 => ⟨g5, g5, trivial⟩) (fun g5 => op_callv0 (sensor_valid_1_spec (gc e6 g5)) goes63 rfl rfl rfl) (Oc (op_pick_and (fun e => e) rfl rfl rfl rfl) (Oc om ?_))
 refine OpsL.keepS ⟨[(1, _), (4, _), (15, B (x_1 && x_2))], [(101, _)]⟩ rfl (CgT (x_1 && x_2) [] (fun g7 => trivial) (fun g7 => op_field_p tyFld24_0 rfl rfl) (CgT (x_1 && x_2) [16] (fun g8 => ⟨g8, trivial⟩) (fun g8 => op_load_p1 tyOne3 rfl rfl rfl) (CgT (x_1 && x_2) [] (fun g9 => trivial) (fun g9 => op_field_p tyFld24_1 rfl rfl) (CgT (x_1 && x_2) [18] (fun g10 => ⟨g10, trivial⟩) (fun g10 => op_load_p1 tyOne3 rfl rfl rfl) (CgT (x_1 && x_2) [17, 19] (fun g11 => ⟨g11, g11, trivial⟩) (fun g11 => op_neq rfl rfl) ?_)))))
 refine Oc (op_pick_and (fun e => e) rfl rfl rfl rfl) (Oc om ?_)
 refine CgT ((x_1 && x_2) && (decide (r0.A ≠ r0.B))) [] (fun g12 => trivial) (fun g12 => op_field_p tyFld24_2 rfl rfl) (OpsL.keepS ⟨[(1, _), (4, _), (22, B ((x_1 && x_2) && (decide (r0.A ≠ r0.B)))), (23, .opt ((x_1 && x_2) && (decide (r0.A ≠ r0.B))) (.ptr 101 2))], [(101, _)]⟩ rfl (CgT ((x_1 && x_2) && (decide (r0.A ≠ r0.B))) [23] (fun g13 => ⟨g13, trivial⟩) (fun g13 => op_load_p1 tyOne3 rfl rfl rfl) (CgT ((x_1 && x_2) && (decide (r0.A ≠ r0.B))) [24] (fun g14 => ⟨g14, trivial⟩) (fun g14 => op_geq rfl rfl) (OpsL.consB h rfl (op_pick_and (fun e => e) rfl rfl rfl rfl) (fun x_3 h => ?_)))))
 refine Oc om (CgT x_3 [] (fun g15 => by exact trivial) (fun g15 => op_field_p tyFld24_2 rfl rfl) (CgT x_3 [28] (fun g16 => by exact ⟨g16, trivial⟩) (fun g16 => op_load_p1 tyOne3 rfl rfl rfl) (CgT x_3 [29] (fun g17 => by exact ⟨g17, trivial⟩) (fun g17 => op_leq rfl rfl) (Oc (op_pick_and (fun e => e) rfl rfl rfl rfl) (OpsL.keepS ⟨[(1, _), (4, _), (31, B (x_3 && (decide (r0.Axis ≤ 2))))], [(101, _)]⟩ rfl ?_)))))
 refine Oc om (CgT (x_3 && (decide (r0.Axis ≤ 2))) [] (fun g18 => by exact trivial) (fun g18 => om) (CgT (x_3 && (decide (r0.Axis ≤ 2))) [] (fun g19 => by exact trivial) (fun g19 => op_field_p tyFld24_3 rfl rfl) (CgT (x_3 && (decide (r0.Axis ≤ 2))) [34] (fun g20 => by exact ⟨g20, trivial⟩) (fun g20 => op_load_p1 tyOne3 rfl rfl rfl) ?_)))
 obtain ⟨x_4, e22, h⟩ := bnd h
 refine CgT (x_3 && (decide (r0.Axis ≤ 2))) [33, 35] (fun g21 => ⟨g21, g21, trivial⟩) (fun g21 => op_callv0 (sensor_valid_2_spec (gc e22 g21)) goes64 rfl rfl rfl) (Oc (op_pick_and (fun e => e) rfl rfl rfl rfl) (OpsL.keepS ⟨[(1, _), (4, _), (37, B ((x_3 && (decide (r0.Axis ≤ 2))) && x_4))], [(101, _)]⟩ rfl (Oc om (CgT ((x_3 && (decide (r0.Axis ≤ 2))) && x_4) [] (fun g23 => by exact trivial) (fun g23 => om) (CgT ((x_3 && (decide (r0.Axis ≤ 2))) && x_4) [] (fun g24 => by exact trivial) (fun g24 => op_field_p tyFld24_4 rfl rfl) ?_)))))
 refine CgT ((x_3 && (decide (r0.Axis ≤ 2))) && x_4) [40] (fun g25 => ⟨g25, trivial⟩) (fun g25 => op_load_p1 tyOne3 rfl rfl rfl) ?_
 obtain ⟨x_5, e27, h⟩ := bnd h
 refine CgT ((x_3 && (decide (r0.Axis ≤ 2))) && x_4) [39, 41] (fun g26 => ⟨g26, g26, trivial⟩) (fun g26 => op_callv0 (sensor_valid_2_spec (gc e27 g26)) goes64 rfl rfl rfl) (Oc (op_pick_and (fun e => e) rfl rfl rfl rfl) (OpsL.keepS ⟨[(1, _), (43, B (((x_3 && (decide (r0.Axis ≤ 2))) && x_4) && x_5))], [(101, _)]⟩ rfl (Oc om (CgT (((x_3 && (decide (r0.Axis ≤ 2))) && x_4) && x_5) [] (fun g28 => by exact trivial) (fun g28 => op_field_p tyFld24_5 rfl rfl) (CgT (((x_3 && (decide (r0.Axis ≤ 2))) && x_4) && x_5) [45] (fun g29 => by exact ⟨g29, trivial⟩) (fun g29 => op_load_p1 tyOne3 rfl rfl rfl) ?_)))))
 refine CgT (((x_3 && (decide (r0.Axis ≤ 2))) && x_4) && x_5) [46] (fun g30 => ⟨g30, trivial⟩) (fun g30 => op_geq rfl rfl) (OpsL.consB h rfl (op_pick_and (fun e => e) rfl rfl rfl rfl) (fun x_6 h => ?_))
 refine Oc oa (OpsL.nilS ⟨[(2, B x_6)], []⟩ rfl (Tri.ret ?_))
 obtain rfl := Option.some.inj h
 refine Fin.keepS ⟨[(2, _)], []⟩ rfl (Fin.result' [.one (.bool x_6)] (.inl rfl) rfl (.cons (.tmp rfl) .nil) ⟨rfl, rfl⟩)
def skewbackref39_within_S (F : Nat) (n0 : Int) : Option Bool :=
 letN ((decide (n0 ≤ 1099511627776)) && (decide ((-1099511627776) ≤ n0))) fun x_1 => some x_1
theorem skewbackref39_within_spec {F : Nat} {n0 : Int} {r : Bool} (h : skewbackref39_within_S F n0 = some r) : Meets Try.prog [] 65 [] [.one (.i n0)] (Is [] (.b (.one (.bool r)))) := by
 unfold skewbackref39_within_S at h
 refine Meets.intro 9 Try.func65 Try.ntmps65 rfl (by simp) fun E => ?_
 show Tri _ E ⟨9, [], [], []⟩ _ ⟨[(0, I n0)], []⟩ _
 refine Tri.seq (Tri.regionL ?_)
 refine Oc oa (OpsL.nilS ⟨[(0, I n0)], []⟩ rfl (Tri.seq (Tri.regionL ?_)))
 refine Oc om (Oc (op_leq rfl rfl) (Oc om ?_))
 refine CgT (decide (n0 ≤ 1099511627776)) [] (fun g1 => trivial) (fun g1 => om) (CgT (decide (n0 ≤ 1099511627776)) [6] (fun g2 => by exact ⟨g2, trivial⟩) (fun g2 => op_geq rfl rfl) (OpsL.consB h rfl (op_pick_and (fun e => e) rfl rfl rfl rfl) (fun x_1 h => ?_)))
 refine Oc oa (OpsL.nilS ⟨[(2, B x_1)], []⟩ rfl (Tri.ret ?_))
 obtain rfl := Option.some.inj h
 refine Fin.keepS ⟨[(2, _)], []⟩ rfl (Fin.result' [.one (.bool x_1)] (.inl rfl) rfl (.cons (.tmp rfl) .nil) ⟨rfl, rfl⟩)
def skewbackref39_Valid_S (F : Nat) (r0 : Report) : Option Bool :=
 letN (((decide (r0.A < 0)) || (decide (400 < r0.A))) || (decide (r0.B < 0))) fun x_1 => letN (((x_1 || (decide (400 < r0.B))) || (decide (r0.A = r0.B))) || (decide (r0.Axis < 0))) fun x_2 => if (x_2 || (decide (2 < r0.Axis))) = true then (some false) else ((skewbackref39_within_S F r0.Lo).bind fun x_3 => (gcall x_3 (skewbackref39_within_S F r0.Hi)).bind fun x_4 => some ((x_3 && x_4) && (decide (0 ≤ r0.Time))))
theorem skewbackref39_Valid_spec {F : Nat} {r0 : Report} {r : Bool} (h : skewbackref39_Valid_S F r0 = some r) : Meets Try.prog [] 48 [] [.agg (eReport r0)] (Is [] (.b (.one (.bool r)))) := by
 unfold skewbackref39_Valid_S at h
 refine Meets.intro 51 Try.func48 Try.ntmps48 rfl (by simp) fun E => ?_
 show Tri _ E ⟨51, [], [], []⟩ _ ⟨[(0, .b (.agg (eReport r0)))], []⟩ _
 refine Tri.seq (Tri.regionL ?_)
 refine Oc (op_box (k := 101) rfl rfl) (Oc oa ?_)
 refine OpsL.nilS ⟨[(1, Pt 101 0)], [(101, .box 24 (eReport r0))]⟩ rfl (Tri.seq (Tri.seq (Tri.regionL ?_)))
 refine Oc (op_field_p tyFld24_0 rfl rfl) (Oc (op_load_p1 tyOne3 rfl rfl rfl) (Oc (op_lss rfl rfl) (Oc om ?_)))
 refine CgF (!(decide (r0.A < 0))) [] (fun g1 => trivial) (fun g1 => op_field_p tyFld24_0 rfl rfl) (CgF (!(decide (r0.A < 0))) [7] (fun g2 => ⟨g2, trivial⟩) (fun g2 => op_load_p1 tyOne3 rfl rfl rfl) (CgF (!(decide (r0.A < 0))) [8] (fun g3 => ⟨g3, trivial⟩) (fun g3 => op_gtr rfl rfl) (OpsL.keepS ⟨[(1, _), (6, B (decide (r0.A < 0))), (9, .opt (!(decide (r0.A < 0))) (.one (.bool (decide (400 < r0.A)))))], [(101, _)]⟩ rfl (Oc (op_pick_or (fun e => by rw [e]; rfl) rfl rfl rfl rfl) (Oc om ?_)))))
 refine CgF (!((decide (r0.A < 0)) || (decide (400 < r0.A)))) [] (fun g4 => trivial) (fun g4 => op_field_p tyFld24_1 rfl rfl) (CgF (!((decide (r0.A < 0)) || (decide (400 < r0.A)))) [12] (fun g5 => ⟨g5, trivial⟩) (fun g5 => op_load_p1 tyOne3 rfl rfl rfl) (CgF (!((decide (r0.A < 0)) || (decide (400 < r0.A)))) [13] (fun g6 => ⟨g6, trivial⟩) (fun g6 => op_lss rfl rfl) (OpsL.consB h rfl (op_pick_or (fun e => by rw [e]; rfl) rfl rfl rfl rfl) (fun x_1 h => ?_))))
 refine Oc om (CgF (!x_1) [] (fun g7 => by exact trivial) (fun g7 => op_field_p tyFld24_1 rfl rfl) (OpsL.keepS ⟨[(1, _), (16, B x_1), (17, .opt (!x_1) (.ptr 101 1))], [(101, _)]⟩ rfl (CgF (!x_1) [17] (fun g8 => by exact ⟨g8, trivial⟩) (fun g8 => op_load_p1 tyOne3 rfl rfl rfl) (CgF (!x_1) [18] (fun g9 => by exact ⟨g9, trivial⟩) (fun g9 => op_gtr rfl rfl) (Oc (op_pick_or (fun e => by rw [e]; rfl) rfl rfl rfl rfl) (Oc om ?_))))))
 refine CgF (!(x_1 || (decide (400 < r0.B)))) [] (fun g10 => trivial) (fun g10 => op_field_p tyFld24_0 rfl rfl) (CgF (!(x_1 || (decide (400 < r0.B)))) [22] (fun g11 => ⟨g11, trivial⟩) (fun g11 => op_load_p1 tyOne3 rfl rfl rfl) (CgF (!(x_1 || (decide (400 < r0.B)))) [] (fun g12 => trivial) (fun g12 => op_field_p tyFld24_1 rfl rfl) (CgF (!(x_1 || (decide (400 < r0.B)))) [24] (fun g13 => ⟨g13, trivial⟩) (fun g13 => op_load_p1 tyOne3 rfl rfl rfl) (OpsL.keepS ⟨[(1, _), (21, B (x_1 || (decide (400 < r0.B)))), (23, .opt (!(x_1 || (decide (400 < r0.B)))) (.one (.i r0.A))), (25, .opt (!(x_1 || (decide (400 < r0.B)))) (.one (.i r0.B)))], [(101, _)]⟩ rfl (CgF (!(x_1 || (decide (400 < r0.B)))) [23, 25] (fun g14 => ⟨g14, g14, trivial⟩) (fun g14 => op_eql rfl rfl) ?_)))))
 refine Oc (op_pick_or (fun e => by rw [e]; rfl) rfl rfl rfl rfl) (Oc om ?_)
 refine CgF (!((x_1 || (decide (400 < r0.B))) || (decide (r0.A = r0.B)))) [] (fun g15 => trivial) (fun g15 => op_field_p tyFld24_2 rfl rfl) (CgF (!((x_1 || (decide (400 < r0.B))) || (decide (r0.A = r0.B)))) [29] (fun g16 => ⟨g16, trivial⟩) (fun g16 => op_load_p1 tyOne3 rfl rfl rfl) (CgF (!((x_1 || (decide (400 < r0.B))) || (decide (r0.A = r0.B)))) [30] (fun g17 => ⟨g17, trivial⟩) (fun g17 => op_lss rfl rfl) (OpsL.consB h rfl (op_pick_or (fun e => by rw [e]; rfl) rfl rfl rfl rfl) (fun x_2 h => ?_))))
 refine Oc om (OpsL.keepS ⟨[(1, _), (33, B x_2)], [(101, _)]⟩ rfl (CgF (!x_2) [] (fun g18 => by exact trivial) (fun g18 => op_field_p tyFld24_2 rfl rfl) (CgF (!x_2) [34] (fun g19 => by exact ⟨g19, trivial⟩) (fun g19 => op_load_p1 tyOne3 rfl rfl rfl) (CgF (!x_2) [35] (fun g20 => by exact ⟨g20, trivial⟩) (fun g20 => op_gtr rfl rfl) (Oc (op_pick_or (fun e => by rw [e]; rfl) rfl rfl rfl rfl) ?_)))))
 refine OpsL.nilS ⟨[(1, _), (37, B (x_2 || (decide (2 < r0.Axis))))], [(101, _)]⟩ rfl (Tri.ite h rfl (fun _ h => ?_) (fun _ h => ?_))
 ·refine Tri.seq (Tri.regionL ?_)
  refine Oc oa (OpsL.nilS ⟨[(2, B false)], []⟩ rfl (Tri.ret (Fin.then_ret ?_)))
  obtain rfl := Option.some.inj h
  refine Fin.keepS ⟨[(2, _)], []⟩ rfl (Fin.result' [.one (.bool false)] (.inl rfl) rfl (.cons (.tmp rfl) .nil) ⟨rfl, rfl⟩)
 ·refine Tri.skip (Fin.keepS ⟨[(1, _)], [(101, _)]⟩ rfl (Fin.then (Tri.seq (Tri.regionL ?_))))
  refine Oc (op_field_p tyFld24_3 rfl rfl) (Oc (op_load_p1 tyOne3 rfl rfl rfl) ?_)
  obtain ⟨x_3, e21, h⟩ := bnd h
  refine Oc (op_call0 (skewbackref39_within_spec e21) goes65 rfl rfl) (Oc om ?_)
  refine CgT x_3 [] (fun g22 => trivial) (fun g22 => op_field_p tyFld24_4 rfl rfl) (OpsL.keepS ⟨[(1, _), (41, B x_3), (42, .opt x_3 (.ptr 101 4))], [(101, _)]⟩ rfl (CgT x_3 [42] (fun g23 => ⟨g23, trivial⟩) (fun g23 => op_load_p1 tyOne3 rfl rfl rfl) ?_))
  obtain ⟨x_4, e25, h⟩ := bnd h
  refine CgT x_3 [43] (fun g24 => ⟨g24, trivial⟩) (fun g24 => op_call0 (skewbackref39_within_spec (gc e25 g24)) goes65 rfl rfl) (Oc (op_pick_and (fun e => e) rfl rfl rfl rfl) (Oc om ?_))
  refine CgT (x_3 && x_4) [] (fun g26 => trivial) (fun g26 => op_field_p tyFld24_5 rfl rfl) (CgT (x_3 && x_4) [47] (fun g27 => ⟨g27, trivial⟩) (fun g27 => op_load_p1 tyOne3 rfl rfl rfl) (OpsL.keepS ⟨[(46, B (x_3 && x_4)), (48, .opt (x_3 && x_4) (.one (.i r0.Time)))], []⟩ rfl (CgT (x_3 && x_4) [48] (fun g28 => ⟨g28, trivial⟩) (fun g28 => op_geq rfl rfl) (Oc (op_pick_and (fun e => e) rfl rfl rfl rfl) (Oc oa ?_)))))
  refine OpsL.nilS ⟨[(2, B ((x_3 && x_4) && (decide (0 ≤ r0.Time))))], []⟩ rfl (Tri.ret ?_)
  obtain rfl := Option.some.inj h
  refine Fin.keepS ⟨[(2, _)], []⟩ rfl (Fin.result' [.one (.bool ((x_3 && x_4) && (decide (0 ≤ r0.Time))))] (.inl rfl) rfl (.cons (.tmp rfl) .nil) ⟨rfl, rfl⟩)
def skewbackref39_Check_S (F : Nat) (l0 : List Report) : Option Int :=
 if (decide (200 < (l0.length : Int))) = true then (some 2) else (Option.bind (iter F (fun i_1 => if (decide (i_1 < (l0.length : Int))) = true then ((idx? l0 i_1).bind fun x_2 => (skewbackref39_Valid_S F x_2).bind fun x_3 => if (!x_3) = true then (some (.inr (.inr 1))) else (some (.inl (IntKind.i64.wrap (i_1 + 1))))) else (some (.inr (.inl ())))) 0) (alt2 (fun _ => some 0) (fun y => some y)))
theorem skewbackref39_Check_spec {F : Nat} {l0 : List Report} {r : Int} (h : skewbackref39_Check_S F l0 = some r) : Meets Try.prog [] 23 [] [.one (.sl 6 (l0.map eReport))] (Is [] (.b (.one (.i r)))) := by
 unfold skewbackref39_Check_S at h
 refine Meets.intro 21 Try.func23 Try.ntmps23 rfl (by simp) fun E => ?_
 show Tri _ E ⟨21, [], [], []⟩ _ ⟨[(0, .b (.one (.sl 6 (l0.map eReport))))], []⟩ _
 refine Tri.seq (Tri.regionL ?_)
 refine Oc oa (OpsL.nilS ⟨[(0, .b (.one (.sl 6 (l0.map eReport))))], []⟩ rfl (Tri.seq (Tri.seq (Tri.regionL ?_))))
 refine Oc om (Oc (op_len_e' und22 rfl (List.length_map _)) (Oc (op_gtr rfl rfl) ?_))
 refine OpsL.nilS ⟨[(0, _), (7, B (decide (200 < (l0.length : Int))))], []⟩ rfl (Tri.ite h rfl (fun _ h => ?_) (fun _ h => ?_))
 ·refine Tri.seq (Tri.regionL ?_)
  refine Oc oa (OpsL.nilS ⟨[(2, I 2)], []⟩ rfl (Tri.ret (Fin.then_ret ?_)))
  obtain rfl := Option.some.inj h
  refine Fin.keepS ⟨[(2, _)], []⟩ rfl (Fin.result' [.one (.i 2)] (.inl rfl) rfl (.cons (.tmp rfl) .nil) ⟨rfl, rfl⟩)
 ·refine Tri.skip (Fin.keepS ⟨[(0, _)], []⟩ rfl (Fin.then ?_))
  obtain ⟨v1, h2, h⟩ := bnd h
  refine Tri.seqJ (v := v1) (fun (_ : Unit) => ⟨[], []⟩) (fun z => .inl z) ?_ ?_
  ·refine Tri.seq (Tri.regionL ?_)
   refine Oc oa (OpsL.nilS ⟨[(0, _), (3, I 0)], []⟩ rfl (Tri.block (Tri.loopJ h2 (fun (i_1 : Int) => ⟨[(0, .b (.one (.sl 6 (l0.map eReport)))), (3, I i_1)], []⟩) [0, 3] [] rfl ?_)))
   rintro i_1 o3 h4 hy5
   refine Tri.seq (Tri.seq (Tri.regionL ?_))
   refine Oc om (Oc om (Oc (op_len_e' und22 rfl (List.length_map _)) (Oc (op_lss rfl rfl) ?_)))
   refine OpsL.nilS ⟨[(0, _), (3, _), (11, B (decide (i_1 < (l0.length : Int))))], []⟩ rfl (Tri.ite h4 rfl (fun _ h4 => ?_) (fun _ h4 => ?_))
   ·refine Tri.skip (Fin.keepS ⟨[(0, _), (3, _)], []⟩ rfl (Fin.then (Tri.seq (Tri.block (Tri.seq (Tri.regionL ?_))))))
    refine Oc om (Oc om ?_)
    obtain ⟨x_2, e6, h4⟩ := bnd h4
    refine Oc (op_index_e tySl22 (ix_lo e6) (ix_map (e := eReport) e6) rfl rfl) (Oc (op_load_e tyAgg24 rfl rfl rfl) ?_)
    obtain ⟨x_3, e7, h4⟩ := bnd h4
    refine Oc (op_call0 (skewbackref39_Valid_spec e7) goes48 rfl rfl) (Oc oa ?_)
    refine OpsL.nilS ⟨[(0, _), (3, _), (4, B x_3)], []⟩ rfl (Tri.seq (Tri.regionL ?_))
    refine Oc om (Oc (op_not rfl) ?_)
    refine OpsL.nilS ⟨[(0, _), (3, _), (20, B (!x_3))], []⟩ rfl (Tri.ite h4 rfl (fun _ h4 => ?_) (fun _ h4 => ?_))
    ·refine Tri.seq (Tri.regionL ?_)
     refine Oc oa (OpsL.nilS ⟨[(2, I 1)], []⟩ rfl (Tri.ret (Fin.block_ret (Fin.then_ret ?_))))
     obtain rfl := hy5 _ (Option.some.inj h4).symm
     refine Fin.then_ret (Fin.block_ret (Fin.then_ret ?_))
     obtain rfl := Option.some.inj h
     refine Fin.keepS ⟨[(2, _)], []⟩ rfl (Fin.result' [.one (.i 1)] (.inl rfl) rfl (.cons (.tmp rfl) .nil) ⟨rfl, rfl⟩)
    ·refine Tri.skip (Fin.block_normal (Fin.keepS ⟨[(0, _), (3, _)], []⟩ rfl (Fin.then (Tri.regionL ?_))))
     refine Oc om (Oc (op_add rfl rfl) (Oc oa ?_))
     refine OpsL.nil ?_
     exact Fin.againJ [0, 3] [] (IntKind.i64.wrap (i_1 + 1)) (Option.some.inj h4) rfl
   ·refine Tri.exit (Fin.then_exit ?_)
    obtain rfl := hy5 _ (Option.some.inj h4).symm
    refine Fin.then_exit (Fin.block_exit ?_)
    exact Fin.join [] [] () rfl rfl
  ·rintro _ hv
   subst v1
   refine Tri.seq (Tri.regionL ?_)
   refine Oc oa (OpsL.nilS ⟨[(2, I 0)], []⟩ rfl (Tri.ret ?_))
   obtain rfl := Option.some.inj h
   refine Fin.keepS ⟨[(2, _)], []⟩ rfl (Fin.result' [.one (.i 0)] (.inl rfl) rfl (.cons (.tmp rfl) .nil) ⟨rfl, rfl⟩)
def skewbackref39_Things_S (F : Nat) (l0 : List Report) : Option Int :=
 Option.bind (iter F (un2 fun n_2 i_3 => if (decide (i_3 < (l0.length : Int))) = true then ((idx? l0 i_3).bind fun x_5 => (idx? l0 i_3).bind fun x_6 => some (.inl (max n_2 (max x_5.A x_6.B), IntKind.i64.wrap (i_3 + 1)))) else (some (.inr n_2))) (0, 0)) (fun n_1 => some n_1)
theorem skewbackref39_Things_spec {F : Nat} {l0 : List Report} {r : Int} (h : skewbackref39_Things_S F l0 = some r) : Meets Try.prog [] 30 [] [.one (.sl 6 (l0.map eReport))] (Is [] (.b (.one (.i r)))) := by
 unfold skewbackref39_Things_S at h
 refine Meets.intro 25 Try.func30 Try.ntmps30 rfl (by simp) fun E => ?_
 show Tri _ E ⟨25, [], [], []⟩ _ ⟨[(0, .b (.one (.sl 6 (l0.map eReport))))], []⟩ _
 refine Tri.seq (Tri.regionL ?_)
 refine Oc oa (OpsL.nilS ⟨[(0, .b (.one (.sl 6 (l0.map eReport))))], []⟩ rfl (Tri.seq (Tri.regionL ?_)))
 refine Oc oa (OpsL.nilS ⟨[(0, _), (3, I 0)], []⟩ rfl ?_)
 obtain ⟨v1, h2, h⟩ := bnd h
 refine Tri.seqJ (v := v1) (fun (n_1 : Int) => ⟨[(3, I n_1)], []⟩) (fun z => z) ?_ ?_
 ·refine Tri.seq (Tri.regionL ?_)
  refine Oc oa (OpsL.nilS ⟨[(0, _), (3, _), (4, I 0)], []⟩ rfl (Tri.block (Tri.loopJ h2 (un2 fun (n_2 : Int) (i_3 : Int) => ⟨[(0, .b (.one (.sl 6 (l0.map eReport)))), (3, I n_2), (4, I i_3)], []⟩) [0, 3, 4] [] rfl ?_)))
  rintro ⟨n_2, i_3⟩ o3 h4 hy5
  refine Tri.seq (Tri.seq (Tri.regionL ?_))
  refine Oc om (Oc om (Oc (op_len_e' und22 rfl (List.length_map _)) (Oc (op_lss rfl rfl) ?_)))
  refine OpsL.nilS ⟨[(0, _), (3, _), (4, _), (8, B (decide (i_3 < (l0.length : Int))))], []⟩ rfl (Tri.ite h4 rfl (fun _ h4 => ?_) (fun _ h4 => ?_))
  ·refine Tri.skip (Fin.keepS ⟨[(0, _), (3, _), (4, _)], []⟩ rfl (Fin.then (Tri.seq (Tri.block ?_))))
   refine Tri.keepS ⟨[(0, _), (3, _), (4, _)], []⟩ rfl ?_
   obtain ⟨x_5, e6, h4⟩ := bnd h4
   obtain ⟨x_6, e7, h4⟩ := bnd h4
   refine Tri.regionYF mixed 13 [I n_2, .b (.one (.sl 6 (l0.map eReport))), I i_3, .b (.eptr (eReport x_5)), .b (.eptr (eReport x_5)), I x_5.A, .b (.one (.sl 6 (l0.map eReport))), I i_3, .b (.eptr (eReport x_6)), .b (.eptr [.i x_6.B, .i x_6.Axis, .i x_6.Lo, .i x_6.Hi, .i x_6.Time]), I x_6.B, I (max x_5.A x_6.B), I (max n_2 (max x_5.A x_6.B))] [0, 3, 4] [] (s' := ⟨[(0, _), (3, I (max n_2 (max x_5.A x_6.B))), (4, _)], []⟩) rfl ⟨fun _ => .p om, fun _ => .p om, fun _ => .p om, fun _ => .p (op_index_e tySl22 (ix_lo e6) (ix_map (e := eReport) e6) rfl rfl), fun _ => by exact .p (op_field_e tyFld24_0 rfl rfl), fun _ => .p (op_load_e1 tyOne3 rfl rfl), fun _ => .p om, fun _ => .p om, fun _ => .p (op_index_e tySl22 (ix_lo e7) (ix_map (e := eReport) e7) rfl rfl), fun _ => by exact .p (op_field_e tyFld24_1 rfl rfl), fun _ => .p (op_load_e1 tyOne3 rfl rfl), fun _ => .p (op_max rfl rfl), fun _ => .p (op_max rfl rfl), trivial⟩ ⟨_, by exact .p oa, rfl⟩ rfl (Fin.block_normal (Fin.keepS ⟨[(0, _), (3, _), (4, _)], []⟩ rfl (Fin.then (Tri.regionL ?_))))
   refine Oc om (Oc (op_add rfl rfl) (Oc oa ?_))
   refine OpsL.nil ?_
   exact Fin.againJ [0, 3, 4] [] (max n_2 (max x_5.A x_6.B), IntKind.i64.wrap (i_3 + 1)) (Option.some.inj h4) rfl
  ·refine Tri.exit (Fin.then_exit ?_)
   obtain rfl := hy5 _ (Option.some.inj h4).symm
   refine Fin.then_exit (Fin.block_exit ?_)
   exact Fin.join [3] [] n_2 rfl rfl
 ·rintro n_1 hv
  subst v1
  refine Tri.seq (Tri.regionL ?_)
  refine Oc om (Oc oa ?_)
  refine OpsL.nilS ⟨[(2, I n_1)], []⟩ rfl (Tri.ret ?_)
  obtain rfl := Option.some.inj h
  refine Fin.keepS ⟨[(2, _)], []⟩ rfl (Fin.result' [.one (.i n_1)] (.inl rfl) rfl (.cons (.tmp rfl) .nil) ⟨rfl, rfl⟩)
def skewbackref39_Few_S (F : Nat) (l0 : List Report) (most0 : Int) : Option Bool :=
 (gcall (!(decide (most0 < (l0.length : Int)))) (skewbackref39_Check_S F l0)).bind fun x_1 => if ((decide (most0 < (l0.length : Int))) || (decide (x_1 ≠ 0))) = true then (some false) else ((skewbackref39_Things_S F l0).bind fun x_2 => some (decide (x_2 ≤ 9)))
theorem skewbackref39_Few_spec {F : Nat} {l0 : List Report} {most0 : Int} {r : Bool} (h : skewbackref39_Few_S F l0 most0 = some r) : Meets Try.prog [] 8 [] [.one (.sl 6 (l0.map eReport)), .one (.i most0)] (Is [] (.b (.one (.bool r)))) := by
 unfold skewbackref39_Few_S at h
 refine Meets.intro 17 Try.func8 Try.ntmps8 rfl (by simp) fun E => ?_
 show Tri _ E ⟨17, [], [], []⟩ _ ⟨[(0, .b (.one (.sl 6 (l0.map eReport)))), (1, I most0)], []⟩ _
 refine Tri.seq (Tri.regionL ?_)
 refine Oc oa (OpsL.nilS ⟨[(0, .b (.one (.sl 6 (l0.map eReport)))), (1, I most0)], []⟩ rfl (Tri.seq (Tri.seq (Tri.regionL ?_))))
 refine Oc om (Oc (op_len_e' und22 rfl (List.length_map _)) (Oc om (Oc (op_gtr rfl rfl) (Oc om ?_))))
 refine CgF (!(decide (most0 < (l0.length : Int)))) [] (fun g1 => trivial) (fun g1 => om) (OpsL.keepS ⟨[(0, _), (9, B (decide (most0 < (l0.length : Int)))), (10, .opt (!(decide (most0 < (l0.length : Int)))) (.one (.sl 6 (l0.map eReport))))], []⟩ rfl ?_)
 obtain ⟨x_1, e3, h⟩ := bnd h
 refine CgF (!(decide (most0 < (l0.length : Int)))) [10] (fun g2 => ⟨g2, trivial⟩) (fun g2 => op_call0 (skewbackref39_Check_spec (gc e3 g2)) goes23 rfl rfl) (CgF (!(decide (most0 < (l0.length : Int)))) [11] (fun g4 => ⟨g4, trivial⟩) (fun g4 => op_neq rfl rfl) (Oc (op_pick_or (fun e => by rw [e]; rfl) rfl rfl rfl rfl) (OpsL.nilS ⟨[(0, _), (13, B ((decide (most0 < (l0.length : Int))) || (decide (x_1 ≠ 0))))], []⟩ rfl (Tri.ite h rfl (fun _ h => ?_) (fun _ h => ?_)))))
 ·refine Tri.seq (Tri.regionL ?_)
  refine Oc oa (OpsL.nilS ⟨[(4, B false)], []⟩ rfl (Tri.ret (Fin.then_ret ?_)))
  obtain rfl := Option.some.inj h
  refine Fin.keepS ⟨[(4, _)], []⟩ rfl (Fin.result' [.one (.bool false)] (.inl rfl) rfl (.cons (.tmp rfl) .nil) ⟨rfl, rfl⟩)
 ·refine Tri.skip (Fin.keepS ⟨[(0, _)], []⟩ rfl (Fin.then (Tri.seq (Tri.regionL ?_))))
  refine Oc om ?_
  obtain ⟨x_2, e5, h⟩ := bnd h
  refine Oc (op_call0 (skewbackref39_Things_spec e5) goes30 rfl rfl) (Oc (op_leq rfl rfl) (Oc oa ?_))
  refine OpsL.nilS ⟨[(4, B (decide (x_2 ≤ 9)))], []⟩ rfl (Tri.ret ?_)
  obtain rfl := Option.some.inj h
  refine Fin.keepS ⟨[(4, _)], []⟩ rfl (Fin.result' [.one (.bool (decide (x_2 ≤ 9)))] (.inl rfl) rfl (.cons (.tmp rfl) .nil) ⟨rfl, rfl⟩)
def skewbacklaw39_is_S (F : Nat) (a0 : Int) (b0 : Int) (lo0 : Int) (hi0 : Int) : Option Report :=
 some (⟨a0, b0, 0, lo0, hi0, 0⟩ : Report)
theorem skewbacklaw39_is_spec {F : Nat} {a0 : Int} {b0 : Int} {lo0 : Int} {hi0 : Int} {r : Report} (h : skewbacklaw39_is_S F a0 b0 lo0 hi0 = some r) : Meets Try.prog [] 31 [] [.one (.i a0), .one (.i b0), .one (.i lo0), .one (.i hi0)] (Is [] (.b (.agg (eReport r)))) := by
 unfold skewbacklaw39_is_S at h
 refine Meets.intro 14 Try.func31 Try.ntmps31 rfl (by simp) fun E => ?_
 show Tri _ E ⟨14, [], [], []⟩ _ ⟨[(0, I a0), (1, I b0), (2, I lo0), (3, I hi0)], []⟩ _
 refine Tri.seq (Tri.regionL ?_)
 refine Oc (op_alloc (k := 101) tyZero24 rfl) (OpsL.nilS ⟨[(0, I a0), (1, I b0), (2, I lo0), (3, I hi0), (8, Pt 101 0)], [(101, .box 24 [.i 0, .i 0, .i 0, .i 0, .i 0, .i 0])]⟩ rfl (Tri.seq (Tri.regionL ?_)))
 refine Oc om (Oc om (Oc om (Oc om (Oc (op_build tyBuild24 rfl rfl) (Oc (op_store_p tyAgg24 rfl rfl rfl rfl (Nat.le_of_ble_eq_true rfl) rfl) ?_)))))
 refine OpsL.nilS ⟨[(8, _)], [(101, .box 24 [.i a0, .i b0, .i 0, .i lo0, .i hi0, .i 0])]⟩ rfl (Tri.ret ?_)
 obtain rfl := Option.some.inj h
 refine Fin.keepS ⟨[(8, _)], [(101, _)]⟩ rfl (Fin.result' [.agg [.i a0, .i b0, .i 0, .i lo0, .i hi0, .i 0]] (.inl rfl) rfl (.cons (.agg tyAgg24 rfl rfl rfl rfl) .nil) ⟨rfl, rfl⟩)
def sensor_edges_S (F : Nat) (l0 : List Report) (now0 : Int) (axis0 : Int) : Option (List GEdge) :=
 Option.bind (each (fun outf0_3 => un2 fun i_1 r_2 => if (decide (r_2.Axis = axis0)) = true then (letN (⟨r_2.B, r_2.A, IntKind.i64.wrap (-r_2.Lo), i_1⟩ : GEdge) fun x_4 => (app? outf0_3 [(⟨r_2.A, r_2.B, r_2.Hi, i_1⟩ : GEdge), x_4]).bind fun x_5 => some (.inl x_5)) else (some (.inl outf0_3))) (cnt l0 now0) []) (alt2 (fun outf0_3 => some outf0_3) (fun (_ : Unit) => none))
theorem sensor_edges_spec {F : Nat} {l0 : List Report} {now0 : Int} {axis0 : Int} {r : (List GEdge)} (h : sensor_edges_S F l0 now0 axis0 = some r) : Meets Try.prog [] 34 [] [.one (.sl 6 (l0.map eReport)), .one (.i now0), .one (.i axis0)] (Is [(51, .row 87 4 (r.map eGEdge))] (.b (.row 51))) := by
 unfold sensor_edges_S at h
 refine Meets.introM 40 Try.func34 Try.ntmps34 rfl (by simp) fun E => ?_
 show Tri _ E ⟨40, [], [], []⟩ _ ⟨[(0, .b (.one (.sl 6 (l0.map eReport)))), (1, I now0), (2, I axis0)], []⟩ _
 refine Tri.seq (Tri.regionL ?_)
 refine Oc (op_box1 (k := 101) rfl rfl) (Oc oa ?_)
 refine OpsL.nilS ⟨[(0, .b (.one (.sl 6 (l0.map eReport)))), (1, I now0), (5, Pt 101 0)], [(101, .box 3 [.i axis0])]⟩ rfl (Tri.seq (Tri.regionL ?_))
 refine Oc (op_alloc (k := 102) tyZero69 rfl) (OpsL.nilS ⟨[(0, _), (1, _), (5, _), (7, Pt 102 0)], [(101, _), (102, .box 69 [.nil])]⟩ rfl (Tri.seq (Tri.seq (Tri.regionL ?_))))
 refine Oc om (Oc om (Oc (op_call0 counting_spec goes41 rfl rfl) ?_))
 refine OpsL.nilS ⟨[(5, Pt 101 0), (7, Pt 102 0), (12, .b (.one (.cloP 56 [CP.rp [.sl 6 (l0.map eReport)], CP.rp [.i now0]])))], [(101, .box 3 [.i axis0]), (102, .box 69 [.nil])]⟩ rfl (Tri.toX 102 rfl (Tri.nilrowX 102 0 104 4 87 rfl rfl (by decide) (by decide) rfl (Tri.keepS ⟨[(5, _), (7, _), (12, _)], [(101, _), (102, .xbox 69 [.row 104]), (104, .row 87 4 ([].map eGEdge))]⟩ rfl (Tri.rangeB _ cArg _ _ (fun (outf0_3 : List GEdge) => [(101, .box 3 [.i axis0]), (102, .xbox 69 [.row 104]), (104, .row 87 4 (outf0_3.map eGEdge))]) (fun (_ : Unit) => ([] : List (Nat × OC))) (fun (outf0_3 : List GEdge) => un2 fun i_1 r_2 => ⟨[(5, Pt 101 0), (7, Pt 102 0), (8, I i_1), (9, Pt 105 0)], [(101, .box 3 [.i axis0]), (102, .xbox 69 [.row 104]), (104, .row 87 4 (outf0_3.map eGEdge)), (105, .box 24 (eReport r_2))]⟩) h counting_iter goes56 rfl rfl rfl (fun _ => rfl) (fun _ => rfl) (fun _ => rfl) (fun _ _ => rfl) (fun _ _ => rfl) rfl (fun _ => rfl) ?_ ?_ ?_ ?_))))
 ·rintro E l outf0_3 ⟨i_1, r_2⟩ z _ h1
  refine TriR.keep [5, 7, 12, 13, 14] [101, 102, 104] (s' := ⟨[(5, Pt 101 0), (7, Pt 102 0), (12, .b (.one (.cloP 56 [CP.rp [.sl 6 (l0.map eReport)], CP.rp [.i now0]]))), (13, I i_1), (14, .b (.agg (eReport r_2)))], [(101, .box 3 [.i axis0]), (102, .xbox 69 [.row 104]), (104, .row 87 4 (outf0_3.map eGEdge))]⟩) rfl (TriR.seq (TriR.regionL (.inr ⟨_, rfl⟩) (Oc oa (OpsL.nil (Fin.keepS ⟨[(5, _), (7, _), (8, I i_1), (14, _)], [(101, _), (102, _), (104, _)]⟩ rfl ?_)))))
  refine Fin.thenR ?_ (fun ⟨_, _, hl⟩ => hl)
  refine TriR.regionL (.inr ⟨_, rfl⟩) (Oc (op_alloc (k := 105) tyZero24 rfl) (Oc (op_store_p tyAgg24 rfl rfl rfl rfl (Nat.le_of_ble_eq_true rfl) rfl) ?_))
  refine OpsL.nil ?_
  exact Fin.keepS ⟨[(5, _), (7, _), (8, _), (9, Pt 105 0)], [(101, _), (102, _), (104, _), (105, .box 24 (eReport r_2))]⟩ rfl (fun a w hr => hr)
 ·rintro E l outf0_3 ⟨i_1, r_2⟩ z _ h1
  refine TriR.block (TriR.seq (TriR.regionL (.inr ⟨_, rfl⟩) (Oc (op_field_p tyFld24_2 rfl rfl) (Oc (op_load_p1 tyOne3 rfl rfl rfl) (Oc (op_load_p1 tyOne3 rfl rfl rfl) (Oc (op_eql rfl rfl) ?_))))))
  refine OpsL.nil (Fin.keepS ⟨[(5, Pt 101 0), (7, Pt 102 0), (8, I i_1), (9, Pt 105 0), (18, B (decide (r_2.Axis = axis0)))], [(101, .box 3 [.i axis0]), (102, .xbox 69 [.row 104]), (104, .row 87 4 (outf0_3.map eGEdge)), (105, .box 24 (eReport r_2))]⟩ rfl (Fin.thenR ?_ (fun ⟨_, _, hl⟩ => hl)))
  refine TriR.ite h1 rfl (fun _ h1 => ?_) (fun _ h1 => ?_)
  ·refine TriR.regionL (.inr ⟨_, rfl⟩) (Oc (op_load_x1 tyOne69 rfl rfl rfl) (Oc (op_field_p tyFld24_0 rfl rfl) (Oc (op_load_p1 tyOne3 rfl rfl rfl) (Oc (op_field_p tyFld24_1 rfl rfl) (Oc (op_load_p1 tyOne3 rfl rfl rfl) (Oc (op_field_p tyFld24_4 rfl rfl) ?_))))))
   refine Oc (op_load_p1 tyOne3 rfl rfl rfl) (OpsL.keepS ⟨[(5, _), (7, _), (8, _), (9, _), (19, .b (.row 104)), (21, I r_2.A), (23, I r_2.B), (25, I r_2.Hi)], [(101, _), (102, _), (104, _), (105, _)]⟩ rfl (Oc om (Oc (op_build tyBuild87 rfl rfl) (Oc (op_field_p tyFld24_1 rfl rfl) (Oc (op_load_p1 tyOne3 rfl rfl rfl) (Oc (op_field_p tyFld24_0 rfl rfl) (Oc (op_load_p1 tyOne3 rfl rfl rfl) ?_)))))))
   refine Oc (op_field_p tyFld24_3 rfl rfl) (Oc (op_load_p1 tyOne3 rfl rfl rfl) ?_)
   refine OpsL.keepS ⟨[(5, _), (7, _), (8, _), (19, _), (27, .b (.agg [.i r_2.A, .i r_2.B, .i r_2.Hi, .i i_1])), (29, I r_2.B), (31, I r_2.A), (33, I r_2.Lo)], [(101, _), (102, _), (104, _)]⟩ rfl (Oc (op_neg rfl) (Oc om ?_))
   refine OpsL.consA eGEdge h1 rfl (op_build tyBuild87 rfl rfl) (fun x_4 h1 => ?_)
   refine Oc (op_buildSlice (k := 106) (es := [(⟨r_2.A, r_2.B, r_2.Hi, i_1⟩ : GEdge), x_4].map eGEdge) tySl69 rfl rfl (uni_map fun _ => rfl) rfl (by decide) (by decide) rfl) (OpsL.forget 102 0 rfl ?_)
   obtain ⟨x_5, e2, h1⟩ := bnd h1
   refine Oc (op_append_r tySl69 (app_b e2) (app_m e2) rfl rfl rfl rfl (app_map e2) rfl) (Oc (op_store_x1 tyOne69 rfl rfl rfl rfl (Nat.le_of_ble_eq_true rfl) rfl) ?_)
   refine OpsL.nil (Fin.block_normal ?_)
   obtain rfl := Option.some.inj h1
   exact Fin.keepS ⟨[], [(101, .box 3 [.i axis0]), (102, .xbox 69 [.row 104]), (104, .row 87 4 (x_5.map eGEdge))]⟩ rfl (fun a w hr => ⟨_, rfl, hr⟩)
  ·refine TriR.skip (Fin.block_normal ?_)
   obtain rfl := Option.some.inj h1
   exact Fin.keepS ⟨[], [(101, _), (102, _), (104, _)]⟩ rfl (fun a w hr => ⟨_, rfl, hr⟩)
 ·rintro E D outf0_3 h3
  refine Tri.seq (Tri.regionL ?_)
  refine Oc (op_load_x1 tyOne69 rfl rfl rfl) (Oc oa ?_)
  refine OpsL.nilS ⟨[(6, .b (.row 104))], [(104, .row 87 4 (outf0_3.map eGEdge))]⟩ rfl (Tri.ret ?_)
  obtain rfl := Option.some.inj h3
  refine Fin.keepS ⟨[(6, .b (.row 104))], [(104, .row 87 4 (outf0_3.map eGEdge))]⟩ rfl (Fin.rename 104 51 rfl (by decide) rfl (Fin.keepS ⟨[(6, .b (.row 51))], [(51, .row 87 4 (outf0_3.map eGEdge))]⟩ rfl ?_))
  exact Fin.result [.row 51] (.inl rfl) rfl (.cons (.tmp rfl) .nil) ⟨rfl, rfl⟩
 ·rintro E D ⟨⟩ h3
  cases h3
def sensor_things_S (F : Nat) (l0 : List Report) : Option Int :=
 Option.bind (iter F (un2 fun n_2 x_3 => if (decide (x_3 < (l0.length : Int))) = true then ((idx? l0 x_3).bind fun x_5 => some (.inl (max (max n_2 x_5.A) x_5.B, IntKind.i64.wrap (x_3 + 1)))) else (some (.inr n_2))) (0, 0)) (fun n_1 => some n_1)
theorem sensor_things_spec {F : Nat} {l0 : List Report} {r : Int} (h : sensor_things_S F l0 = some r) : Meets Try.prog [] 33 [] [.one (.sl 6 (l0.map eReport))] (Is [] (.b (.one (.i r)))) := by
 unfold sensor_things_S at h
 refine Meets.intro 20 Try.func33 Try.ntmps33 rfl (by simp) fun E => ?_
 show Tri _ E ⟨20, [], [], []⟩ _ ⟨[(0, .b (.one (.sl 6 (l0.map eReport))))], []⟩ _
 refine Tri.seq (Tri.regionL ?_)
 refine Oc oa (OpsL.nilS ⟨[(0, .b (.one (.sl 6 (l0.map eReport))))], []⟩ rfl (Tri.seq (Tri.regionL ?_)))
 refine Oc oa (OpsL.nilS ⟨[(0, _), (3, I 0)], []⟩ rfl ?_)
 obtain ⟨v1, h2, h⟩ := bnd h
 refine Tri.seqJ (v := v1) (fun (n_1 : Int) => ⟨[(3, I n_1)], []⟩) (fun z => z) ?_ ?_
 ·refine Tri.seq (Tri.regionL ?_)
  refine Oc om (Oc (op_len_e' und22 rfl (List.length_map _)) (Oc om ?_))
  refine OpsL.nilS ⟨[(3, _), (6, .b (.one (.sl 6 (l0.map eReport)))), (7, I (l0.length : Int)), (8, I 0)], []⟩ rfl (Tri.block (Tri.loopJ h2 (un2 fun (n_2 : Int) (x_3 : Int) => ⟨[(3, I n_2), (6, .b (.one (.sl 6 (l0.map eReport)))), (7, I (l0.length : Int)), (8, I x_3)], []⟩) [3, 6, 7, 8] [] rfl ?_))
  rintro ⟨n_2, x_3⟩ o3 h4 hy5
  refine Tri.seq (Tri.regionL ?_)
  refine Oc (op_lss rfl rfl) (OpsL.nilS ⟨[(3, _), (6, _), (7, _), (8, _), (9, B (decide (x_3 < (l0.length : Int))))], []⟩ rfl (Tri.seq (Tri.ite h4 rfl (fun _ h4 => ?_) (fun _ h4 => ?_))))
  ·refine Tri.skip (Fin.keepS ⟨[(3, _), (6, _), (7, _), (8, _)], []⟩ rfl (Fin.then (Tri.seq (Tri.block (Tri.seq (Tri.regionL ?_))))))
   obtain ⟨x_5, e6, h4⟩ := bnd h4
   refine Oc (op_index_e tySl22 (ix_lo e6) (ix_map (e := eReport) e6) rfl rfl) (Oc (op_load_e tyAgg24 rfl rfl rfl) (Oc (op_alloc (k := 101) tyZero24 rfl) (Oc (op_store_p tyAgg24 rfl rfl rfl rfl (Nat.le_of_ble_eq_true rfl) rfl) ?_)))
   refine OpsL.nilS ⟨[(3, _), (5, Pt 101 0), (6, _), (7, _), (8, _)], [(101, .box 24 (eReport x_5))]⟩ rfl (Tri.regionL (Oc om (Oc (op_field_p tyFld24_0 rfl rfl) (Oc (op_load_p1 tyOne3 rfl rfl rfl) (Oc (op_field_p tyFld24_1 rfl rfl) (Oc (op_load_p1 tyOne3 rfl rfl rfl) (Oc (op_max3 rfl rfl rfl) ?_)))))))
   refine Oc oa (OpsL.nil (Fin.block_normal (Fin.keepS ⟨[(3, I (max (max n_2 x_5.A) x_5.B)), (6, _), (7, _), (8, _)], []⟩ rfl (Fin.then (Tri.regionL ?_)))))
   refine Oc (op_add rfl rfl) (Oc om ?_)
   refine OpsL.nil ?_
   exact Fin.againJ [3, 6, 7, 8] [] (max (max n_2 x_5.A) x_5.B, IntKind.i64.wrap (x_3 + 1)) (Option.some.inj h4) rfl
  ·refine Tri.exit (Fin.then_exit ?_)
   obtain rfl := hy5 _ (Option.some.inj h4).symm
   refine Fin.then_exit (Fin.block_exit ?_)
   exact Fin.join [3] [] n_2 rfl rfl
 ·rintro n_1 hv
  subst v1
  refine Tri.seq (Tri.regionL ?_)
  refine Oc om (Oc oa ?_)
  refine OpsL.nilS ⟨[(2, I n_1)], []⟩ rfl (Tri.ret ?_)
  obtain rfl := Option.some.inj h
  refine Fin.keepS ⟨[(2, _)], []⟩ rfl (Fin.result' [.one (.i n_1)] (.inl rfl) rfl (.cons (.tmp rfl) .nil) ⟨rfl, rfl⟩)
def sensor_graph_least_S (F : Nat) (g0 : List GEdge) (d0 : MapI) : Option (Bool × MapI) :=
 Option.bind (letN (IntKind.i64.wrap ((g0.length : Int) + 2)) fun x_2 => iter F (un2 fun d_3 x_4 => if (decide (x_4 < x_2)) = true then (Option.bind (Option.bind (iter F (un3 fun d_9 changed_10 x_11 => if (decide (x_11 < (g0.length : Int))) = true then (Option.bind ((idx? g0 x_11).bind fun x_16 => letN ((mHas d_9 x_16.src) && ((!(mHas d_9 x_16.to)) || (decide ((IntKind.i64.wrap ((mGet d_9 x_16.src) + x_16.weight)) < (mGet d_9 x_16.to))))) fun x_17 => if x_17 = true then (letN (IntKind.i64.wrap ((mGet d_9 x_16.src) + x_16.weight)) fun x_18 => some (mset d_9 x_16.to x_18, true)) else (some (d_9, changed_10))) (un2 fun d_14 changed_15 => some (.inl (d_14, changed_15, IntKind.i64.wrap (x_11 + 1))))) else (some (.inr (d_9, changed_10)))) (d_3, false, 0)) (un2 fun d_7 changed_8 => if (!changed_8) = true then (some (.inr (true, d_7))) else (some (.inl d_7)))) (alt2 (fun d_6 => some (.inl (d_6, IntKind.i64.wrap (x_4 + 1)))) (fun y => some (.inr (.inr y))))) else (some (.inr (.inl d_3)))) (d0, 0)) (alt2 (fun y_1 => some (false, y_1)) (fun y => some y))
theorem sensor_graph_least_spec {F : Nat} {g0 : List GEdge} {d0 : MapI} {r : Bool × MapI} (h : sensor_graph_least_S F g0 d0 = some r) : Meets Try.prog [] 54 [(1, .mq d0)] [.one (.sl 4 (g0.map eGEdge)), .row 1] (Is [(1, .mq r.2)] (.b (.one (.bool r.1)))) := by
 unfold sensor_graph_least_S at h
 refine Meets.intro 61 Try.func54 Try.ntmps54 rfl (by simp) fun E => ?_
 show Tri _ E ⟨61, [1], [1], []⟩ _ ⟨[(0, .b (.one (.sl 4 (g0.map eGEdge)))), (1, .b (.row 1))], [(1, .mq d0)]⟩ _
 refine Tri.seq (Tri.regionL ?_)
 refine Oc oa (OpsL.nilS ⟨[(0, .b (.one (.sl 4 (g0.map eGEdge)))), (1, .b (.row 1))], [(1, .mq d0)]⟩ rfl ?_)
 obtain ⟨v1, h2, h⟩ := bnd h
 refine Tri.seqJ (v := v1) (fun (y_1 : MapI) => ⟨[], [(1, .mq y_1)]⟩) (fun z => .inl z) ?_ ?_
 ·refine Tri.seq (Tri.regionL ?_)
  refine Oc om (Oc (op_len_e' und69 rfl (List.length_map _)) ?_)
  refine OpsL.consI .i64 h2 rfl (op_add rfl rfl) (fun x_2 h2 => ?_)
  refine Oc om (OpsL.nilS ⟨[(0, _), (1, _), (14, I x_2), (15, I 0)], [(1, _)]⟩ rfl (Tri.block (Tri.loopJ h2 (un2 fun (d_3 : MapI) (x_4 : Int) => ⟨[(0, .b (.one (.sl 4 (g0.map eGEdge)))), (1, .b (.row 1)), (14, I x_2), (15, I x_4)], [(1, .mq d_3)]⟩) [0, 1, 14, 15] [1] rfl ?_)))
  rintro ⟨d_3, x_4⟩ o3 h4 hy5
  refine Tri.seq (Tri.regionL ?_)
  refine Oc (op_lss rfl rfl) (OpsL.nilS ⟨[(0, _), (1, _), (14, _), (15, _), (16, B (decide (x_4 < x_2)))], [(1, _)]⟩ rfl (Tri.seq (Tri.ite h4 rfl (fun _ h4 => ?_) (fun _ h4 => ?_))))
  ·refine Tri.skip (Fin.keepS ⟨[(0, _), (1, _), (14, _), (15, _)], [(1, _)]⟩ rfl (Fin.then ?_))
   obtain ⟨v6, h7, h4⟩ := bnd h4
   refine Tri.seqJ (v := v6) (fun (d_6 : MapI) => ⟨[(0, .b (.one (.sl 4 (g0.map eGEdge)))), (1, .b (.row 1)), (14, I x_2), (15, I x_4)], [(1, .mq d_6)]⟩) (fun z => .inl z) ?_ ?_
   ·refine Tri.block (Tri.seq (Tri.regionL ?_))
    refine Oc oa (OpsL.nilS ⟨[(0, _), (1, _), (5, B false), (14, _), (15, _)], [(1, _)]⟩ rfl ?_)
    obtain ⟨v8, h9, h7⟩ := bnd h7
    refine Tri.seqJ (v := v8) (un2 fun (d_7 : MapI) (changed_8 : Bool) => ⟨[(0, .b (.one (.sl 4 (g0.map eGEdge)))), (1, .b (.row 1)), (5, B changed_8), (14, I x_2), (15, I x_4)], [(1, .mq d_7)]⟩) (fun z => z) ?_ ?_
    ·refine Tri.seq (Tri.regionL ?_)
     refine Oc om (Oc (op_len_e' und69 rfl (List.length_map _)) (Oc om ?_))
     refine OpsL.nilS ⟨[(0, _), (1, _), (5, _), (14, _), (15, _), (17, .b (.one (.sl 4 (g0.map eGEdge)))), (18, I (g0.length : Int)), (19, I 0)], [(1, _)]⟩ rfl (Tri.block (Tri.loopJ h9 (un3 fun (d_9 : MapI) (changed_10 : Bool) (x_11 : Int) => ⟨[(0, .b (.one (.sl 4 (g0.map eGEdge)))), (1, .b (.row 1)), (5, B changed_10), (14, I x_2), (15, I x_4), (17, .b (.one (.sl 4 (g0.map eGEdge)))), (18, I (g0.length : Int)), (19, I x_11)], [(1, .mq d_9)]⟩) [0, 1, 5, 14, 15, 17, 18, 19] [1] rfl ?_))
     rintro ⟨d_9, changed_10, x_11⟩ o10 h11 hy12
     refine Tri.seq (Tri.regionL ?_)
     refine Oc (op_lss rfl rfl) (OpsL.nilS ⟨[(0, _), (1, _), (5, _), (14, _), (15, _), (17, _), (18, _), (19, _), (20, B (decide (x_11 < (g0.length : Int))))], [(1, _)]⟩ rfl (Tri.seq (Tri.ite h11 rfl (fun _ h11 => ?_) (fun _ h11 => ?_))))
     ·refine Tri.skip (Fin.keepS ⟨[(0, _), (1, _), (5, _), (14, _), (15, _), (17, _), (18, _), (19, _)], [(1, _)]⟩ rfl (Fin.then ?_))
      obtain ⟨v13, h14, h11⟩ := bnd h11
      refine Tri.seqJ (v := v13) (un2 fun (d_14 : MapI) (changed_15 : Bool) => ⟨[(0, .b (.one (.sl 4 (g0.map eGEdge)))), (1, .b (.row 1)), (5, B changed_15), (14, I x_2), (15, I x_4), (17, .b (.one (.sl 4 (g0.map eGEdge)))), (18, I (g0.length : Int)), (19, I x_11)], [(1, .mq d_14)]⟩) (fun z => z) ?_ ?_
      ·refine Tri.block (Tri.seq (Tri.regionL ?_))
       obtain ⟨x_16, e15, h14⟩ := bnd h14
       refine Oc (op_index_e tySl69 (ix_lo e15) (ix_map (e := eGEdge) e15) rfl rfl) (Oc (op_load_e tyAgg87 rfl rfl rfl) (Oc (op_alloc (k := 101) tyZero87 rfl) (Oc (op_store_p tyAgg87 rfl rfl rfl rfl (Nat.le_of_ble_eq_true rfl) rfl) ?_)))
       refine OpsL.nilS ⟨[(0, _), (1, _), (5, _), (7, Pt 101 0), (14, _), (15, _), (17, _), (18, _), (19, _)], [(1, _), (101, .box 87 (eGEdge x_16))]⟩ rfl (Tri.seq (Tri.regionL ?_))
       refine Oc om (Oc (op_field_p tyFld87_0 rfl rfl) (Oc (op_load_p1 tyOne3 rfl rfl rfl) (Oc (op_mgetI2 tyMap71 rfl rfl rfl) (Oc om (Oc (op_extract rfl rfl) ?_)))))
       refine Oc (op_extract rfl rfl) (Oc oa (Oc oa ?_))
       refine OpsL.nilS ⟨[(0, _), (1, _), (5, _), (7, _), (8, I (mGet d_9 x_16.src)), (9, B (mHas d_9 x_16.src)), (14, _), (15, _), (17, _), (18, _), (19, _)], [(1, _), (101, _)]⟩ rfl (Tri.seq (Tri.regionL ?_))
       refine Oc om (Oc (op_field_p tyFld87_1 rfl rfl) (Oc (op_load_p1 tyOne3 rfl rfl rfl) (Oc (op_mgetI2 tyMap71 rfl rfl rfl) (Oc om (Oc (op_extract rfl rfl) ?_)))))
       refine Oc (op_extract rfl rfl) (Oc oa (Oc oa ?_))
       refine OpsL.nilS ⟨[(0, _), (1, _), (5, _), (7, _), (8, _), (9, _), (10, I (mGet d_9 x_16.to)), (11, B (mHas d_9 x_16.to)), (14, _), (15, _), (17, _), (18, _), (19, _)], [(1, _), (101, _)]⟩ rfl (Tri.seq (Tri.regionL ?_))
       refine Oc om (Oc om ?_)
       refine CgT (mHas d_9 x_16.src) [] (fun g16 => trivial) (fun g16 => om) (CgT (mHas d_9 x_16.src) [39] (fun g17 => by exact ⟨g17, trivial⟩) (fun g17 => op_not rfl) (CgT (mHas d_9 x_16.src) [40] (fun g18 => by exact ⟨g18, trivial⟩) (fun g18 => om) (OpsL.consG ((mHas d_9 x_16.src) && !(!(mHas d_9 x_16.to))) 99 [] (.under rfl) (and_f _ _) rfl rfl (fun g19 => by exact trivial) (fun g19 => om) (OpsL.consG ((mHas d_9 x_16.src) && !(!(mHas d_9 x_16.to))) 99 [] (.under rfl) (and_f _ _) rfl rfl (fun g20 => by exact trivial) (fun g20 => op_field_p tyFld87_2 rfl rfl) (OpsL.keepS ⟨[(0, _), (1, _), (5, _), (7, _), (8, _), (10, _), (14, _), (15, _), (17, _), (18, _), (19, _), (38, B (mHas d_9 x_16.src)), (41, .opt (mHas d_9 x_16.src) (.one (.bool (!(mHas d_9 x_16.to))))), (42, .opt ((mHas d_9 x_16.src) && !(!(mHas d_9 x_16.to))) (.one (.i (mGet d_9 x_16.src)))), (43, .opt ((mHas d_9 x_16.src) && !(!(mHas d_9 x_16.to))) (.ptr 101 2))], [(1, _), (101, _)]⟩ rfl ?_)))))
       refine OpsL.consG ((mHas d_9 x_16.src) && !(!(mHas d_9 x_16.to))) 99 [43] (.under rfl) (and_f _ _) rfl rfl (fun g21 => ⟨g21, trivial⟩) (fun g21 => op_load_p1 tyOne3 rfl rfl rfl) (OpsL.consG ((mHas d_9 x_16.src) && !(!(mHas d_9 x_16.to))) 99 [42, 44] (.under rfl) (and_f _ _) rfl rfl (fun g22 => ⟨g22, g22, trivial⟩) (fun g22 => op_add rfl rfl) (OpsL.consG ((mHas d_9 x_16.src) && !(!(mHas d_9 x_16.to))) 99 [] (.under rfl) (and_f _ _) rfl rfl (fun g23 => trivial) (fun g23 => om) (OpsL.consG ((mHas d_9 x_16.src) && !(!(mHas d_9 x_16.to))) 99 [45, 46] (.under rfl) (and_f _ _) rfl rfl (fun g24 => by exact ⟨g24, g24, trivial⟩) (fun g24 => op_lss rfl rfl) (CgT (mHas d_9 x_16.src) [41] (fun g25 => by exact ⟨g25, trivial⟩) (fun g25 => op_pick_or (fun e => by rw [g25, e]; rfl) rfl rfl rfl rfl) (OpsL.consB h14 rfl (op_pick_and (fun e => e) rfl rfl rfl rfl) (fun x_17 h14 => ?_))))))
       refine OpsL.nilS ⟨[(0, _), (1, _), (5, _), (7, _), (8, _), (14, _), (15, _), (17, _), (18, _), (19, _), (49, B x_17)], [(1, _), (101, _)]⟩ rfl (Tri.ite h14 rfl (fun _ h14 => ?_) (fun _ h14 => ?_))
       ·refine Tri.regionL (Oc om (Oc (op_field_p tyFld87_1 rfl rfl) (Oc (op_load_p1 tyOne3 rfl rfl rfl) (Oc om (Oc (op_field_p tyFld87_2 rfl rfl) (Oc (op_load_p1 tyOne3 rfl rfl rfl) ?_))))))
        refine OpsL.consI .i64 h14 rfl (op_add rfl rfl) (fun x_18 h14 => ?_)
        refine Oc (op_msetI tyMap71 rfl rfl rfl rfl) (Oc oa ?_)
        refine OpsL.nil (Fin.block_normal ?_)
        exact Fin.join [0, 1, 5, 14, 15, 17, 18, 19] [1] (mset d_9 x_16.to x_18, true) (Option.some.inj h14) rfl
       ·refine Tri.skip (Fin.block_normal ?_)
        exact Fin.join [0, 1, 5, 14, 15, 17, 18, 19] [1] (d_9, changed_10) (Option.some.inj h14) rfl
      ·rintro ⟨d_14, changed_15⟩ hv
       subst v13
       refine Tri.regionL (Oc (op_add rfl rfl) (Oc om ?_))
       refine OpsL.nil ?_
       exact Fin.againJ [0, 1, 5, 14, 15, 17, 18, 19] [1] (d_14, changed_15, IntKind.i64.wrap (x_11 + 1)) (Option.some.inj h11) rfl
     ·refine Tri.exit (Fin.then_exit ?_)
      obtain rfl := hy12 _ (Option.some.inj h11).symm
      refine Fin.then_exit (Fin.block_exit ?_)
      exact Fin.join [0, 1, 5, 14, 15] [1] (d_9, changed_10) rfl rfl
    ·rintro ⟨d_7, changed_8⟩ hv
     subst v8
     refine Tri.seq (Tri.regionL ?_)
     refine Oc om (Oc (op_not rfl) ?_)
     refine OpsL.nilS ⟨[(0, _), (1, _), (14, _), (15, _), (59, B (!changed_8))], [(1, _)]⟩ rfl (Tri.ite h7 rfl (fun _ h7 => ?_) (fun _ h7 => ?_))
     ·refine Tri.seq (Tri.regionL ?_)
      refine Oc oa (OpsL.nilS ⟨[(4, B true)], [(1, _)]⟩ rfl (Tri.ret (Fin.block_ret ?_)))
      obtain rfl := Option.some.inj h7
      refine Fin.then_ret ?_
      obtain rfl := hy5 _ (Option.some.inj h4).symm
      refine Fin.then_ret (Fin.block_ret (Fin.then_ret ?_))
      obtain rfl := Option.some.inj h
      refine Fin.keepS ⟨[(4, _)], [(1, _)]⟩ rfl ?_
      exact Fin.result [.one (.bool true)] (.inl rfl) rfl (.cons (.tmp rfl) .nil) ⟨rfl, rfl⟩
     ·refine Tri.skip (Fin.block_normal ?_)
      exact Fin.join [0, 1, 14, 15] [1] d_7 (Option.some.inj h7) rfl
   ·rintro d_6 hv
    subst v6
    refine Tri.regionL (Oc (op_add rfl rfl) (Oc om ?_))
    refine OpsL.nil ?_
    exact Fin.againJ [0, 1, 14, 15] [1] (d_6, IntKind.i64.wrap (x_4 + 1)) (Option.some.inj h4) rfl
  ·refine Tri.exit (Fin.then_exit ?_)
   obtain rfl := hy5 _ (Option.some.inj h4).symm
   refine Fin.then_exit (Fin.block_exit ?_)
   exact Fin.join [] [1] d_3 rfl rfl
 ·rintro y_1 hv
  subst v1
  refine Tri.seq (Tri.regionL ?_)
  refine Oc oa (OpsL.nilS ⟨[(4, B false)], [(1, _)]⟩ rfl (Tri.ret ?_))
  obtain rfl := Option.some.inj h
  refine Fin.keepS ⟨[(4, _)], [(1, _)]⟩ rfl ?_
  exact Fin.result [.one (.bool false)] (.inl rfl) rfl (.cons (.tmp rfl) .nil) ⟨rfl, rfl⟩
def sensor_graph_anywhere_S (F : Nat) (g0 : List GEdge) (n0 : Int) : Option (MapI × Bool) :=
 Option.bind (iter F (un2 fun d_2 x_3 => if (decide (x_3 < (IntKind.i64.wrap (n0 + 1)))) = true then (some (.inl (mset d_2 x_3 0, IntKind.i64.wrap (x_3 + 1)))) else (some (.inr d_2))) (([] : MapI), 0)) (fun d_1 => Option.bind (sensor_graph_least_S F g0 d_1) (un2 fun x_5 x_6 => some (x_6, x_5)))
theorem sensor_graph_anywhere_spec {F : Nat} {g0 : List GEdge} {n0 : Int} {r : MapI × Bool} (h : sensor_graph_anywhere_S F g0 n0 = some r) : Meets Try.prog [] 49 [] [.one (.sl 4 (g0.map eGEdge)), .one (.i n0)] (Is [(51, .mq r.1)] (.tup [.row 51, .one (.bool r.2)])) := by
 unfold sensor_graph_anywhere_S at h
 refine Meets.intro 23 Try.func49 Try.ntmps49 rfl (by simp) fun E => ?_
 show Tri _ E ⟨23, [], [], []⟩ _ ⟨[(0, .b (.one (.sl 4 (g0.map eGEdge)))), (1, I n0)], []⟩ _
 refine Tri.seq (Tri.regionL ?_)
 refine Oc (op_nilmap) (Oc oa ?_)
 refine OpsL.nilS ⟨[(0, .b (.one (.sl 4 (g0.map eGEdge)))), (1, I n0)], []⟩ rfl (Tri.seq (Tri.regionL ?_))
 refine Oc (op_makeMapI (k := 101) undm71 rfl) (Oc oa ?_)
 refine OpsL.nilS ⟨[(0, _), (1, _), (6, .b (.row 101))], [(101, .mq ([] : MapI))]⟩ rfl ?_
 obtain ⟨v1, h2, h⟩ := bnd h
 refine Tri.seqJ (v := v1) (fun (d_1 : MapI) => ⟨[(0, .b (.one (.sl 4 (g0.map eGEdge)))), (6, .b (.row 101))], [(101, .mq d_1)]⟩) (fun z => z) ?_ ?_
 ·refine Tri.seq (Tri.regionL ?_)
  refine Oc om (Oc (op_add rfl rfl) (Oc om ?_))
  refine OpsL.nilS ⟨[(0, _), (6, _), (11, I (IntKind.i64.wrap (n0 + 1))), (12, I 0)], [(101, _)]⟩ rfl (Tri.block (Tri.loopJ h2 (un2 fun (d_2 : MapI) (x_3 : Int) => ⟨[(0, .b (.one (.sl 4 (g0.map eGEdge)))), (6, .b (.row 101)), (11, I (IntKind.i64.wrap (n0 + 1))), (12, I x_3)], [(101, .mq d_2)]⟩) [0, 6, 11, 12] [101] rfl ?_))
  rintro ⟨d_2, x_3⟩ o3 h4 hy5
  refine Tri.seq (Tri.regionL ?_)
  refine Oc (op_lss rfl rfl) (OpsL.nilS ⟨[(0, _), (6, _), (11, _), (12, _), (13, B (decide (x_3 < (IntKind.i64.wrap (n0 + 1)))))], [(101, _)]⟩ rfl (Tri.seq (Tri.ite h4 rfl (fun _ h4 => ?_) (fun _ h4 => ?_))))
  ·refine Tri.skip (Fin.keepS ⟨[(0, _), (6, _), (11, _), (12, _)], [(101, _)]⟩ rfl (Fin.then (Tri.seq (Tri.block (Tri.seq (Tri.regionL ?_))))))
   refine Oc om (Oc oa ?_)
   refine OpsL.nilS ⟨[(0, _), (6, _), (7, I x_3), (11, _), (12, _)], [(101, _)]⟩ rfl (Tri.regionL (Oc om (Oc om (Oc (op_msetI tyMap71 rfl rfl rfl rfl) ?_))))
   refine OpsL.nil (Fin.block_normal (Fin.keepS ⟨[(0, _), (6, _), (11, _), (12, _)], [(101, .mq (mset d_2 x_3 0))]⟩ rfl (Fin.then (Tri.regionL ?_))))
   refine Oc (op_add rfl rfl) (Oc om ?_)
   refine OpsL.nil ?_
   exact Fin.againJ [0, 6, 11, 12] [101] (mset d_2 x_3 0, IntKind.i64.wrap (x_3 + 1)) (Option.some.inj h4) rfl
  ·refine Tri.exit (Fin.then_exit ?_)
   obtain rfl := hy5 _ (Option.some.inj h4).symm
   refine Fin.then_exit (Fin.block_exit ?_)
   exact Fin.join [0, 6] [101] d_2 rfl rfl
 ·rintro d_1 hv
  subst v1
  refine Tri.seq (Tri.regionL ?_)
  refine Oc om (Oc om ?_)
  obtain ⟨⟨x_5, x_6⟩, e6, h⟩ := bnd h
  refine Oc (op_call (own_a := [(101, _)]) ((sensor_graph_least_spec e6).sw 1 101) goes54 rfl ⟨rfl, trivial⟩ rfl rfl) (Oc oa ?_)
  refine OpsL.nilS ⟨[(6, _), (8, B x_5)], [(101, .mq x_6)]⟩ rfl (Tri.seq (Tri.regionL ?_))
  refine Oc om (Oc om (Oc oa (Oc oa ?_)))
  refine OpsL.nilS ⟨[(4, .b (.row 101)), (5, B x_5)], [(101, _)]⟩ rfl (Tri.ret ?_)
  obtain rfl := Option.some.inj h
  refine Fin.keepS ⟨[(4, .b (.row 101)), (5, B x_5)], [(101, .mq x_6)]⟩ rfl (Fin.rename 101 51 rfl (by decide) rfl (Fin.keepS ⟨[(4, .b (.row 51)), (5, _)], [(51, .mq x_6)]⟩ rfl ?_))
  exact Fin.result [.row 51, .one (.bool x_5)] (.inl rfl) rfl (.cons (.tmp rfl) (.cons (.tmp rfl) .nil)) ⟨rfl, rfl⟩
def sensor_Consistent_S (F : Nat) (l0 : List Report) (now0 : Int) : Option Bool :=
 Option.bind (iter F (fun x_1 => if (decide (x_1 < 3)) = true then ((sensor_edges_S F l0 now0 x_1).bind fun x_2 => (sensor_things_S F l0).bind fun x_3 => Option.bind (sensor_graph_anywhere_S F x_2 x_3) (un2 fun x_4 x_5 => if (!x_5) = true then (some (.inr (.inr false))) else (some (.inl (IntKind.i64.wrap (x_1 + 1)))))) else (some (.inr (.inl ())))) 0) (alt2 (fun _ => some true) (fun y => some y))
theorem sensor_Consistent_spec {F : Nat} {l0 : List Report} {now0 : Int} {r : Bool} (h : sensor_Consistent_S F l0 now0 = some r) : Meets Try.prog [] 17 [] [.one (.sl 6 (l0.map eReport)), .one (.i now0)] (Is [] (.b (.one (.bool r)))) := by
 unfold sensor_Consistent_S at h
 refine Meets.intro 24 Try.func17 Try.ntmps17 rfl (by simp) fun E => ?_
 show Tri _ E ⟨24, [], [], []⟩ _ ⟨[(0, .b (.one (.sl 6 (l0.map eReport)))), (1, I now0)], []⟩ _
 refine Tri.seq (Tri.regionL ?_)
 refine Oc oa (OpsL.nilS ⟨[(0, .b (.one (.sl 6 (l0.map eReport)))), (1, I now0)], []⟩ rfl ?_)
 obtain ⟨v1, h2, h⟩ := bnd h
 refine Tri.seqJ (v := v1) (fun (_ : Unit) => ⟨[], []⟩) (fun z => .inl z) ?_ ?_
 ·refine Tri.seq (Tri.regionL ?_)
  refine Oc om (OpsL.nilS ⟨[(0, _), (1, _), (8, I 0)], []⟩ rfl (Tri.block (Tri.loopJ h2 (fun (x_1 : Int) => ⟨[(0, .b (.one (.sl 6 (l0.map eReport)))), (1, I now0), (8, I x_1)], []⟩) [0, 1, 8] [] rfl ?_)))
  rintro x_1 o3 h4 hy5
  refine Tri.seq (Tri.regionL ?_)
  refine Oc (op_lss rfl rfl) (OpsL.nilS ⟨[(0, _), (1, _), (8, _), (9, B (decide (x_1 < 3)))], []⟩ rfl (Tri.seq (Tri.ite h4 rfl (fun _ h4 => ?_) (fun _ h4 => ?_))))
  ·refine Tri.skip (Fin.keepS ⟨[(0, _), (1, _), (8, _)], []⟩ rfl (Fin.then (Tri.seq (Tri.block (Tri.seq (Tri.regionL ?_))))))
   refine Oc om (Oc oa ?_)
   refine OpsL.nilS ⟨[(0, _), (1, _), (5, I x_1), (8, _)], []⟩ rfl (Tri.seq (Tri.regionL ?_))
   refine Oc om (Oc om (Oc om ?_))
   obtain ⟨x_2, e6, h4⟩ := bnd h4
   refine Oc (op_call (own_a := []) ((sensor_edges_spec e6).sw 51 101) goes34 rfl trivial rfl rfl) (Oc om ?_)
   refine OpsL.keepS ⟨[(0, _), (1, _), (8, _), (15, .b (.row 101)), (16, .b (.one (.sl 6 (l0.map eReport))))], [(101, .row 87 4 (x_2.map eGEdge))]⟩ rfl ?_
   obtain ⟨x_3, e7, h4⟩ := bnd h4
   refine Oc (op_call0 (sensor_things_spec e7) goes33 rfl rfl) (OpsL.persist 101 rfl ?_)
   obtain ⟨⟨x_4, x_5⟩, e8, h4⟩ := bnd h4
   refine Oc (op_call (own_a := []) ((sensor_graph_anywhere_spec e8).sw 51 102) goes49 rfl trivial rfl rfl) (Oc om (Oc (op_extract rfl rfl) ?_))
   refine OpsL.keepS ⟨[(0, .b (.one (.sl 6 (l0.map eReport)))), (1, I now0), (8, I x_1), (11, .tup [.row 102, .one (.bool x_5)]), (19, .b (.row 102))], [(102, .mq x_4)]⟩ rfl (Oc (op_extract rfl rfl) (Oc oa (Oc oa ?_)))
   refine OpsL.nilS ⟨[(0, _), (1, _), (7, B x_5), (8, _)], []⟩ rfl (Tri.seq (Tri.regionL ?_))
   refine Oc om (Oc (op_not rfl) ?_)
   refine OpsL.nilS ⟨[(0, _), (1, _), (8, _), (22, B (!x_5))], []⟩ rfl (Tri.ite h4 rfl (fun _ h4 => ?_) (fun _ h4 => ?_))
   ·refine Tri.seq (Tri.regionL ?_)
    refine Oc oa (OpsL.nilS ⟨[(4, B false)], []⟩ rfl (Tri.ret (Fin.block_ret (Fin.then_ret ?_))))
    obtain rfl := hy5 _ (Option.some.inj h4).symm
    refine Fin.then_ret (Fin.block_ret (Fin.then_ret ?_))
    obtain rfl := Option.some.inj h
    refine Fin.keepS ⟨[(4, _)], []⟩ rfl (Fin.result' [.one (.bool false)] (.inl rfl) rfl (.cons (.tmp rfl) .nil) ⟨rfl, rfl⟩)
   ·refine Tri.skip (Fin.block_normal (Fin.keepS ⟨[(0, _), (1, _), (8, _)], []⟩ rfl (Fin.then (Tri.regionL ?_))))
    refine Oc (op_add rfl rfl) (Oc om ?_)
    refine OpsL.nil ?_
    exact Fin.againJ [0, 1, 8] [] (IntKind.i64.wrap (x_1 + 1)) (Option.some.inj h4) rfl
  ·refine Tri.exit (Fin.then_exit ?_)
   obtain rfl := hy5 _ (Option.some.inj h4).symm
   refine Fin.then_exit (Fin.block_exit ?_)
   exact Fin.join [] [] () rfl rfl
 ·rintro _ hv
  subst v1
  refine Tri.seq (Tri.regionL ?_)
  refine Oc oa (OpsL.nilS ⟨[(4, B true)], []⟩ rfl (Tri.ret ?_))
  obtain rfl := Option.some.inj h
  refine Fin.keepS ⟨[(4, _)], []⟩ rfl (Fin.result' [.one (.bool true)] (.inl rfl) rfl (.cons (.tmp rfl) .nil) ⟨rfl, rfl⟩)
def sensor_graph_from_S (F : Nat) (g0 : List GEdge) (thing0 : Int) : Option MapI :=
 Option.bind (sensor_graph_least_S F g0 (mset ([] : MapI) thing0 0)) (un2 fun x_1 x_2 => some x_2)
theorem sensor_graph_from_spec {F : Nat} {g0 : List GEdge} {thing0 : Int} {r : MapI} (h : sensor_graph_from_S F g0 thing0 = some r) : Meets Try.prog [] 35 [] [.one (.sl 4 (g0.map eGEdge)), .one (.i thing0)] (Is [(51, .mq r)] (.b (.row 51))) := by
 unfold sensor_graph_from_S at h
 refine Meets.intro 13 Try.func35 Try.ntmps35 rfl (by simp) fun E => ?_
 show Tri _ E ⟨13, [], [], []⟩ _ ⟨[(0, .b (.one (.sl 4 (g0.map eGEdge)))), (1, I thing0)], []⟩ _
 refine Tri.seq (Tri.regionL ?_)
 refine Oc (op_nilmap) (OpsL.nilS ⟨[(0, .b (.one (.sl 4 (g0.map eGEdge)))), (1, I thing0)], []⟩ rfl (Tri.seq (Tri.regionL ?_)))
 refine Oc (op_makeMapI (k := 101) undm71 rfl) (Oc om (Oc (op_minsI tyMap71 rfl rfl rfl rfl) (Oc om (Oc oa ?_))))
 refine OpsL.nilS ⟨[(0, _), (5, .b (.row 101))], [(101, .mq (mset ([] : MapI) thing0 0))]⟩ rfl (Tri.seq (Tri.regionL ?_))
 refine Oc om (Oc om ?_)
 obtain ⟨⟨x_1, x_2⟩, e1, h⟩ := bnd h
 refine Oc (op_call (own_a := [(101, _)]) ((sensor_graph_least_spec e1).sw 1 101) goes54 rfl ⟨rfl, trivial⟩ rfl rfl) (OpsL.nilS ⟨[(5, _)], [(101, .mq x_2)]⟩ rfl (Tri.seq (Tri.regionL ?_)))
 refine Oc om (Oc oa ?_)
 refine OpsL.nilS ⟨[(4, .b (.row 101))], [(101, _)]⟩ rfl (Tri.ret ?_)
 obtain rfl := Option.some.inj h
 refine Fin.keepS ⟨[(4, .b (.row 101))], [(101, .mq x_2)]⟩ rfl (Fin.rename 101 51 rfl (by decide) rfl (Fin.keepS ⟨[(4, .b (.row 51))], [(51, .mq x_2)]⟩ rfl ?_))
 exact Fin.result [.row 51] (.inl rfl) rfl (.cons (.tmp rfl) .nil) ⟨rfl, rfl⟩
def slices_Clone_S (F : Nat) (s0 : List GEdge) : Option (List GEdge) :=
 (app? [] s0).bind fun x_2 => some x_2
theorem slices_Clone_spec (kr0 : Nat) {F : Nat} {s0 : List GEdge} {r : (List GEdge)} (h : slices_Clone_S F s0 = some r) : Meets Try.prog [] 55 [] [.one (.sl 4 (s0.map eGEdge))] (Is [(kr0, .row 87 4 (r.map eGEdge))] (.b (.row kr0))) := by
 unfold slices_Clone_S at h
 refine Meets.intro 8 Try.func55 Try.ntmps55 rfl (by simp) fun E => ?_
 show Tri _ E ⟨8, [], [], []⟩ _ ⟨[(0, .b (.one (.sl 4 (s0.map eGEdge))))], []⟩ _
 refine Tri.seq (Tri.regionL ?_)
 refine Oc oa (OpsL.nilS ⟨[(0, .b (.one (.sl 4 (s0.map eGEdge))))], []⟩ rfl (Tri.seq (Tri.seq (Tri.regionL ?_))))
 refine Oc om (OpsL.eqnil_e und69 rfl (fun nb_1 hnb1 => ?_))
 refine OpsL.nilS ⟨[(0, _), (4, B nb_1)], []⟩ rfl (Tri.cond rfl (fun hc2 => ?_) (fun _ => ?_))
 ·
  obtain rfl : s0 = [] := by simpa using hnb1 hc2
  refine Tri.seq (Tri.regionL ?_)
  refine Oc oa (OpsL.nilS ⟨[(2, .b (.one (.nil)))], []⟩ rfl (Tri.ret (Fin.then_ret ?_)))
  obtain rfl : [] = r := by first | (simp [app?] at h; exact h) | (simp [app?] at h; exact h.symm)
  refine Fin.keepS ⟨[(2, _)], []⟩ rfl (Fin.nilrow 2 101 4 87 rfl (by decide) rfl (Fin.resultK 101 kr0 [.row 101] (.inl rfl) rfl (.cons (.tmp rfl) .nil) rfl rfl rfl rfl ⟨rfl, rfl⟩))
 ·refine Tri.skip (Fin.keepS ⟨[(0, _)], []⟩ rfl (Fin.then (Tri.seq (Tri.regionL ?_))))
  refine Oc (op_build0 (k := 101) tySl69 rfl) (Oc om ?_)
  obtain ⟨x_2, e3, h⟩ := bnd h
  refine Oc (op_append tySl69 (app_b e3) (app_m e3) rfl rfl rfl (app_map e3) rfl) (Oc oa ?_)
  refine OpsL.nilS ⟨[(2, .b (.row 101))], [(101, .row 87 4 (x_2.map eGEdge))]⟩ rfl (Tri.ret ?_)
  obtain rfl := Option.some.inj h
  refine Fin.keepS ⟨[(2, _)], [(101, _)]⟩ rfl (Fin.resultK 101 kr0 [.row 101] (.inl rfl) rfl (.cons (.tmp rfl) .nil) rfl rfl rfl rfl ⟨rfl, rfl⟩)
def sensor_graph_back_S (F : Nat) (g0 : List GEdge) : Option (List GEdge) :=
 (slices_Clone_S F g0).bind fun x_1 => Option.bind (iter F (un2 fun out_3 x_4 => if (decide (x_4 < (x_1.length : Int))) = true then ((idx? out_3 x_4).bind fun x_6 => (idx? out_3 x_4).bind fun x_7 => (idx? out_3 x_4).bind fun x_8 => (idx? (out_3.set (x_4 : Int).toNat (⟨x_6.to, x_8.to, x_8.weight, x_8.report⟩ : GEdge)) x_4).bind fun x_9 => some (.inl ((out_3.set (x_4 : Int).toNat (⟨x_6.to, x_8.to, x_8.weight, x_8.report⟩ : GEdge)).set (x_4 : Int).toNat (⟨x_9.src, x_7.src, x_9.weight, x_9.report⟩ : GEdge), IntKind.i64.wrap (x_4 + 1)))) else (some (.inr out_3))) (x_1, 0)) (fun out_2 => some out_2)
theorem sensor_graph_back_spec (kr0 : Nat) {F : Nat} {g0 : List GEdge} {r : (List GEdge)} (h : sensor_graph_back_S F g0 = some r) : Meets Try.prog [] 36 [] [.one (.sl 4 (g0.map eGEdge))] (Is [(kr0, .row 87 4 (r.map eGEdge))] (.b (.row kr0))) := by
 unfold sensor_graph_back_S at h
 refine Meets.intro 32 Try.func36 Try.ntmps36 rfl (by simp) fun E => ?_
 show Tri _ E ⟨32, [], [], []⟩ _ ⟨[(0, .b (.one (.sl 4 (g0.map eGEdge))))], []⟩ _
 refine Tri.seq (Tri.regionL ?_)
 refine Oc oa (OpsL.nilS ⟨[(0, .b (.one (.sl 4 (g0.map eGEdge))))], []⟩ rfl (Tri.seq (Tri.regionL ?_)))
 refine Oc om ?_
 obtain ⟨x_1, e1, h⟩ := bnd h
 refine Oc (op_call (slices_Clone_spec 101 e1) goes55 rfl trivial rfl rfl) (Oc oa ?_)
 refine OpsL.nilS ⟨[(3, .b (.row 101))], [(101, .row 87 4 (x_1.map eGEdge))]⟩ rfl ?_
 obtain ⟨v2, h3, h⟩ := bnd h
 refine Tri.seqJ (v := v2) (fun (out_2 : List GEdge) => ⟨[(3, .b (.row 101))], [(101, .row 87 4 (out_2.map eGEdge))]⟩) (fun z => z) ?_ ?_
 ·refine Tri.seq (Tri.regionL ?_)
  refine Oc om (Oc (op_len_r' und69 rfl rfl (List.length_map _)) (Oc om ?_))
  refine OpsL.nilS ⟨[(3, _), (8, I (x_1.length : Int)), (9, I 0)], [(101, _)]⟩ rfl (Tri.block (Tri.loopJ h3 (un2 fun (out_3 : List GEdge) (x_4 : Int) => ⟨[(3, .b (.row 101)), (8, I (x_1.length : Int)), (9, I x_4)], [(101, .row 87 4 (out_3.map eGEdge))]⟩) [3, 8, 9] [101] rfl ?_))
  rintro ⟨out_3, x_4⟩ o4 h5 hy6
  refine Tri.seq (Tri.regionL ?_)
  refine Oc (op_lss rfl rfl) (OpsL.nilS ⟨[(3, _), (8, _), (9, _), (10, B (decide (x_4 < (x_1.length : Int))))], [(101, _)]⟩ rfl (Tri.seq (Tri.ite h5 rfl (fun _ h5 => ?_) (fun _ h5 => ?_))))
  ·refine Tri.skip (Fin.keepS ⟨[(3, _), (8, _), (9, _)], [(101, _)]⟩ rfl (Fin.then (Tri.seq (Tri.block (Tri.seq (Tri.regionL ?_))))))
   refine Oc om (Oc oa ?_)
   refine OpsL.nilS ⟨[(3, _), (4, I x_4), (8, _), (9, _)], [(101, _)]⟩ rfl ?_
   obtain ⟨x_6, e7, h5⟩ := bnd h5
   obtain ⟨x_7, e8, h5⟩ := bnd h5
   obtain ⟨x_8, e9, h5⟩ := bnd h5
   obtain ⟨x_9, e10, h5⟩ := bnd h5
   refine Tri.regionWF mixed [false, false, false, false, false, false, false, false, false, false, false, false, false, false, false, false, true, false, false, true] [.b (.row 101), I x_4, .b (.row 101), I x_4, .b (.row 101), I x_4, .b (.rptr 101 ((x_4 : Int).toNat * 4)), .b (.rptr 101 ((x_4 : Int).toNat * 4 + 1)), I x_6.to, .b (.row 101), I x_4, .b (.rptr 101 ((x_4 : Int).toNat * 4)), .b (.rptr 101 ((x_4 : Int).toNat * 4)), I x_7.src, .b (.rptr 101 ((x_4 : Int).toNat * 4)), .b (.rptr 101 ((x_4 : Int).toNat * 4)), B true, .b (.rptr 101 ((x_4 : Int).toNat * 4)), .b (.rptr 101 ((x_4 : Int).toNat * 4 + 1)), B true] [⟨[false, false, false, false, false, false, false, false, false, false, false, false, false, false, false, false, false, false, false, false], [(3, .b (.row 101)), (4, I x_4), (8, I (x_1.length : Int)), (9, I x_4)], [(101, .row 87 4 (out_3.map eGEdge))], [true, true, true, true, true, true, true, true, true, true, true, true, true, true, true, true, true, true, true, true], []⟩, ⟨[false, false, false, false, false, false, false, false, false, false, false, false, false, false, false, false, true, false, false, false], [(3, .b (.row 101)), (4, I x_4), (8, I (x_1.length : Int)), (9, I x_4)], [(101, .row 87 4 ((out_3.set (x_4 : Int).toNat (⟨x_6.to, x_8.to, x_8.weight, x_8.report⟩ : GEdge)).map eGEdge))], [true, true, true, true, true, true, true, true, true, true, true, true, true, true, true, true, true, true, true, true], [0, 1, 4, 5, 6, 7, 8, 9, 10, 11, 12, 13, 14, 15, 16]⟩, ⟨[false, false, false, false, false, false, false, false, false, false, false, false, false, false, false, false, true, false, false, true], [(3, .b (.row 101)), (4, I x_4), (8, I (x_1.length : Int)), (9, I x_4)], [(101, .row 87 4 (((out_3.set (x_4 : Int).toNat (⟨x_6.to, x_8.to, x_8.weight, x_8.report⟩ : GEdge)).set (x_4 : Int).toNat (⟨x_9.src, x_7.src, x_9.weight, x_9.report⟩ : GEdge)).map eGEdge))], [true, true, true, true, true, true, true, true, true, true, true, true, true, true, true, true, true, true, true, true], [0, 1, 2, 3, 4, 5, 6, 7, 8, 9, 10, 11, 12, 13, 14, 15, 16, 17, 18, 19]⟩] rfl (⟨by kernel_rfl, ⟨⟨.b (.row 101), fun _ => rfl, fun _ => .p (by exact op_move rfl)⟩, ⟨I x_4, fun _ => rfl, fun _ => .p (by exact op_move rfl)⟩, ⟨.b (.row 101), fun _ => rfl, fun _ => .p (by exact op_move rfl)⟩, ⟨I x_4, fun _ => rfl, fun _ => .p (by exact op_move rfl)⟩, ⟨.b (.row 101), fun _ => rfl, fun _ => .p (by exact op_move rfl)⟩, ⟨I x_4, fun _ => rfl, fun _ => .p (by exact op_move rfl)⟩, ⟨.b (.rptr 101 ((x_4 : Int).toNat * 4)), fun _ => rfl, fun _ => .p (by exact op_index_r tySl69 (ix_lo e7) (ix_lt' e7) rfl rfl rfl rfl)⟩, ⟨.b (.rptr 101 ((x_4 : Int).toNat * 4 + 1)), fun _ => rfl, fun _ => .p (by exact op_field_r tyFld87_1 rfl rfl)⟩, ⟨I x_6.to, fun _ => rfl, fun _ => .p (by exact op_load_r1 (i := (x_4 : Int).toNat) (f := 1) tyOne3 rfl rfl rfl (ix_map (e := eGEdge) e7) rfl)⟩, ⟨.b (.row 101), fun _ => rfl, fun _ => .p (by exact op_move rfl)⟩, ⟨I x_4, fun _ => rfl, fun _ => .p (by exact op_move rfl)⟩, ⟨.b (.rptr 101 ((x_4 : Int).toNat * 4)), fun _ => rfl, fun _ => .p (by exact op_index_r tySl69 (ix_lo e8) (ix_lt' e8) rfl rfl rfl rfl)⟩, ⟨.b (.rptr 101 ((x_4 : Int).toNat * 4)), fun _ => rfl, fun _ => .p (by exact op_field_r tyFld87_0 rfl rfl)⟩, ⟨I x_7.src, fun _ => rfl, fun _ => .p (by exact op_load_r1 (i := (x_4 : Int).toNat) (f := 0) tyOne3 rfl rfl rfl (ix_map (e := eGEdge) e8) rfl)⟩, ⟨.b (.rptr 101 ((x_4 : Int).toNat * 4)), fun _ => rfl, fun _ => .p (by exact op_index_r tySl69 (ix_lo e9) (ix_lt' e9) rfl rfl rfl rfl)⟩, ⟨.b (.rptr 101 ((x_4 : Int).toNat * 4)), fun _ => rfl, fun _ => .p (by exact op_field_r tyFld87_0 rfl rfl)⟩, ⟨_, none, .b (.one .any), rfl, (fun e => by simp at e), rfl, rfl, fun _ => .toO [101] (by exact .p (by exact op_store_rf1 (i := (x_4 : Int).toNat) (f := 0) tyOne3 rfl rfl rfl rfl (ix_map (e := eGEdge) e9) (by decide) (part_set (z' := (⟨x_6.to, x_8.to, x_8.weight, x_8.report⟩ : GEdge)) rfl))) (by exact rfl)⟩, trivial, trivial, trivial, trivial⟩, ⟨by kernel_rfl, ⟨trivial, trivial, ⟨.b (.row 101), fun _ => rfl, fun _ => .p (by exact op_move rfl)⟩, ⟨I x_4, fun _ => rfl, fun _ => .p (by exact op_move rfl)⟩, trivial, trivial, trivial, trivial, trivial, trivial, trivial, trivial, trivial, trivial, trivial, trivial, trivial, ⟨.b (.rptr 101 ((x_4 : Int).toNat * 4)), fun _ => rfl, fun _ => .p (by exact op_index_r tySl69 (ix_lo e10) (ix_lt' e10) rfl rfl rfl rfl)⟩, ⟨.b (.rptr 101 ((x_4 : Int).toNat * 4 + 1)), fun _ => rfl, fun _ => .p (by exact op_field_r tyFld87_1 rfl rfl)⟩, ⟨_, none, .b (.one .any), rfl, (fun e => by simp at e), rfl, rfl, fun _ => .toO [101] (by exact .p (by exact op_store_rf1 (i := (x_4 : Int).toNat) (f := 1) tyOne3 rfl rfl rfl rfl (ix_map (e := eGEdge) e10) (by decide) (part_set (z' := (⟨x_9.src, x_7.src, x_9.weight, x_9.report⟩ : GEdge)) rfl))) (by exact rfl)⟩, trivial⟩, ⟨by kernel_rfl, ⟨trivial, trivial, trivial, trivial, trivial, trivial, trivial, trivial, trivial, trivial, trivial, trivial, trivial, trivial, trivial, trivial, trivial, trivial, trivial, trivial, trivial⟩, trivial⟩⟩⟩) rfl rfl rfl [3, 8, 9] [101] (s' := ⟨[(3, _), (8, _), (9, _)], [(101, .row 87 4 (((out_3.set (x_4 : Int).toNat (⟨x_6.to, x_8.to, x_8.weight, x_8.report⟩ : GEdge)).set (x_4 : Int).toNat (⟨x_9.src, x_7.src, x_9.weight, x_9.report⟩ : GEdge)).map eGEdge))]⟩) rfl ?_
   refine Fin.block_normal (Fin.keepS ⟨[(3, _), (8, _), (9, _)], [(101, _)]⟩ rfl (Fin.then (Tri.regionL ?_)))
   refine Oc (op_add rfl rfl) (Oc om ?_)
   refine OpsL.nil ?_
   exact Fin.againJ [3, 8, 9] [101] ((out_3.set (x_4 : Int).toNat (⟨x_6.to, x_8.to, x_8.weight, x_8.report⟩ : GEdge)).set (x_4 : Int).toNat (⟨x_9.src, x_7.src, x_9.weight, x_9.report⟩ : GEdge), IntKind.i64.wrap (x_4 + 1)) (Option.some.inj h5) rfl
  ·refine Tri.exit (Fin.then_exit ?_)
   obtain rfl := hy6 _ (Option.some.inj h5).symm
   refine Fin.then_exit (Fin.block_exit ?_)
   exact Fin.join [3] [101] out_3 rfl rfl
 ·rintro out_2 hv
  subst v2
  refine Tri.seq (Tri.regionL ?_)
  refine Oc om (Oc oa ?_)
  refine OpsL.nilS ⟨[(2, .b (.row 101))], [(101, _)]⟩ rfl (Tri.ret ?_)
  obtain rfl := Option.some.inj h
  refine Fin.keepS ⟨[(2, _)], [(101, _)]⟩ rfl (Fin.resultK 101 kr0 [.row 101] (.inl rfl) rfl (.cons (.tmp rfl) .nil) rfl rfl rfl rfl ⟨rfl, rfl⟩)
def sensor_Boxes_S (F : Nat) (l0 : List Report) (now0 : Int) : Option ((List Arr3Bound) × Int) :=
 (sensor_Consistent_S F l0 now0).bind fun x_1 => if (!x_1) = true then (some ([], 200)) else ((sensor_things_S F l0).bind fun x_2 => Option.bind (mk? ((⟨(⟨0, 0, false, false⟩ : Bound), (⟨0, 0, false, false⟩ : Bound), (⟨0, 0, false, false⟩ : Bound)⟩ : Arr3Bound) : Arr3Bound) x_2 x_2) (fun x_3 => Option.bind (iter F (un2 fun out_5 x_6 => if (decide (x_6 < 3)) = true then (Option.bind ((sensor_edges_S F l0 now0 x_6).bind fun x_9 => (sensor_graph_from_S F x_9 0).bind fun x_10 => (sensor_graph_back_S F x_9).bind fun x_11 => (sensor_graph_from_S F x_11 0).bind fun x_12 => Option.bind (iter F (un2 fun out_13 x_14 => if (decide (x_14 < (out_5.length : Int))) = true then ((idx? out_13 x_14).bind fun x_16 => (idx? x_16.l x_6).bind fun x_17 => letN (mGet x_10 (IntKind.i64.wrap (x_14 + 1))) fun x_18 => (idx? (out_13.set (x_14 : Int).toNat (x_16.set x_6 (⟨x_17.Lo, x_18, x_17.Below, x_17.Above⟩ : Bound))) x_14).bind fun x_19 => (idx? x_19.l x_6).bind fun x_20 => letN (mGet x_12 (IntKind.i64.wrap (x_14 + 1))) fun x_21 => (idx? ((out_13.set (x_14 : Int).toNat (x_16.set x_6 (⟨x_17.Lo, x_18, x_17.Below, x_17.Above⟩ : Bound))).set (x_14 : Int).toNat (x_19.set x_6 (⟨x_20.Lo, x_20.Hi, x_20.Below, mHas x_10 (IntKind.i64.wrap (x_14 + 1))⟩ : Bound))) x_14).bind fun x_22 => (idx? x_22.l x_6).bind fun x_23 => (idx? (((out_13.set (x_14 : Int).toNat (x_16.set x_6 (⟨x_17.Lo, x_18, x_17.Below, x_17.Above⟩ : Bound))).set (x_14 : Int).toNat (x_19.set x_6 (⟨x_20.Lo, x_20.Hi, x_20.Below, mHas x_10 (IntKind.i64.wrap (x_14 + 1))⟩ : Bound))).set (x_14 : Int).toNat (x_22.set x_6 (⟨x_21, x_23.Hi, x_23.Below, x_23.Above⟩ : Bound))) x_14).bind fun x_24 => (idx? x_24.l x_6).bind fun x_25 => (idx? ((((out_13.set (x_14 : Int).toNat (x_16.set x_6 (⟨x_17.Lo, x_18, x_17.Below, x_17.Above⟩ : Bound))).set (x_14 : Int).toNat (x_19.set x_6 (⟨x_20.Lo, x_20.Hi, x_20.Below, mHas x_10 (IntKind.i64.wrap (x_14 + 1))⟩ : Bound))).set (x_14 : Int).toNat (x_22.set x_6 (⟨x_21, x_23.Hi, x_23.Below, x_23.Above⟩ : Bound))).set (x_14 : Int).toNat (x_24.set x_6 (⟨x_25.Lo, x_25.Hi, mHas x_12 (IntKind.i64.wrap (x_14 + 1)), x_25.Above⟩ : Bound))) x_14).bind fun x_26 => (idx? x_26.l x_6).bind fun x_27 => (idx? ((((out_13.set (x_14 : Int).toNat (x_16.set x_6 (⟨x_17.Lo, x_18, x_17.Below, x_17.Above⟩ : Bound))).set (x_14 : Int).toNat (x_19.set x_6 (⟨x_20.Lo, x_20.Hi, x_20.Below, mHas x_10 (IntKind.i64.wrap (x_14 + 1))⟩ : Bound))).set (x_14 : Int).toNat (x_22.set x_6 (⟨x_21, x_23.Hi, x_23.Below, x_23.Above⟩ : Bound))).set (x_14 : Int).toNat (x_24.set x_6 (⟨x_25.Lo, x_25.Hi, mHas x_12 (IntKind.i64.wrap (x_14 + 1)), x_25.Above⟩ : Bound))) x_14).bind fun x_28 => (idx? x_28.l x_6).bind fun x_29 => some (.inl (((((out_13.set (x_14 : Int).toNat (x_16.set x_6 (⟨x_17.Lo, x_18, x_17.Below, x_17.Above⟩ : Bound))).set (x_14 : Int).toNat (x_19.set x_6 (⟨x_20.Lo, x_20.Hi, x_20.Below, mHas x_10 (IntKind.i64.wrap (x_14 + 1))⟩ : Bound))).set (x_14 : Int).toNat (x_22.set x_6 (⟨x_21, x_23.Hi, x_23.Below, x_23.Above⟩ : Bound))).set (x_14 : Int).toNat (x_24.set x_6 (⟨x_25.Lo, x_25.Hi, mHas x_12 (IntKind.i64.wrap (x_14 + 1)), x_25.Above⟩ : Bound))).set (x_14 : Int).toNat (x_28.set x_6 (⟨IntKind.i64.wrap (-x_27.Lo), x_29.Hi, x_29.Below, x_29.Above⟩ : Bound)), IntKind.i64.wrap (x_14 + 1)))) else (some (.inr out_13))) (out_5, 0)) (fun out_15 => some out_15)) (fun out_8 => some (.inl (out_8, IntKind.i64.wrap (x_6 + 1))))) else (some (.inr out_5))) (x_3, 0)) (fun out_4 => some (out_4, 0))))
theorem sensor_Boxes_spec (kr0 : Nat) {F : Nat} {l0 : List Report} {now0 : Int} {r : (List Arr3Bound) × Int} (h : sensor_Boxes_S F l0 now0 = some r) : Meets Try.prog [] 10 [] [.one (.sl 6 (l0.map eReport)), .one (.i now0)] (Is [(kr0, .row 36 12 (r.1.map eArr3Bound))] (.tup [.row kr0, .one (.i r.2)])) := by
 unfold sensor_Boxes_S at h
 refine Meets.intro 79 Try.func10 Try.ntmps10 rfl (by simp) fun E => ?_
 show Tri _ E ⟨79, [], [], []⟩ _ ⟨[(0, .b (.one (.sl 6 (l0.map eReport)))), (1, I now0)], []⟩ _
 refine Tri.seq (Tri.regionL ?_)
 refine Oc oa (Oc oa ?_)
 refine OpsL.nilS ⟨[(0, .b (.one (.sl 6 (l0.map eReport)))), (1, I now0)], []⟩ rfl (Tri.seq (Tri.seq (Tri.regionL ?_)))
 refine Oc om (Oc om ?_)
 obtain ⟨x_1, e1, h⟩ := bnd h
 refine Oc (op_call0 (sensor_Consistent_spec e1) goes17 rfl rfl) (Oc (op_not rfl) ?_)
 refine OpsL.nilS ⟨[(0, _), (1, _), (16, B (!x_1))], []⟩ rfl (Tri.ite h rfl (fun _ h => ?_) (fun _ h => ?_))
 ·refine Tri.seq (Tri.regionL ?_)
  refine Oc oa (Oc oa ?_)
  refine OpsL.nilS ⟨[(4, .b (.one (.nil))), (5, I 200)], []⟩ rfl (Tri.ret (Fin.then_ret ?_))
  obtain rfl := Option.some.inj h
  refine Fin.keepS ⟨[(4, _), (5, _)], []⟩ rfl (Fin.nilrow 4 101 12 36 rfl (by decide) rfl (Fin.resultK 101 kr0 [.row 101, .one (.i 200)] (.inl rfl) rfl (.cons (.tmp rfl) (.cons (.tmp rfl) .nil)) rfl rfl rfl rfl ⟨rfl, rfl⟩))
 ·refine Tri.skip (Fin.keepS ⟨[(0, _), (1, _)], []⟩ rfl (Fin.then (Tri.seq (Tri.regionL ?_))))
  refine Oc om ?_
  obtain ⟨x_2, e2, h⟩ := bnd h
  refine Oc (op_call0 (sensor_things_spec e2) goes33 rfl rfl) ?_
  obtain ⟨x_3, e3, h⟩ := bnd h
  refine Oc (op_makeSlice (k := 102) (enc := eArr3Bound) tySl27 e3 (by decide) (.cons .refl (.cons .refl (.cons .refl (.cons .refl (.cons .refl (.cons .refl (.cons .refl (.cons .refl (.cons .refl (.cons .refl (.cons .refl (.cons .refl .nil)))))))))))) rfl rfl rfl) (Oc oa ?_)
  refine OpsL.nilS ⟨[(0, _), (1, _), (6, .b (.row 102))], [(102, .row 36 12 (x_3.map eArr3Bound))]⟩ rfl ?_
  obtain ⟨v4, h5, h⟩ := bnd h
  refine Tri.seqJ (v := v4) (fun (out_4 : List Arr3Bound) => ⟨[(6, .b (.row 102))], [(102, .row 36 12 (out_4.map eArr3Bound))]⟩) (fun z => z) ?_ ?_
  ·refine Tri.seq (Tri.regionL ?_)
   refine Oc om (OpsL.nilS ⟨[(0, _), (1, _), (6, _), (20, I 0)], [(102, _)]⟩ rfl (Tri.block (Tri.loopJ h5 (un2 fun (out_5 : List Arr3Bound) (x_6 : Int) => ⟨[(0, .b (.one (.sl 6 (l0.map eReport)))), (1, I now0), (6, .b (.row 102)), (20, I x_6)], [(102, .row 36 12 (out_5.map eArr3Bound))]⟩) [0, 1, 6, 20] [102] rfl ?_)))
   rintro ⟨out_5, x_6⟩ o6 h7 hy8
   refine Tri.seq (Tri.regionL ?_)
   refine Oc (op_lss rfl rfl) (OpsL.nilS ⟨[(0, _), (1, _), (6, _), (20, _), (21, B (decide (x_6 < 3)))], [(102, _)]⟩ rfl (Tri.seq (Tri.ite h7 rfl (fun _ h7 => ?_) (fun _ h7 => ?_))))
   ·refine Tri.skip (Fin.keepS ⟨[(0, _), (1, _), (6, _), (20, _)], [(102, _)]⟩ rfl (Fin.then ?_))
    obtain ⟨v9, h10, h7⟩ := bnd h7
    refine Tri.seqJ (v := v9) (fun (out_8 : List Arr3Bound) => ⟨[(0, .b (.one (.sl 6 (l0.map eReport)))), (1, I now0), (6, .b (.row 102)), (20, I x_6)], [(102, .row 36 12 (out_8.map eArr3Bound))]⟩) (fun z => z) ?_ ?_
    ·refine Tri.block (Tri.seq (Tri.regionL ?_))
     refine Oc om (Oc oa ?_)
     refine OpsL.nilS ⟨[(0, _), (1, _), (6, _), (7, I x_6), (20, _)], [(102, _)]⟩ rfl (Tri.seq (Tri.regionL ?_))
     refine Oc om (Oc om (Oc om ?_))
     obtain ⟨x_9, e11, h10⟩ := bnd h10
     refine Oc (op_call (own_a := []) ((sensor_edges_spec e11).sw 51 103) goes34 rfl trivial rfl rfl) (Oc oa ?_)
     refine OpsL.nilS ⟨[(0, _), (1, _), (6, _), (7, _), (8, .b (.row 103)), (20, _)], [(102, _), (103, .row 87 4 (x_9.map eGEdge))]⟩ rfl (Tri.seq (Tri.regionL ?_))
     refine Oc om (OpsL.persist 103 rfl ?_)
     obtain ⟨x_10, e12, h10⟩ := bnd h10
     refine Oc (op_call (own_a := []) ((sensor_graph_from_spec e12).sw 51 104) goes35 rfl trivial rfl rfl) (Oc om ?_)
     refine OpsL.keepS ⟨[(0, .b (.one (.sl 6 (l0.map eReport)))), (1, I now0), (6, .b (.row 102)), (7, I x_6), (20, I x_6), (28, .b (.row 104)), (29, .b (.one (.sl 4 (x_9.map eGEdge))))], [(102, .row 36 12 (out_5.map eArr3Bound)), (104, .mq x_10)]⟩ rfl ?_
     obtain ⟨x_11, e13, h10⟩ := bnd h10
     refine Oc (op_call (sensor_graph_back_spec 105 e13) goes36 rfl trivial rfl rfl) (OpsL.persist 105 rfl ?_)
     obtain ⟨x_12, e14, h10⟩ := bnd h10
     refine Oc (op_call (own_a := []) ((sensor_graph_from_spec e14).sw 51 106) goes35 rfl trivial rfl rfl) (Oc oa (Oc oa ?_))
     refine OpsL.nilS ⟨[(0, .b (.one (.sl 6 (l0.map eReport)))), (1, I now0), (6, .b (.row 102)), (7, I x_6), (9, .b (.row 104)), (10, .b (.row 106)), (20, I x_6)], [(102, .row 36 12 (out_5.map eArr3Bound)), (104, .mq x_10), (106, .mq x_12)]⟩ rfl (Tri.seq (Tri.regionL ?_))
     refine Oc om (Oc (op_len_r' und27 rfl rfl (List.length_map _)) (Oc om ?_))
     refine OpsL.nilS ⟨[(0, _), (1, _), (6, _), (7, _), (9, _), (10, _), (20, _), (33, I (out_5.length : Int)), (34, I 0)], [(102, _), (104, _), (106, _)]⟩ rfl (Tri.block ?_)
     obtain ⟨v15, h16, h10⟩ := bnd h10
     refine Tri.loopJ h16 (un2 fun (out_13 : List Arr3Bound) (x_14 : Int) => ⟨[(0, .b (.one (.sl 6 (l0.map eReport)))), (1, I now0), (6, .b (.row 102)), (7, I x_6), (9, .b (.row 104)), (10, .b (.row 106)), (20, I x_6), (33, I (out_5.length : Int)), (34, I x_14)], [(102, .row 36 12 (out_13.map eArr3Bound)), (104, .mq x_10), (106, .mq x_12)]⟩) [0, 1, 6, 7, 9, 10, 20, 33, 34] [102, 104, 106] rfl ?_
     rintro ⟨out_13, x_14⟩ o17 h18 hy19
     refine Tri.seq (Tri.regionL ?_)
     refine Oc (op_lss rfl rfl) (OpsL.nilS ⟨[(0, _), (1, _), (6, _), (7, _), (9, _), (10, _), (20, _), (33, _), (34, _), (35, B (decide (x_14 < (out_5.length : Int))))], [(102, _), (104, _), (106, _)]⟩ rfl (Tri.seq (Tri.ite h18 rfl (fun _ h18 => ?_) (fun _ h18 => ?_))))
     ·refine Tri.skip (Fin.keepS ⟨[(0, _), (1, _), (6, _), (7, _), (9, _), (10, _), (20, _), (33, _), (34, _)], [(102, _), (104, _), (106, _)]⟩ rfl (Fin.then (Tri.seq (Tri.block (Tri.seq (Tri.regionL ?_))))))
      refine Oc om (Oc oa ?_)
      refine OpsL.nilS ⟨[(0, _), (1, _), (6, _), (7, _), (9, _), (10, _), (11, I x_14), (20, _), (33, _), (34, _)], [(102, _), (104, _), (106, _)]⟩ rfl (Tri.seq (Tri.regionL ?_))
      refine Oc om (Oc om (Oc om ?_))
      obtain ⟨x_16, e20, h18⟩ := bnd h18
      refine Oc (op_index_r tySl27 (ix_lo e20) (ix_lt' e20) rfl rfl rfl rfl) ?_
      obtain ⟨x_17, e21, h18⟩ := bnd h18
      refine Oc (op_index_ra tyArr36 (ix_lo e21) (ix_hi e21) rfl rfl rfl) (Oc oa ?_)
      refine OpsL.nilS ⟨[(0, _), (1, _), (6, _), (7, _), (9, _), (10, _), (11, _), (12, .b (.rptr 102 ((x_14 : Int).toNat * 12 + (x_6 : Int).toNat * 4))), (20, _), (33, _), (34, _)], [(102, _), (104, _), (106, _)]⟩ rfl (Tri.seq (Tri.regionL ?_))
      refine Oc om (Oc om (Oc om (Oc om (Oc (op_add rfl rfl) (Oc (op_mgetI2 tyMap71 rfl rfl rfl) ?_)))))
      refine Oc om (OpsL.keepS ⟨[(0, _), (1, _), (6, _), (7, _), (9, _), (10, _), (11, _), (12, _), (20, _), (33, _), (34, _), (42, .tup [.one (.i (mGet x_10 (IntKind.i64.wrap (x_14 + 1)))), .one (.bool (mHas x_10 (IntKind.i64.wrap (x_14 + 1))))]), (43, .b (.rptr 102 ((x_14 : Int).toNat * 12 + (x_6 : Int).toNat * 4))), (44, .b (.rptr 102 ((x_14 : Int).toNat * 12 + (x_6 : Int).toNat * 4)))], [(102, _), (104, _), (106, _)]⟩ rfl (OpsL.consI .i64 h18 rfl (op_extract rfl rfl) (fun x_18 h18 => ?_)))
      refine Oc (op_extract rfl rfl) (Oc (op_nilCheck_r rfl) (Oc (op_field_r tyFld35_1 rfl rfl) (Oc (op_store_rf1 (i := (x_14 : Int).toNat) (f := (x_6 : Int).toNat * 4 + 1) tyOne3 rfl rfl rfl (off_in rfl) (ix_map (e := eArr3Bound) e20) (part_lt (m := 1) (f := 1) (sz := 4) (ix_lo e21) (ix_hi e21) (by decide) (Nat.le_of_ble_eq_true rfl)) (part_set (z' := x_16.set x_6 (⟨x_17.Lo, x_18, x_17.Below, x_17.Above⟩ : Bound)) (arr_part (e := eBound) (sz := 4) (f := 1) (Arr3Bound.e_l) (fun _ => rfl) e21 (Nat.le_of_ble_eq_true rfl) rfl (Arr3Bound.set_l _ _ _)))) (Oc (op_nilCheck_r rfl) (Oc (op_field_r tyFld35_3 rfl rfl) ?_)))))
      obtain ⟨x_19, e22, h18⟩ := bnd h18
      obtain ⟨x_20, e23, h18⟩ := bnd h18
      refine Oc (op_store_rf1 (i := (x_14 : Int).toNat) (f := (x_6 : Int).toNat * 4 + 3) tyOne4 rfl rfl rfl (off_in rfl) (ix_map (e := eArr3Bound) e22) (part_lt (m := 1) (f := 3) (sz := 4) (ix_lo e23) (ix_hi e23) (by decide) (Nat.le_of_ble_eq_true rfl)) (part_set (z' := x_19.set x_6 (⟨x_20.Lo, x_20.Hi, x_20.Below, mHas x_10 (IntKind.i64.wrap (x_14 + 1))⟩ : Bound)) (arr_part (e := eBound) (sz := 4) (f := 3) (Arr3Bound.e_l) (fun _ => rfl) e23 (Nat.le_of_ble_eq_true rfl) rfl (Arr3Bound.set_l _ _ _)))) (OpsL.nilS ⟨[(0, _), (1, _), (6, _), (7, _), (9, _), (10, _), (11, _), (12, _), (20, _), (33, _), (34, _)], [(102, .row 36 12 (((out_13.set (x_14 : Int).toNat (x_16.set x_6 (⟨x_17.Lo, x_18, x_17.Below, x_17.Above⟩ : Bound))).set (x_14 : Int).toNat (x_19.set x_6 (⟨x_20.Lo, x_20.Hi, x_20.Below, mHas x_10 (IntKind.i64.wrap (x_14 + 1))⟩ : Bound))).map eArr3Bound)), (104, _), (106, _)]⟩ rfl (Tri.seq (Tri.regionL ?_)))
      refine Oc om (Oc om (Oc om (Oc om (Oc (op_add rfl rfl) (Oc (op_mgetI2 tyMap71 rfl rfl rfl) ?_)))))
      refine Oc om (OpsL.keepS ⟨[(0, _), (1, _), (6, _), (7, _), (9, _), (10, _), (12, _), (20, _), (33, _), (34, _), (55, .tup [.one (.i (mGet x_12 (IntKind.i64.wrap (x_14 + 1)))), .one (.bool (mHas x_12 (IntKind.i64.wrap (x_14 + 1))))]), (56, .b (.rptr 102 ((x_14 : Int).toNat * 12 + (x_6 : Int).toNat * 4))), (57, .b (.rptr 102 ((x_14 : Int).toNat * 12 + (x_6 : Int).toNat * 4)))], [(102, _), (104, _), (106, _)]⟩ rfl (OpsL.consI .i64 h18 rfl (op_extract rfl rfl) (fun x_21 h18 => ?_)))
      refine Oc (op_extract rfl rfl) (Oc (op_nilCheck_r rfl) (Oc (op_field_r tyFld35_0 rfl rfl) ?_))
      obtain ⟨x_22, e24, h18⟩ := bnd h18
      obtain ⟨x_23, e25, h18⟩ := bnd h18
      refine Oc (op_store_rf1 (i := (x_14 : Int).toNat) (f := (x_6 : Int).toNat * 4) tyOne3 rfl rfl rfl rfl (ix_map (e := eArr3Bound) e24) (part_lt (m := 1) (f := 0) (sz := 4) (ix_lo e25) (ix_hi e25) (by decide) (Nat.le_of_ble_eq_true rfl)) (part_set (z' := x_22.set x_6 (⟨x_21, x_23.Hi, x_23.Below, x_23.Above⟩ : Bound)) (arr_part (e := eBound) (sz := 4) (f := 0) (Arr3Bound.e_l) (fun _ => rfl) e25 (Nat.le_of_ble_eq_true rfl) rfl (Arr3Bound.set_l _ _ _)))) (Oc (op_nilCheck_r rfl) (Oc (op_field_r tyFld35_2 rfl rfl) ?_))
      obtain ⟨x_24, e26, h18⟩ := bnd h18
      obtain ⟨x_25, e27, h18⟩ := bnd h18
      refine Oc (op_store_rf1 (i := (x_14 : Int).toNat) (f := (x_6 : Int).toNat * 4 + 2) tyOne4 rfl rfl rfl (off_in rfl) (ix_map (e := eArr3Bound) e26) (part_lt (m := 1) (f := 2) (sz := 4) (ix_lo e27) (ix_hi e27) (by decide) (Nat.le_of_ble_eq_true rfl)) (part_set (z' := x_24.set x_6 (⟨x_25.Lo, x_25.Hi, mHas x_12 (IntKind.i64.wrap (x_14 + 1)), x_25.Above⟩ : Bound)) (arr_part (e := eBound) (sz := 4) (f := 2) (Arr3Bound.e_l) (fun _ => rfl) e27 (Nat.le_of_ble_eq_true rfl) rfl (Arr3Bound.set_l _ _ _)))) (OpsL.nilS ⟨[(0, _), (1, _), (6, _), (7, _), (9, _), (10, _), (12, _), (20, _), (33, _), (34, _)], [(102, .row 36 12 (((((out_13.set (x_14 : Int).toNat (x_16.set x_6 (⟨x_17.Lo, x_18, x_17.Below, x_17.Above⟩ : Bound))).set (x_14 : Int).toNat (x_19.set x_6 (⟨x_20.Lo, x_20.Hi, x_20.Below, mHas x_10 (IntKind.i64.wrap (x_14 + 1))⟩ : Bound))).set (x_14 : Int).toNat (x_22.set x_6 (⟨x_21, x_23.Hi, x_23.Below, x_23.Above⟩ : Bound))).set (x_14 : Int).toNat (x_24.set x_6 (⟨x_25.Lo, x_25.Hi, mHas x_12 (IntKind.i64.wrap (x_14 + 1)), x_25.Above⟩ : Bound))).map eArr3Bound)), (104, _), (106, _)]⟩ rfl (Tri.regionL (Oc om (Oc om (Oc (op_nilCheck_r rfl) (Oc (op_field_r tyFld35_0 rfl rfl) ?_))))))
      obtain ⟨x_26, e28, h18⟩ := bnd h18
      obtain ⟨x_27, e29, h18⟩ := bnd h18
      refine Oc (op_load_r1 (i := (x_14 : Int).toNat) (f := (x_6 : Int).toNat * 4) tyOne3 rfl rfl rfl (ix_map (e := eArr3Bound) e28) (ix_cell (e := eBound) (sz := 4) (f := 0) (fun _ => rfl) e29 (by decide) rfl)) (Oc (op_neg rfl) (Oc (op_nilCheck_r rfl) (Oc (op_field_r tyFld35_0 rfl rfl) ?_)))
      obtain ⟨x_28, e30, h18⟩ := bnd h18
      obtain ⟨x_29, e31, h18⟩ := bnd h18
      refine Oc (op_store_rf1 (i := (x_14 : Int).toNat) (f := (x_6 : Int).toNat * 4) tyOne3 rfl rfl rfl rfl (ix_map (e := eArr3Bound) e30) (part_lt (m := 1) (f := 0) (sz := 4) (ix_lo e31) (ix_hi e31) (by decide) (Nat.le_of_ble_eq_true rfl)) (part_set (z' := x_28.set x_6 (⟨IntKind.i64.wrap (-x_27.Lo), x_29.Hi, x_29.Below, x_29.Above⟩ : Bound)) (arr_part (e := eBound) (sz := 4) (f := 0) (Arr3Bound.e_l) (fun _ => rfl) e31 (Nat.le_of_ble_eq_true rfl) rfl (Arr3Bound.set_l _ _ _)))) (OpsL.nil (Fin.block_normal (Fin.keepS ⟨[(0, _), (1, _), (6, _), (7, _), (9, _), (10, _), (20, _), (33, _), (34, _)], [(102, .row 36 12 ((((((out_13.set (x_14 : Int).toNat (x_16.set x_6 (⟨x_17.Lo, x_18, x_17.Below, x_17.Above⟩ : Bound))).set (x_14 : Int).toNat (x_19.set x_6 (⟨x_20.Lo, x_20.Hi, x_20.Below, mHas x_10 (IntKind.i64.wrap (x_14 + 1))⟩ : Bound))).set (x_14 : Int).toNat (x_22.set x_6 (⟨x_21, x_23.Hi, x_23.Below, x_23.Above⟩ : Bound))).set (x_14 : Int).toNat (x_24.set x_6 (⟨x_25.Lo, x_25.Hi, mHas x_12 (IntKind.i64.wrap (x_14 + 1)), x_25.Above⟩ : Bound))).set (x_14 : Int).toNat (x_28.set x_6 (⟨IntKind.i64.wrap (-x_27.Lo), x_29.Hi, x_29.Below, x_29.Above⟩ : Bound))).map eArr3Bound)), (104, _), (106, _)]⟩ rfl (Fin.then (Tri.regionL ?_)))))
      refine Oc (op_add rfl rfl) (Oc om ?_)
      refine OpsL.nil ?_
      exact Fin.againJ [0, 1, 6, 7, 9, 10, 20, 33, 34] [102, 104, 106] (((((out_13.set (x_14 : Int).toNat (x_16.set x_6 (⟨x_17.Lo, x_18, x_17.Below, x_17.Above⟩ : Bound))).set (x_14 : Int).toNat (x_19.set x_6 (⟨x_20.Lo, x_20.Hi, x_20.Below, mHas x_10 (IntKind.i64.wrap (x_14 + 1))⟩ : Bound))).set (x_14 : Int).toNat (x_22.set x_6 (⟨x_21, x_23.Hi, x_23.Below, x_23.Above⟩ : Bound))).set (x_14 : Int).toNat (x_24.set x_6 (⟨x_25.Lo, x_25.Hi, mHas x_12 (IntKind.i64.wrap (x_14 + 1)), x_25.Above⟩ : Bound))).set (x_14 : Int).toNat (x_28.set x_6 (⟨IntKind.i64.wrap (-x_27.Lo), x_29.Hi, x_29.Below, x_29.Above⟩ : Bound)), IntKind.i64.wrap (x_14 + 1)) (Option.some.inj h18) rfl
     ·refine Tri.exit (Fin.then_exit ?_)
      obtain rfl := hy19 _ (Option.some.inj h18).symm
      refine Fin.then_exit (Fin.block_exit (Fin.block_normal ?_))
      exact Fin.join [0, 1, 6, 20] [102] out_13 (Option.some.inj h10) rfl
    ·rintro out_8 hv
     subst v9
     refine Tri.regionL (Oc (op_add rfl rfl) (Oc om ?_))
     refine OpsL.nil ?_
     exact Fin.againJ [0, 1, 6, 20] [102] (out_8, IntKind.i64.wrap (x_6 + 1)) (Option.some.inj h7) rfl
   ·refine Tri.exit (Fin.then_exit ?_)
    obtain rfl := hy8 _ (Option.some.inj h7).symm
    refine Fin.then_exit (Fin.block_exit ?_)
    exact Fin.join [6] [102] out_5 rfl rfl
  ·rintro out_4 hv
   subst v4
   refine Tri.seq (Tri.regionL ?_)
   refine Oc om (Oc oa (Oc oa ?_))
   refine OpsL.nilS ⟨[(4, .b (.row 102)), (5, I 0)], [(102, _)]⟩ rfl (Tri.ret ?_)
   obtain rfl := Option.some.inj h
   refine Fin.keepS ⟨[(4, _), (5, _)], [(102, _)]⟩ rfl (Fin.resultK 102 kr0 [.row 102, .one (.i 0)] (.inl rfl) rfl (.cons (.tmp rfl) (.cons (.tmp rfl) .nil)) rfl rfl rfl rfl ⟨rfl, rfl⟩)
def sensor_Solution_S (F : Nat) (l0 : List Report) (now0 : Int) : Option ((List A3) × Int) :=
 (sensor_things_S F l0).bind fun x_1 => Option.bind (mk? (A3.zero : A3) x_1 x_1) (fun x_2 => Option.bind (iter F (un2 fun out_4 x_5 => if (decide (x_5 < 3)) = true then (Option.bind ((sensor_edges_S F l0 now0 x_5).bind fun x_8 => Option.bind (sensor_graph_anywhere_S F x_8 x_1) (un2 fun x_9 x_10 => if (!x_10) = true then (some (.inr ([], 200))) else (Option.bind (iter F (un2 fun out_11 x_12 => if (decide (x_12 < (out_4.length : Int))) = true then ((idx? out_11 x_12).bind fun x_14 => (idx? x_14.l x_5).bind fun x_15 => some (.inl (out_11.set (x_12 : Int).toNat (x_14.set x_5 (IntKind.i64.wrap ((mGet x_9 (IntKind.i64.wrap (x_12 + 1))) - (mGet x_9 0)))), IntKind.i64.wrap (x_12 + 1)))) else (some (.inr out_11))) (out_4, 0)) (fun out_13 => some (.inl out_13))))) (alt2 (fun out_7 => some (.inl (out_7, IntKind.i64.wrap (x_5 + 1)))) (fun y => some (.inr (.inr y))))) else (some (.inr (.inl out_4)))) (x_2, 0)) (alt2 (fun out_3 => some (out_3, 0)) (fun y => some y)))
theorem sensor_Solution_spec (kr0 : Nat) {F : Nat} {l0 : List Report} {now0 : Int} {r : (List A3) × Int} (h : sensor_Solution_S F l0 now0 = some r) : Meets Try.prog [] 24 [] [.one (.sl 6 (l0.map eReport)), .one (.i now0)] (Is [(kr0, .row 52 3 (r.1.map (eA3 .i64)))] (.tup [.row kr0, .one (.i r.2)])) := by
 unfold sensor_Solution_S at h
 refine Meets.intro 50 Try.func24 Try.ntmps24 rfl (by simp) fun E => ?_
 show Tri _ E ⟨50, [], [], []⟩ _ ⟨[(0, .b (.one (.sl 6 (l0.map eReport)))), (1, I now0)], []⟩ _
 refine Tri.seq (Tri.regionL ?_)
 refine Oc oa (Oc oa ?_)
 refine OpsL.nilS ⟨[(0, .b (.one (.sl 6 (l0.map eReport)))), (1, I now0)], []⟩ rfl (Tri.seq (Tri.regionL ?_))
 refine Oc om ?_
 obtain ⟨x_1, e1, h⟩ := bnd h
 refine Oc (op_call0 (sensor_things_spec e1) goes33 rfl rfl) (Oc oa ?_)
 refine OpsL.nilS ⟨[(0, _), (1, _), (6, I x_1)], []⟩ rfl (Tri.seq (Tri.regionL ?_))
 refine Oc om ?_
 obtain ⟨x_2, e2, h⟩ := bnd h
 refine Oc (op_makeSlice (k := 101) (enc := (eA3 .i64)) tySl50 e2 (by decide) (.cons .refl (.cons .refl (.cons .refl .nil))) rfl rfl rfl) (Oc oa ?_)
 refine OpsL.nilS ⟨[(0, _), (1, _), (6, _), (7, .b (.row 101))], [(101, .row 52 3 (x_2.map (eA3 .i64)))]⟩ rfl ?_
 obtain ⟨v3, h4, h⟩ := bnd h
 refine Tri.seqJ (v := v3) (fun (out_3 : List A3) => ⟨[(7, .b (.row 101))], [(101, .row 52 3 (out_3.map (eA3 .i64)))]⟩) (fun z => .inl z) ?_ ?_
 ·refine Tri.seq (Tri.regionL ?_)
  refine Oc om (OpsL.nilS ⟨[(0, _), (1, _), (6, _), (7, _), (16, I 0)], [(101, _)]⟩ rfl (Tri.block (Tri.loopJ h4 (un2 fun (out_4 : List A3) (x_5 : Int) => ⟨[(0, .b (.one (.sl 6 (l0.map eReport)))), (1, I now0), (6, I x_1), (7, .b (.row 101)), (16, I x_5)], [(101, .row 52 3 (out_4.map (eA3 .i64)))]⟩) [0, 1, 6, 7, 16] [101] rfl ?_)))
  rintro ⟨out_4, x_5⟩ o5 h6 hy7
  refine Tri.seq (Tri.regionL ?_)
  refine Oc (op_lss rfl rfl) (OpsL.nilS ⟨[(0, _), (1, _), (6, _), (7, _), (16, _), (17, B (decide (x_5 < 3)))], [(101, _)]⟩ rfl (Tri.seq (Tri.ite h6 rfl (fun _ h6 => ?_) (fun _ h6 => ?_))))
  ·refine Tri.skip (Fin.keepS ⟨[(0, _), (1, _), (6, _), (7, _), (16, _)], [(101, _)]⟩ rfl (Fin.then ?_))
   obtain ⟨v8, h9, h6⟩ := bnd h6
   refine Tri.seqJ (v := v8) (fun (out_7 : List A3) => ⟨[(0, .b (.one (.sl 6 (l0.map eReport)))), (1, I now0), (6, I x_1), (7, .b (.row 101)), (16, I x_5)], [(101, .row 52 3 (out_7.map (eA3 .i64)))]⟩) (fun z => .inl z) ?_ ?_
   ·refine Tri.block (Tri.seq (Tri.regionL ?_))
    refine Oc om (Oc oa ?_)
    refine OpsL.nilS ⟨[(0, _), (1, _), (6, _), (7, _), (8, I x_5), (16, _)], [(101, _)]⟩ rfl (Tri.seq (Tri.regionL ?_))
    refine Oc om (Oc om (Oc om ?_))
    obtain ⟨x_8, e10, h9⟩ := bnd h9
    refine Oc (op_call (own_a := []) ((sensor_edges_spec e10).sw 51 102) goes34 rfl trivial rfl rfl) (Oc om ?_)
    refine OpsL.persist 102 rfl (OpsL.keepS ⟨[(0, .b (.one (.sl 6 (l0.map eReport)))), (1, I now0), (6, I x_1), (7, .b (.row 101)), (8, I x_5), (16, I x_5), (23, .b (.one (.sl 4 (x_8.map eGEdge)))), (24, I x_1)], [(101, .row 52 3 (out_4.map (eA3 .i64)))]⟩ rfl ?_)
    obtain ⟨⟨x_9, x_10⟩, e11, h9⟩ := bnd h9
    refine Oc (op_call (own_a := []) ((sensor_graph_anywhere_spec e11).sw 51 103) goes49 rfl trivial rfl rfl) (Oc om (Oc (op_extract rfl rfl) (Oc (op_extract rfl rfl) (Oc oa (Oc oa ?_)))))
    refine OpsL.nilS ⟨[(0, _), (1, _), (6, _), (7, _), (8, _), (9, .b (.row 103)), (10, B x_10), (16, _)], [(101, _), (103, .mq x_9)]⟩ rfl (Tri.seq (Tri.seq (Tri.regionL ?_)))
    refine Oc om (Oc (op_not rfl) ?_)
    refine OpsL.nilS ⟨[(0, _), (1, _), (6, _), (7, _), (8, _), (9, _), (16, _), (29, B (!x_10))], [(101, _), (103, _)]⟩ rfl (Tri.ite h9 rfl (fun _ h9 => ?_) (fun _ h9 => ?_))
    ·refine Tri.seq (Tri.regionL ?_)
     refine Oc oa (Oc oa ?_)
     refine OpsL.nilS ⟨[(4, .b (.one (.nil))), (5, I 200)], []⟩ rfl (Tri.ret (Fin.then_ret (Fin.block_ret ?_)))
     obtain rfl := Option.some.inj h9
     refine Fin.then_ret ?_
     obtain rfl := hy7 _ (Option.some.inj h6).symm
     refine Fin.then_ret (Fin.block_ret (Fin.then_ret ?_))
     obtain rfl := Option.some.inj h
     refine Fin.keepS ⟨[(4, _), (5, _)], []⟩ rfl (Fin.nilrow 4 104 3 52 rfl (by decide) rfl (Fin.resultK 104 kr0 [.row 104, .one (.i 200)] (.inl rfl) rfl (.cons (.tmp rfl) (.cons (.tmp rfl) .nil)) rfl rfl rfl rfl ⟨rfl, rfl⟩))
    ·refine Tri.skip (Fin.keepS ⟨[(0, _), (1, _), (6, _), (7, _), (8, _), (9, _), (16, _)], [(101, _), (103, _)]⟩ rfl (Fin.then (Tri.seq (Tri.regionL ?_))))
     refine Oc om (Oc (op_len_r' und50 rfl rfl (List.length_map _)) (Oc om ?_))
     refine OpsL.nilS ⟨[(0, _), (1, _), (6, _), (7, _), (8, _), (9, _), (16, _), (31, I (out_4.length : Int)), (32, I 0)], [(101, _), (103, _)]⟩ rfl (Tri.block ?_)
     obtain ⟨v12, h13, h9⟩ := bnd h9
     refine Tri.loopJ h13 (un2 fun (out_11 : List A3) (x_12 : Int) => ⟨[(0, .b (.one (.sl 6 (l0.map eReport)))), (1, I now0), (6, I x_1), (7, .b (.row 101)), (8, I x_5), (9, .b (.row 103)), (16, I x_5), (31, I (out_4.length : Int)), (32, I x_12)], [(101, .row 52 3 (out_11.map (eA3 .i64))), (103, .mq x_9)]⟩) [0, 1, 6, 7, 8, 9, 16, 31, 32] [101, 103] rfl ?_
     rintro ⟨out_11, x_12⟩ o14 h15 hy16
     refine Tri.seq (Tri.regionL ?_)
     refine Oc (op_lss rfl rfl) (OpsL.nilS ⟨[(0, _), (1, _), (6, _), (7, _), (8, _), (9, _), (16, _), (31, _), (32, _), (33, B (decide (x_12 < (out_4.length : Int))))], [(101, _), (103, _)]⟩ rfl (Tri.seq (Tri.ite h15 rfl (fun _ h15 => ?_) (fun _ h15 => ?_))))
     ·refine Tri.skip (Fin.keepS ⟨[(0, _), (1, _), (6, _), (7, _), (8, _), (9, _), (16, _), (31, _), (32, _)], [(101, _), (103, _)]⟩ rfl (Fin.then (Tri.seq (Tri.block (Tri.seq (Tri.regionL ?_))))))
      refine Oc om (Oc oa ?_)
      refine OpsL.nilS ⟨[(0, _), (1, _), (6, _), (7, _), (8, _), (9, _), (11, I x_12), (16, _), (31, _), (32, _)], [(101, _), (103, _)]⟩ rfl ?_
      obtain ⟨x_14, e17, h15⟩ := bnd h15
      obtain ⟨x_15, e18, h15⟩ := bnd h15
      refine Tri.regionYF mixed 12 [.b (.row 101), I x_12, I x_5, .b (.row 103), I x_12, I (IntKind.i64.wrap (x_12 + 1)), I (mGet x_9 (IntKind.i64.wrap (x_12 + 1))), .b (.row 103), I (mGet x_9 0), I (IntKind.i64.wrap ((mGet x_9 (IntKind.i64.wrap (x_12 + 1))) - (mGet x_9 0))), .b (.rptr 101 ((x_12 : Int).toNat * 3)), .b (.rptr 101 ((x_12 : Int).toNat * 3 + (x_5 : Int).toNat * 1))] [0, 1, 6, 7, 8, 9, 16, 31, 32] [101, 103] (s' := ⟨[(0, _), (1, _), (6, _), (7, _), (8, _), (9, _), (16, _), (31, _), (32, _)], [(101, .row 52 3 ((out_11.set (x_12 : Int).toNat (x_14.set x_5 (IntKind.i64.wrap ((mGet x_9 (IntKind.i64.wrap (x_12 + 1))) - (mGet x_9 0))))).map (eA3 .i64))), (103, _)]⟩) rfl ⟨fun _ => .p om, fun _ => .p om, fun _ => .p om, fun _ => .p om, fun _ => .p om, fun _ => .p (op_add rfl rfl), fun _ => .p (op_mgetI1 tyMap71 rfl rfl rfl), fun _ => .p om, fun _ => .p (op_mgetI1 tyMap71 rfl rfl rfl), fun _ => .p (op_sub rfl rfl), fun _ => .p (op_index_r tySl50 (ix_lo e17) (ix_lt' e17) rfl rfl rfl rfl), fun _ => .p (op_index_ra tyArr52 (ix_lo e18) (ix_hi e18) rfl rfl rfl), trivial⟩ ⟨_, by exact .p (op_store_rf1 (i := (x_12 : Int).toNat) (f := (x_5 : Int).toNat * 1) tyOne3 rfl rfl rfl rfl (ix_map (e := (eA3 .i64)) e17) (part_lt (m := 1) (f := 0) (sz := 1) (ix_lo e18) (ix_hi e18) (by decide) (Nat.le_of_ble_eq_true rfl)) (part_set (z' := x_14.set x_5 (IntKind.i64.wrap ((mGet x_9 (IntKind.i64.wrap (x_12 + 1))) - (mGet x_9 0)))) (arr_part (e := (fun z => [CP.int .i64 z])) (sz := 1) (f := 0) (A3.e_l .i64) (fun _ => rfl) e18 (Nat.le_of_ble_eq_true rfl) rfl (A3.set_l _ _ _)))), rfl⟩ rfl (Fin.block_normal (Fin.keepS ⟨[(0, _), (1, _), (6, _), (7, _), (8, _), (9, _), (16, _), (31, _), (32, _)], [(101, _), (103, _)]⟩ rfl (Fin.then (Tri.regionL ?_))))
      refine Oc (op_add rfl rfl) (Oc om ?_)
      refine OpsL.nil ?_
      exact Fin.againJ [0, 1, 6, 7, 8, 9, 16, 31, 32] [101, 103] (out_11.set (x_12 : Int).toNat (x_14.set x_5 (IntKind.i64.wrap ((mGet x_9 (IntKind.i64.wrap (x_12 + 1))) - (mGet x_9 0)))), IntKind.i64.wrap (x_12 + 1)) (Option.some.inj h15) rfl
     ·refine Tri.exit (Fin.then_exit ?_)
      obtain rfl := hy16 _ (Option.some.inj h15).symm
      refine Fin.then_exit (Fin.block_exit (Fin.block_normal ?_))
      exact Fin.join [0, 1, 6, 7, 16] [101] out_11 (Option.some.inj h9) rfl
   ·rintro out_7 hv
    subst v8
    refine Tri.regionL (Oc (op_add rfl rfl) (Oc om ?_))
    refine OpsL.nil ?_
    exact Fin.againJ [0, 1, 6, 7, 16] [101] (out_7, IntKind.i64.wrap (x_5 + 1)) (Option.some.inj h6) rfl
  ·refine Tri.exit (Fin.then_exit ?_)
   obtain rfl := hy7 _ (Option.some.inj h6).symm
   refine Fin.then_exit (Fin.block_exit ?_)
   exact Fin.join [7] [101] out_4 rfl rfl
 ·rintro out_3 hv
  subst v3
  refine Tri.seq (Tri.regionL ?_)
  refine Oc om (Oc oa (Oc oa ?_))
  refine OpsL.nilS ⟨[(4, .b (.row 101)), (5, I 0)], [(101, _)]⟩ rfl (Tri.ret ?_)
  obtain rfl := Option.some.inj h
  refine Fin.keepS ⟨[(4, _), (5, _)], [(101, _)]⟩ rfl (Fin.resultK 101 kr0 [.row 101, .one (.i 0)] (.inl rfl) rfl (.cons (.tmp rfl) (.cons (.tmp rfl) .nil)) rfl rfl rfl rfl ⟨rfl, rfl⟩)
def skewbacklaw39_sanity_1_S (F : Nat) (lo0 : Int) (hi0 : Int) : Option Arr3Bound :=
 letN (⟨(⟨lo0, hi0, true, true⟩ : Bound), (⟨0, 0, false, false⟩ : Bound), (⟨0, 0, false, false⟩ : Bound)⟩ : Arr3Bound) fun x_1 => some x_1
theorem skewbacklaw39_sanity_1_spec {F : Nat} {lo0 : Int} {hi0 : Int} {r : Arr3Bound} (h : skewbacklaw39_sanity_1_S F lo0 hi0 = some r) : Meets Try.prog [] 32 [] [.one (.i lo0), .one (.i hi0)] (Is [] (.b (.agg (eArr3Bound r)))) := by
 unfold skewbacklaw39_sanity_1_S at h
 refine Meets.intro 9 Try.func32 Try.ntmps32 rfl (by simp) fun E => ?_
 show Tri _ E ⟨9, [], [], []⟩ _ ⟨[(0, I lo0), (1, I hi0)], []⟩ _
 refine Tri.seq (Tri.regionL ?_)
 refine Oc (op_alloc (k := 101) tyZero36 rfl) (OpsL.nilS ⟨[(0, I lo0), (1, I hi0), (4, Pt 101 0)], [(101, .box 36 [.i 0, .i 0, .bool false, .bool false, .i 0, .i 0, .bool false, .bool false, .i 0, .i 0, .bool false, .bool false])]⟩ rfl (Tri.seq (Tri.regionL ?_)))
 refine Oc om (Oc om (Oc (op_build tyBuild35 rfl rfl) ?_))
 refine OpsL.consA eArr3Bound h rfl (op_buildA tyBuild36 rfl rfl) (fun x_1 h => ?_)
 refine Oc (op_store_p tyAgg36 rfl rfl rfl rfl (Nat.le_of_ble_eq_true rfl) rfl) (OpsL.nilS ⟨[(4, _)], [(101, .box 36 (eArr3Bound x_1))]⟩ rfl (Tri.ret ?_))
 obtain rfl := Option.some.inj h
 refine Fin.keepS ⟨[(4, _)], [(101, _)]⟩ rfl (Fin.result' [.agg (eArr3Bound x_1)] (.inl rfl) rfl (.cons (.agg tyAgg36 rfl rfl rfl rfl) .nil) ⟨rfl, rfl⟩)
def sensor_graph_rests_S (F : Nat) (g0 : List GEdge) (to0 : Int) (most0 : Int) : Option (List MapI) :=
 Option.bind (iter F (un2 fun out_2 x_3 => if (decide (x_3 < most0)) = true then (Option.bind (Option.bind (iter F (un2 fun next_7 x_8 => if (decide (x_8 < (g0.length : Int))) = true then (Option.bind ((idx? g0 x_8).bind fun x_11 => (idx? out_2 x_3).bind fun x_12 => letN ((mHas x_12 x_11.to) && ((!(mHas next_7 x_11.src)) || (decide ((IntKind.i64.wrap ((mGet x_12 x_11.to) + x_11.weight)) < (mGet next_7 x_11.src))))) fun x_13 => if x_13 = true then (letN (IntKind.i64.wrap ((mGet x_12 x_11.to) + x_11.weight)) fun x_14 => some (mset next_7 x_11.src x_14)) else (some next_7)) (fun next_10 => some (.inl (next_10, IntKind.i64.wrap (x_8 + 1))))) else (some (.inr next_7))) (([] : MapI), 0)) (fun next_6 => (app? out_2 [next_6]).bind fun x_15 => some x_15)) (fun out_5 => some (.inl (out_5, IntKind.i64.wrap (x_3 + 1))))) else (some (.inr out_2))) ([mset ([] : MapI) to0 0], 0)) (fun out_1 => some out_1)
theorem sensor_graph_rests_spec (kr0 : Nat) {F : Nat} {g0 : List GEdge} {to0 : Int} {most0 : Int} {r : (List MapI)} (h : sensor_graph_rests_S F g0 to0 most0 = some r) : Meets Try.prog [] 57 [] [.one (.sl 4 (g0.map eGEdge)), .one (.i to0), .one (.i most0)] (Is [(kr0, .row 71 1 (r.map ePm))] (.b (.row kr0))) := by
 unfold sensor_graph_rests_S at h
 refine Meets.intro 75 Try.func57 Try.ntmps57 rfl (by simp) fun E => ?_
 show Tri _ E ⟨75, [], [], []⟩ _ ⟨[(0, .b (.one (.sl 4 (g0.map eGEdge)))), (1, I to0), (2, I most0)], []⟩ _
 refine Tri.seq (Tri.regionL ?_)
 refine Oc oa (OpsL.nilS ⟨[(0, .b (.one (.sl 4 (g0.map eGEdge)))), (1, I to0), (2, I most0)], []⟩ rfl (Tri.seq (Tri.regionL ?_)))
 refine Oc (op_makeMapI (k := 101) undm71 rfl) (Oc om (Oc (op_minsI tyMap71 rfl rfl rfl rfl) (Oc om ?_)))
 refine OpsL.persistM 101 rfl (Oc (op_buildSlice (k := 102) (es := [mset ([] : MapI) to0 0].map ePm) tySl105 rfl rfl (uni_map fun _ => rfl) rfl (by decide) (by decide) rfl) (Oc oa ?_))
 refine OpsL.nilS ⟨[(0, _), (2, _), (7, .b (.row 102))], [(102, .row 71 1 ([mset ([] : MapI) to0 0].map ePm))]⟩ rfl ?_
 obtain ⟨v1, h2, h⟩ := bnd h
 refine Tri.seqJ (v := v1) (fun (out_1 : List MapI) => ⟨[(7, .b (.row 102))], [(102, .row 71 1 (out_1.map ePm))]⟩) (fun z => z) ?_ ?_
 ·refine Tri.seq (Tri.regionL ?_)
  refine Oc om (Oc om ?_)
  refine OpsL.nilS ⟨[(0, _), (7, _), (20, I most0), (21, I 0)], [(102, _)]⟩ rfl (Tri.block (Tri.loopJ h2 (un2 fun (out_2 : List MapI) (x_3 : Int) => ⟨[(0, .b (.one (.sl 4 (g0.map eGEdge)))), (7, .b (.row 102)), (20, I most0), (21, I x_3)], [(102, .row 71 1 (out_2.map ePm))]⟩) [0, 7, 20, 21] [102] rfl ?_))
  rintro ⟨out_2, x_3⟩ o3 h4 hy5
  refine Tri.seq (Tri.regionL ?_)
  refine Oc (op_lss rfl rfl) (OpsL.nilS ⟨[(0, _), (7, _), (20, _), (21, _), (22, B (decide (x_3 < most0)))], [(102, _)]⟩ rfl (Tri.seq (Tri.ite h4 rfl (fun _ h4 => ?_) (fun _ h4 => ?_))))
  ·refine Tri.skip (Fin.keepS ⟨[(0, _), (7, _), (20, _), (21, _)], [(102, _)]⟩ rfl (Fin.then ?_))
   obtain ⟨v6, h7, h4⟩ := bnd h4
   refine Tri.seqJ (v := v6) (fun (out_5 : List MapI) => ⟨[(0, .b (.one (.sl 4 (g0.map eGEdge)))), (7, .b (.row 102)), (20, I most0), (21, I x_3)], [(102, .row 71 1 (out_5.map ePm))]⟩) (fun z => z) ?_ ?_
   ·refine Tri.block (Tri.seq (Tri.regionL ?_))
    refine Oc om (Oc oa ?_)
    refine OpsL.nilS ⟨[(0, _), (7, _), (8, I x_3), (20, _), (21, _)], [(102, _)]⟩ rfl (Tri.seq (Tri.regionL ?_))
    refine Oc (op_makeMapI (k := 103) undm71 rfl) (Oc oa ?_)
    refine OpsL.nilS ⟨[(0, _), (7, _), (8, _), (9, .b (.row 103)), (20, _), (21, _)], [(102, _), (103, .mq ([] : MapI))]⟩ rfl ?_
    obtain ⟨v8, h9, h7⟩ := bnd h7
    refine Tri.seqJ (v := v8) (fun (next_6 : MapI) => ⟨[(0, .b (.one (.sl 4 (g0.map eGEdge)))), (7, .b (.row 102)), (9, .b (.row 103)), (20, I most0), (21, I x_3)], [(102, .row 71 1 (out_2.map ePm)), (103, .mq next_6)]⟩) (fun z => z) ?_ ?_
    ·refine Tri.seq (Tri.regionL ?_)
     refine Oc om (Oc (op_len_e' und69 rfl (List.length_map _)) (Oc om ?_))
     refine OpsL.nilS ⟨[(0, _), (7, _), (8, _), (9, _), (20, _), (21, _), (25, .b (.one (.sl 4 (g0.map eGEdge)))), (26, I (g0.length : Int)), (27, I 0)], [(102, _), (103, _)]⟩ rfl (Tri.block (Tri.loopJ h9 (un2 fun (next_7 : MapI) (x_8 : Int) => ⟨[(0, .b (.one (.sl 4 (g0.map eGEdge)))), (7, .b (.row 102)), (8, I x_3), (9, .b (.row 103)), (20, I most0), (21, I x_3), (25, .b (.one (.sl 4 (g0.map eGEdge)))), (26, I (g0.length : Int)), (27, I x_8)], [(102, .row 71 1 (out_2.map ePm)), (103, .mq next_7)]⟩) [0, 7, 8, 9, 20, 21, 25, 26, 27] [102, 103] rfl ?_))
     rintro ⟨next_7, x_8⟩ o10 h11 hy12
     refine Tri.seq (Tri.regionL ?_)
     refine Oc (op_lss rfl rfl) (OpsL.nilS ⟨[(0, _), (7, _), (8, _), (9, _), (20, _), (21, _), (25, _), (26, _), (27, _), (28, B (decide (x_8 < (g0.length : Int))))], [(102, _), (103, _)]⟩ rfl (Tri.seq (Tri.ite h11 rfl (fun _ h11 => ?_) (fun _ h11 => ?_))))
     ·refine Tri.skip (Fin.keepS ⟨[(0, _), (7, _), (8, _), (9, _), (20, _), (21, _), (25, _), (26, _), (27, _)], [(102, _), (103, _)]⟩ rfl (Fin.then ?_))
      obtain ⟨v13, h14, h11⟩ := bnd h11
      refine Tri.seqJ (v := v13) (fun (next_10 : MapI) => ⟨[(0, .b (.one (.sl 4 (g0.map eGEdge)))), (7, .b (.row 102)), (8, I x_3), (9, .b (.row 103)), (20, I most0), (21, I x_3), (25, .b (.one (.sl 4 (g0.map eGEdge)))), (26, I (g0.length : Int)), (27, I x_8)], [(102, .row 71 1 (out_2.map ePm)), (103, .mq next_10)]⟩) (fun z => z) ?_ ?_
      ·refine Tri.block (Tri.seq (Tri.regionL ?_))
       obtain ⟨x_11, e15, h14⟩ := bnd h14
       refine Oc (op_index_e tySl69 (ix_lo e15) (ix_map (e := eGEdge) e15) rfl rfl) (Oc (op_load_e tyAgg87 rfl rfl rfl) (Oc (op_alloc (k := 104) tyZero87 rfl) (Oc (op_store_p tyAgg87 rfl rfl rfl rfl (Nat.le_of_ble_eq_true rfl) rfl) ?_)))
       refine OpsL.nilS ⟨[(0, _), (7, _), (8, _), (9, _), (11, Pt 104 0), (20, _), (21, _), (25, _), (26, _), (27, _)], [(102, _), (103, _), (104, .box 87 (eGEdge x_11))]⟩ rfl (Tri.seq ?_)
       obtain ⟨x_12, e16, h14⟩ := bnd h14
       refine Tri.regionY mixed 12 [.b (.row 102), I x_3, .b (.rptr 102 ((x_3 : Int).toNat * 1)), .b (.one (.pm x_12)), Pt 104 1, I x_11.to, .tup [.one (.i (mGet x_12 x_11.to)), .one (.bool (mHas x_12 x_11.to))], .tup [.one (.i (mGet x_12 x_11.to)), .one (.bool (mHas x_12 x_11.to))], I (mGet x_12 x_11.to), B (mHas x_12 x_11.to), I (mGet x_12 x_11.to), B (mHas x_12 x_11.to)] [0, 7, 8, 9, 11, 12, 13, 20, 21, 25, 26, 27] [102, 103, 104] (s' := ⟨[(0, _), (7, _), (8, _), (9, _), (11, _), (12, I (mGet x_12 x_11.to)), (13, B (mHas x_12 x_11.to)), (20, _), (21, _), (25, _), (26, _), (27, _)], [(102, _), (103, _), (104, _)]⟩) rfl ⟨fun _ => .p om, fun _ => .p om, fun _ => .p (op_index_r tySl105 (ix_lo e16) (ix_lt' e16) rfl rfl rfl rfl), fun _ => .p (op_load_r1 (i := (x_3 : Int).toNat) (f := 0) tyOne71 rfl rfl rfl (ix_map (e := ePm) e16) rfl), fun _ => .p (op_field_p tyFld87_1 rfl rfl), fun _ => .p (op_load_p1 tyOne3 rfl rfl rfl), fun _ => .p (op_pgetI2 tyMap71 rfl rfl), fun _ => .p om, fun _ => .p (op_extract rfl rfl), fun _ => .p (op_extract rfl rfl), fun _ => .p oa, fun _ => .p oa, trivial⟩ rfl rfl (Tri.seq (Tri.regionL ?_))
       refine Oc om (Oc (op_field_p tyFld87_0 rfl rfl) (Oc (op_load_p1 tyOne3 rfl rfl rfl) (Oc (op_mgetI2 tyMap71 rfl rfl rfl) (Oc om (Oc (op_extract rfl rfl) ?_)))))
       refine Oc (op_extract rfl rfl) (Oc oa (Oc oa ?_))
       refine OpsL.nilS ⟨[(0, _), (7, _), (8, _), (9, _), (11, _), (12, _), (13, _), (14, I (mGet next_7 x_11.src)), (15, B (mHas next_7 x_11.src)), (20, _), (21, _), (25, _), (26, _), (27, _)], [(102, _), (103, _), (104, _)]⟩ rfl (Tri.seq (Tri.regionL ?_))
       refine Oc om (Oc om ?_)
       refine CgT (mHas x_12 x_11.to) [] (fun g17 => trivial) (fun g17 => om) (CgT (mHas x_12 x_11.to) [50] (fun g18 => by exact ⟨g18, trivial⟩) (fun g18 => op_not rfl) (CgT (mHas x_12 x_11.to) [51] (fun g19 => by exact ⟨g19, trivial⟩) (fun g19 => om) (OpsL.consG ((mHas x_12 x_11.to) && !(!(mHas next_7 x_11.src))) 99 [] (.under rfl) (and_f _ _) rfl rfl (fun g20 => by exact trivial) (fun g20 => om) (OpsL.consG ((mHas x_12 x_11.to) && !(!(mHas next_7 x_11.src))) 99 [] (.under rfl) (and_f _ _) rfl rfl (fun g21 => by exact trivial) (fun g21 => op_field_p tyFld87_2 rfl rfl) (OpsL.keepS ⟨[(0, _), (7, _), (8, _), (9, _), (11, _), (12, _), (14, _), (20, _), (21, _), (25, _), (26, _), (27, _), (49, B (mHas x_12 x_11.to)), (52, .opt (mHas x_12 x_11.to) (.one (.bool (!(mHas next_7 x_11.src))))), (53, .opt ((mHas x_12 x_11.to) && !(!(mHas next_7 x_11.src))) (.one (.i (mGet x_12 x_11.to)))), (54, .opt ((mHas x_12 x_11.to) && !(!(mHas next_7 x_11.src))) (.ptr 104 2))], [(102, _), (103, _), (104, _)]⟩ rfl ?_)))))
       refine OpsL.consG ((mHas x_12 x_11.to) && !(!(mHas next_7 x_11.src))) 99 [54] (.under rfl) (and_f _ _) rfl rfl (fun g22 => ⟨g22, trivial⟩) (fun g22 => op_load_p1 tyOne3 rfl rfl rfl) (OpsL.consG ((mHas x_12 x_11.to) && !(!(mHas next_7 x_11.src))) 99 [53, 55] (.under rfl) (and_f _ _) rfl rfl (fun g23 => ⟨g23, g23, trivial⟩) (fun g23 => op_add rfl rfl) (OpsL.consG ((mHas x_12 x_11.to) && !(!(mHas next_7 x_11.src))) 99 [] (.under rfl) (and_f _ _) rfl rfl (fun g24 => trivial) (fun g24 => om) (OpsL.consG ((mHas x_12 x_11.to) && !(!(mHas next_7 x_11.src))) 99 [56, 57] (.under rfl) (and_f _ _) rfl rfl (fun g25 => by exact ⟨g25, g25, trivial⟩) (fun g25 => op_lss rfl rfl) (CgT (mHas x_12 x_11.to) [52] (fun g26 => by exact ⟨g26, trivial⟩) (fun g26 => op_pick_or (fun e => by rw [g26, e]; rfl) rfl rfl rfl rfl) (OpsL.consB h14 rfl (op_pick_and (fun e => e) rfl rfl rfl rfl) (fun x_13 h14 => ?_))))))
       refine OpsL.nilS ⟨[(0, _), (7, _), (8, _), (9, _), (11, _), (12, _), (20, _), (21, _), (25, _), (26, _), (27, _), (60, B x_13)], [(102, _), (103, _), (104, _)]⟩ rfl (Tri.ite h14 rfl (fun _ h14 => ?_) (fun _ h14 => ?_))
       ·refine Tri.regionL (Oc om (Oc (op_field_p tyFld87_0 rfl rfl) (Oc (op_load_p1 tyOne3 rfl rfl rfl) (Oc om (Oc (op_field_p tyFld87_2 rfl rfl) (Oc (op_load_p1 tyOne3 rfl rfl rfl) ?_))))))
        refine OpsL.consI .i64 h14 rfl (op_add rfl rfl) (fun x_14 h14 => ?_)
        refine Oc (op_msetI tyMap71 rfl rfl rfl rfl) (OpsL.nil (Fin.block_normal ?_))
        exact Fin.join [0, 7, 8, 9, 20, 21, 25, 26, 27] [102, 103] (mset next_7 x_11.src x_14) (Option.some.inj h14) rfl
       ·refine Tri.skip (Fin.block_normal ?_)
        exact Fin.join [0, 7, 8, 9, 20, 21, 25, 26, 27] [102, 103] next_7 (Option.some.inj h14) rfl
      ·rintro next_10 hv
       subst v13
       refine Tri.regionL (Oc (op_add rfl rfl) (Oc om ?_))
       refine OpsL.nil ?_
       exact Fin.againJ [0, 7, 8, 9, 20, 21, 25, 26, 27] [102, 103] (next_10, IntKind.i64.wrap (x_8 + 1)) (Option.some.inj h11) rfl
     ·refine Tri.exit (Fin.then_exit ?_)
      obtain rfl := hy12 _ (Option.some.inj h11).symm
      refine Fin.then_exit (Fin.block_exit ?_)
      exact Fin.join [0, 7, 9, 20, 21] [102, 103] next_7 rfl rfl
    ·rintro next_6 hv
     subst v8
     refine Tri.regionL (Oc om (Oc om ?_))
     refine OpsL.persistM 103 rfl (Oc (op_buildSlice (k := 105) (es := [next_6].map ePm) tySl105 rfl rfl (uni_map fun _ => rfl) rfl (by decide) (by decide) rfl) ?_)
     obtain ⟨x_15, e27, h7⟩ := bnd h7
     refine Oc (op_append_r tySl105 (app_b e27) (app_m e27) rfl rfl rfl rfl (app_map e27) rfl) (Oc oa ?_)
     refine OpsL.nil (Fin.block_normal ?_)
     exact Fin.join [0, 7, 20, 21] [102] x_15 (Option.some.inj h7) rfl
   ·rintro out_5 hv
    subst v6
    refine Tri.regionL (Oc (op_add rfl rfl) (Oc om ?_))
    refine OpsL.nil ?_
    exact Fin.againJ [0, 7, 20, 21] [102] (out_5, IntKind.i64.wrap (x_3 + 1)) (Option.some.inj h4) rfl
  ·refine Tri.exit (Fin.then_exit ?_)
   obtain rfl := hy5 _ (Option.some.inj h4).symm
   refine Fin.then_exit (Fin.block_exit ?_)
   exact Fin.join [7] [102] out_2 rfl rfl
 ·rintro out_1 hv
  subst v1
  refine Tri.seq (Tri.regionL ?_)
  refine Oc om (Oc oa ?_)
  refine OpsL.nilS ⟨[(6, .b (.row 102))], [(102, _)]⟩ rfl (Tri.ret ?_)
  obtain rfl := Option.some.inj h
  refine Fin.keepS ⟨[(6, _)], [(102, _)]⟩ rfl (Fin.resultK 102 kr0 [.row 102] (.inl rfl) rfl (.cons (.tmp rfl) .nil) rfl rfl rfl rfl ⟨rfl, rfl⟩)
def sensor_graph_walk_1_S (F : Nat) (e0 : GEdge) (v0c : List MapI) (v1c : Int) (v2c : Int) (v3c : Int) : Option Bool :=
 (idx? v0c v1c).bind fun x_1 => letN (((decide (e0.src = v2c)) && (mHas x_1 e0.to)) && (decide ((IntKind.i64.wrap ((IntKind.i64.wrap (v3c + e0.weight)) + (mGet x_1 e0.to))) < 0))) fun x_2 => some x_2
theorem sensor_graph_walk_1_spec {F : Nat} {e0 : GEdge} {v0c : List MapI} {v1c : Int} {v2c : Int} {v3c : Int} {r : Bool} (h : sensor_graph_walk_1_S F e0 v0c v1c v2c v3c = some r) : Meets Try.prog [] 59 [(1, .box 105 [.sl 1 (v0c.map ePm)]), (2, .box 3 [.i v1c]), (3, .box 3 [.i v2c]), (4, .box 3 [.i v3c])] [.agg (eGEdge e0), .ptr 1 0, .ptr 2 0, .ptr 3 0, .ptr 4 0] (Is [(1, .box 105 [.sl 1 (v0c.map ePm)]), (2, .box 3 [.i v1c]), (3, .box 3 [.i v2c]), (4, .box 3 [.i v3c])] (.b (.one (.bool r)))) := by
 unfold sensor_graph_walk_1_S at h
 refine Meets.intro 35 Try.func59 Try.ntmps59 rfl (by simp) fun E => ?_
 show Tri _ E ⟨35, [1, 2, 3, 4], [1, 2, 3, 4], []⟩ _ ⟨[(0, .b (.agg (eGEdge e0))), (1, Pt 1 0), (2, Pt 2 0), (3, Pt 3 0), (4, Pt 4 0)], [(1, .box 105 [.sl 1 (v0c.map ePm)]), (2, .box 3 [.i v1c]), (3, .box 3 [.i v2c]), (4, .box 3 [.i v3c])]⟩ _
 refine Tri.seq (Tri.regionL ?_)
 refine Oc (op_box (k := 101) rfl rfl) (Oc oa ?_)
 refine OpsL.nilS ⟨[(1, Pt 1 0), (2, Pt 2 0), (3, Pt 3 0), (4, Pt 4 0), (5, Pt 101 0)], [(1, .box 105 [.sl 1 (v0c.map ePm)]), (2, .box 3 [.i v1c]), (3, .box 3 [.i v2c]), (4, .box 3 [.i v3c]), (101, .box 87 (eGEdge e0))]⟩ rfl (Tri.seq ?_)
 obtain ⟨x_1, e1, h⟩ := bnd h
 refine Tri.regionY mixed 12 [.b (.one (.sl 1 (v0c.map ePm))), I v1c, .b (.eptr [.pm x_1]), .b (.one (.pm x_1)), Pt 101 1, I e0.to, .tup [.one (.i (mGet x_1 e0.to)), .one (.bool (mHas x_1 e0.to))], .tup [.one (.i (mGet x_1 e0.to)), .one (.bool (mHas x_1 e0.to))], I (mGet x_1 e0.to), B (mHas x_1 e0.to), I (mGet x_1 e0.to), B (mHas x_1 e0.to)] [3, 4, 5, 7, 8] [1, 2, 3, 4, 101] (s' := ⟨[(3, _), (4, _), (5, _), (7, I (mGet x_1 e0.to)), (8, B (mHas x_1 e0.to))], [(1, _), (2, _), (3, _), (4, _), (101, _)]⟩) rfl ⟨fun _ => .p (op_load_p1 tyOne105 rfl rfl rfl), fun _ => .p (op_load_p1 tyOne3 rfl rfl rfl), fun _ => .p (op_index_e tySl105 (ix_lo e1) (ix_map (e := ePm) e1) rfl rfl), fun _ => .p (op_load_e1 tyOne71 rfl rfl), fun _ => .p (op_field_p tyFld87_1 rfl rfl), fun _ => .p (op_load_p1 tyOne3 rfl rfl rfl), fun _ => .p (op_pgetI2 tyMap71 rfl rfl), fun _ => .p om, fun _ => .p (op_extract rfl rfl), fun _ => .p (op_extract rfl rfl), fun _ => .p oa, fun _ => .p oa, trivial⟩ rfl rfl (Tri.seq (Tri.regionL ?_))
 refine Oc (op_field_p tyFld87_0 rfl rfl) (Oc (op_load_p1 tyOne3 rfl rfl rfl) (Oc (op_load_p1 tyOne3 rfl rfl rfl) (Oc (op_eql rfl rfl) (Oc om ?_))))
 refine CgT (decide (e0.src = v2c)) [] (fun g2 => trivial) (fun g2 => om) (Oc (op_pick_and (fun e => e) rfl rfl rfl rfl) (OpsL.keepS ⟨[(4, _), (5, _), (7, _), (25, B ((decide (e0.src = v2c)) && (mHas x_1 e0.to)))], [(1, _), (2, _), (3, _), (4, _), (101, _)]⟩ rfl (Oc om (CgT ((decide (e0.src = v2c)) && (mHas x_1 e0.to)) [] (fun g3 => by exact trivial) (fun g3 => op_load_p1 tyOne3 rfl rfl rfl) (CgT ((decide (e0.src = v2c)) && (mHas x_1 e0.to)) [] (fun g4 => by exact trivial) (fun g4 => op_field_p tyFld87_2 rfl rfl) ?_)))))
 refine CgT ((decide (e0.src = v2c)) && (mHas x_1 e0.to)) [28] (fun g5 => ⟨g5, trivial⟩) (fun g5 => op_load_p1 tyOne3 rfl rfl rfl) (CgT ((decide (e0.src = v2c)) && (mHas x_1 e0.to)) [27, 29] (fun g6 => ⟨g6, g6, trivial⟩) (fun g6 => op_add rfl rfl) (CgT ((decide (e0.src = v2c)) && (mHas x_1 e0.to)) [] (fun g7 => trivial) (fun g7 => om) (CgT ((decide (e0.src = v2c)) && (mHas x_1 e0.to)) [30, 31] (fun g8 => by exact ⟨g8, g8, trivial⟩) (fun g8 => op_add rfl rfl) (CgT ((decide (e0.src = v2c)) && (mHas x_1 e0.to)) [32] (fun g9 => by exact ⟨g9, trivial⟩) (fun g9 => op_lss rfl rfl) (OpsL.consB h rfl (op_pick_and (fun e => e) rfl rfl rfl rfl) (fun x_2 h => ?_))))))
 refine Oc oa (OpsL.nilS ⟨[(6, B x_2)], [(1, _), (2, _), (3, _), (4, _)]⟩ rfl (Tri.ret ?_))
 obtain rfl := Option.some.inj h
 refine Fin.keepS ⟨[(6, _)], [(1, _), (2, _), (3, _), (4, _)]⟩ rfl ?_
 exact Fin.result [.one (.bool x_2)] (.inl rfl) rfl (.cons (.tmp rfl) .nil) ⟨rfl, rfl⟩
def slices_IndexFunc_S (F : Nat) (s0 : List GEdge) (f0v0 : List MapI) (f0v1 : Int) (f0v2 : Int) (f0v3 : Int) : Option Int :=
 Option.bind (iter F (fun x_1 => if (decide (x_1 < (s0.length : Int))) = true then ((idx? s0 x_1).bind fun x_2 => (sensor_graph_walk_1_S F x_2 f0v0 f0v1 f0v2 f0v3).bind fun x_3 => if x_3 = true then (some (.inr (.inr x_1))) else (some (.inl (IntKind.i64.wrap (x_1 + 1))))) else (some (.inr (.inl ())))) 0) (alt2 (fun _ => some (-1)) (fun y => some y))
theorem slices_IndexFunc_spec {F : Nat} {s0 : List GEdge} {f0v0 : List MapI} {f0v1 : Int} {f0v2 : Int} {f0v3 : Int} {r : Int} (h : slices_IndexFunc_S F s0 f0v0 f0v1 f0v2 f0v3 = some r) : Meets Try.prog [] 58 [(1, .box 105 [.sl 1 (f0v0.map ePm)]), (2, .box 3 [.i f0v1]), (3, .box 3 [.i f0v2]), (4, .box 3 [.i f0v3])] [.one (.sl 4 (s0.map eGEdge)), .clo 59 [] [.ptr 1 0, .ptr 2 0, .ptr 3 0, .ptr 4 0]] (Is [(1, .box 105 [.sl 1 (f0v0.map ePm)]), (2, .box 3 [.i f0v1]), (3, .box 3 [.i f0v2]), (4, .box 3 [.i f0v3])] (.b (.one (.i r)))) := by
 unfold slices_IndexFunc_S at h
 refine Meets.intro 19 Try.func58 Try.ntmps58 rfl (by simp) fun E => ?_
 show Tri _ E ⟨19, [1, 2, 3, 4], [1, 2, 3, 4], []⟩ _ ⟨[(0, .b (.one (.sl 4 (s0.map eGEdge)))), (1, .b (.clo 59 [] [.ptr 1 0, .ptr 2 0, .ptr 3 0, .ptr 4 0]))], [(1, .box 105 [.sl 1 (f0v0.map ePm)]), (2, .box 3 [.i f0v1]), (3, .box 3 [.i f0v2]), (4, .box 3 [.i f0v3])]⟩ _
 refine Tri.seq (Tri.regionL ?_)
 refine Oc oa (OpsL.nilS ⟨[(0, .b (.one (.sl 4 (s0.map eGEdge)))), (1, .b (.clo 59 [] [.ptr 1 0, .ptr 2 0, .ptr 3 0, .ptr 4 0]))], [(1, .box 105 [.sl 1 (f0v0.map ePm)]), (2, .box 3 [.i f0v1]), (3, .box 3 [.i f0v2]), (4, .box 3 [.i f0v3])]⟩ rfl ?_)
 obtain ⟨v1, h2, h⟩ := bnd h
 refine Tri.seqJ (v := v1) (fun (_ : Unit) => ⟨[], [(1, .box 105 [.sl 1 (f0v0.map ePm)]), (2, .box 3 [.i f0v1]), (3, .box 3 [.i f0v2]), (4, .box 3 [.i f0v3])]⟩) (fun z => .inl z) ?_ ?_
 ·refine Tri.seq (Tri.regionL ?_)
  refine Oc om (Oc (op_len_e' und69 rfl (List.length_map _)) (Oc om ?_))
  refine OpsL.nilS ⟨[(0, _), (1, _), (7, I (s0.length : Int)), (8, I 0)], [(1, _), (2, _), (3, _), (4, _)]⟩ rfl (Tri.block (Tri.loopJ h2 (fun (x_1 : Int) => ⟨[(0, .b (.one (.sl 4 (s0.map eGEdge)))), (1, .b (.clo 59 [] [.ptr 1 0, .ptr 2 0, .ptr 3 0, .ptr 4 0])), (7, I (s0.length : Int)), (8, I x_1)], [(1, .box 105 [.sl 1 (f0v0.map ePm)]), (2, .box 3 [.i f0v1]), (3, .box 3 [.i f0v2]), (4, .box 3 [.i f0v3])]⟩) [0, 1, 7, 8] [1, 2, 3, 4] rfl ?_))
  rintro x_1 o3 h4 hy5
  refine Tri.seq (Tri.regionL ?_)
  refine Oc (op_lss rfl rfl) (OpsL.nilS ⟨[(0, _), (1, _), (7, _), (8, _), (9, B (decide (x_1 < (s0.length : Int))))], [(1, _), (2, _), (3, _), (4, _)]⟩ rfl (Tri.seq (Tri.ite h4 rfl (fun _ h4 => ?_) (fun _ h4 => ?_))))
  ·refine Tri.skip (Fin.keepS ⟨[(0, _), (1, _), (7, _), (8, _)], [(1, _), (2, _), (3, _), (4, _)]⟩ rfl (Fin.then (Tri.seq (Tri.block (Tri.seq (Tri.regionL ?_))))))
   refine Oc om (Oc oa ?_)
   refine OpsL.nilS ⟨[(0, _), (1, _), (5, I x_1), (7, _), (8, _)], [(1, _), (2, _), (3, _), (4, _)]⟩ rfl (Tri.seq (Tri.regionL ?_))
   refine Oc om (Oc om (Oc om ?_))
   obtain ⟨x_2, e6, h4⟩ := bnd h4
   refine Oc (op_index_e tySl69 (ix_lo e6) (ix_map (e := eGEdge) e6) rfl rfl) (Oc (op_load_e tyAgg87 rfl rfl rfl) ?_)
   obtain ⟨x_3, e7, h4⟩ := bnd h4
   refine Oc (op_callc (own_a := [(1, _), (2, _), (3, _), (4, _)]) (sensor_graph_walk_1_spec e7) goes59 rfl rfl rfl ⟨rfl, rfl, rfl, rfl, trivial⟩ rfl rfl) (OpsL.nilS ⟨[(0, _), (1, _), (5, _), (7, _), (8, _), (16, B x_3)], [(1, _), (2, _), (3, _), (4, _)]⟩ rfl (Tri.ite h4 rfl (fun _ h4 => ?_) (fun _ h4 => ?_)))
   ·refine Tri.seq (Tri.regionL ?_)
    refine Oc om (Oc oa ?_)
    refine OpsL.nilS ⟨[(4, I x_1)], [(1, _), (2, _), (3, _), (4, _)]⟩ rfl (Tri.ret (Fin.block_ret (Fin.then_ret ?_)))
    obtain rfl := hy5 _ (Option.some.inj h4).symm
    refine Fin.then_ret (Fin.block_ret (Fin.then_ret ?_))
    obtain rfl := Option.some.inj h
    refine Fin.keepS ⟨[(4, _)], [(1, _), (2, _), (3, _), (4, _)]⟩ rfl ?_
    exact Fin.result [.one (.i x_1)] (.inl rfl) rfl (.cons (.tmp rfl) .nil) ⟨rfl, rfl⟩
   ·refine Tri.skip (Fin.block_normal (Fin.keepS ⟨[(0, _), (1, _), (7, _), (8, _)], [(1, _), (2, _), (3, _), (4, _)]⟩ rfl (Fin.then (Tri.regionL ?_))))
    refine Oc (op_add rfl rfl) (Oc om ?_)
    refine OpsL.nil ?_
    exact Fin.againJ [0, 1, 7, 8] [1, 2, 3, 4] (IntKind.i64.wrap (x_1 + 1)) (Option.some.inj h4) rfl
  ·refine Tri.exit (Fin.then_exit ?_)
   obtain rfl := hy5 _ (Option.some.inj h4).symm
   refine Fin.then_exit (Fin.block_exit ?_)
   exact Fin.join [] [1, 2, 3, 4] () rfl rfl
 ·rintro _ hv
  subst v1
  refine Tri.seq (Tri.regionL ?_)
  refine Oc oa (OpsL.nilS ⟨[(4, I (-1))], [(1, _), (2, _), (3, _), (4, _)]⟩ rfl (Tri.ret ?_))
  obtain rfl := Option.some.inj h
  refine Fin.keepS ⟨[(4, _)], [(1, _), (2, _), (3, _), (4, _)]⟩ rfl ?_
  exact Fin.result [.one (.i (-1))] (.inl rfl) rfl (.cons (.tmp rfl) .nil) ⟨rfl, rfl⟩
def sensor_graph_walk_S (F : Nat) (g0 : List GEdge) (start0 : Int) (n0 : Int) : Option (List GEdge) :=
 (sensor_graph_rests_S F g0 start0 n0).bind fun x_1 => (idx? x_1 n0).bind fun x_2 => if ((!(mHas x_2 start0)) || (decide (0 ≤ (mGet x_2 start0)))) = true then (some []) else (Option.bind (iter F (un4 fun out_4 at_5 sum_6 left_7 => if (decide (0 ≤ left_7)) = true then ((slices_IndexFunc_S F g0 x_1 left_7 at_5 sum_6).bind fun x_9 => (idx? g0 x_9).bind fun x_10 => (app? out_4 [x_10]).bind fun x_11 => (idx? g0 x_9).bind fun x_12 => (idx? g0 x_9).bind fun x_13 => some (.inl (x_11, x_12.to, IntKind.i64.wrap (sum_6 + x_13.weight), IntKind.i64.wrap (left_7 - 1)))) else (some (.inr out_4))) ([], start0, 0, IntKind.i64.wrap (n0 - 1))) (fun out_3 => some out_3))
theorem sensor_graph_walk_spec (kr0 : Nat) {F : Nat} {g0 : List GEdge} {start0 : Int} {n0 : Int} {r : (List GEdge)} (h : sensor_graph_walk_S F g0 start0 n0 = some r) : Meets Try.prog [] 42 [] [.one (.sl 4 (g0.map eGEdge)), .one (.i start0), .one (.i n0)] (Is [(kr0, .row 87 4 (r.map eGEdge))] (.b (.row kr0))) := by
 unfold sensor_graph_walk_S at h
 refine Meets.intro 65 Try.func42 Try.ntmps42 rfl (by simp) fun E => ?_
 show Tri _ E ⟨65, [], [], []⟩ _ ⟨[(0, .b (.one (.sl 4 (g0.map eGEdge)))), (1, I start0), (2, I n0)], []⟩ _
 refine Tri.seq (Tri.regionL ?_)
 refine Oc oa (OpsL.nilS ⟨[(0, .b (.one (.sl 4 (g0.map eGEdge)))), (1, I start0), (2, I n0)], []⟩ rfl (Tri.seq (Tri.regionL ?_)))
 refine Oc om (Oc om (Oc om ?_))
 obtain ⟨x_1, e1, h⟩ := bnd h
 refine Oc (op_call (sensor_graph_rests_spec 101 e1) goes57 rfl trivial rfl rfl) (Oc (op_alloc (k := 102) tyZero105 rfl) ?_)
 refine OpsL.persist 101 rfl (Oc (op_store_p1 tyOne105 rfl rfl rfl (Nat.le_of_ble_eq_true rfl) rfl) (OpsL.nilS ⟨[(0, .b (.one (.sl 4 (g0.map eGEdge)))), (1, I start0), (2, I n0), (7, Pt 102 0)], [(102, .box 105 [.sl 1 (x_1.map ePm)])]⟩ rfl (Tri.seq (Tri.seq (Tri.regionL ?_)))))
 refine Oc (op_load_p1 tyOne105 rfl rfl rfl) (Oc om ?_)
 obtain ⟨x_2, e2, h⟩ := bnd h
 refine Oc (op_index_e tySl105 (ix_lo e2) (ix_map (e := ePm) e2) rfl rfl) (Oc (op_load_e1 tyOne71 rfl rfl) (Oc om (Oc (op_pgetI2 tyMap71 rfl rfl) (Oc om ?_))))
 refine OpsL.keepS ⟨[(0, _), (1, _), (2, _), (7, _), (19, .tup [.one (.i (mGet x_2 start0)), .one (.bool (mHas x_2 start0))])], [(102, _)]⟩ rfl (Oc (op_extract rfl rfl) (Oc (op_extract rfl rfl) (Oc oa (Oc oa ?_))))
 refine OpsL.nilS ⟨[(0, _), (1, _), (2, _), (7, _), (8, I (mGet x_2 start0)), (9, B (mHas x_2 start0))], [(102, _)]⟩ rfl (Tri.seq (Tri.regionL ?_))
 refine Oc om (Oc (op_not rfl) (Oc om ?_))
 refine CgF (!(!(mHas x_2 start0))) [] (fun g3 => trivial) (fun g3 => om) (CgF (!(!(mHas x_2 start0))) [31] (fun g4 => by exact ⟨g4, trivial⟩) (fun g4 => op_geq rfl rfl) (Oc (op_pick_or (fun e => by rw [e]; rfl) rfl rfl rfl rfl) (OpsL.nilS ⟨[(0, _), (1, _), (2, _), (7, _), (33, B ((!(mHas x_2 start0)) || (decide (0 ≤ (mGet x_2 start0)))))], [(102, _)]⟩ rfl (Tri.ite h rfl (fun _ h => ?_) (fun _ h => ?_)))))
 ·refine Tri.seq (Tri.regionL ?_)
  refine Oc oa (OpsL.nilS ⟨[(6, .b (.one (.nil)))], []⟩ rfl (Tri.ret (Fin.then_ret ?_)))
  obtain rfl := Option.some.inj h
  refine Fin.keepS ⟨[(6, _)], []⟩ rfl (Fin.nilrow 6 103 4 87 rfl (by decide) rfl (Fin.resultK 103 kr0 [.row 103] (.inl rfl) rfl (.cons (.tmp rfl) .nil) rfl rfl rfl rfl ⟨rfl, rfl⟩))
 ·refine Tri.skip (Fin.keepS ⟨[(0, _), (1, _), (2, _), (7, _)], [(102, _)]⟩ rfl (Fin.then (Tri.seq (Tri.regionL ?_))))
  refine Oc oa (OpsL.nilS ⟨[(0, _), (1, _), (2, _), (7, _), (10, .b (.one (.nil)))], [(102, _)]⟩ rfl (Tri.seq (Tri.regionL ?_)))
  refine Oc om (Oc (op_alloc (k := 104) tyZero3 rfl) (Oc (op_alloc (k := 105) tyZero3 rfl) (Oc (op_store_p1 tyOne3 rfl rfl rfl (Nat.le_of_ble_eq_true rfl) rfl) (Oc (op_store_p1 tyOne3 rfl rfl rfl (Nat.le_of_ble_eq_true rfl) rfl) ?_))))
  refine OpsL.nilS ⟨[(0, _), (2, _), (7, _), (10, _), (11, Pt 104 0), (12, Pt 105 0)], [(102, _), (104, .box 3 [.i start0]), (105, .box 3 [.i 0])]⟩ rfl ?_
  obtain ⟨v5, h6, h⟩ := bnd h
  refine Tri.seqJ (v := v5) (fun (out_3 : List GEdge) => ⟨[(10, .b (.row 108))], [(108, .row 87 4 (out_3.map eGEdge))]⟩) (fun z => z) ?_ ?_
  ·refine Tri.seq (Tri.regionL ?_)
   refine Oc om (Oc (op_sub rfl rfl) (Oc (op_alloc (k := 106) tyZero3 rfl) (Oc (op_store_p1 tyOne3 rfl rfl rfl (Nat.le_of_ble_eq_true rfl) rfl) ?_)))
   refine OpsL.nilS ⟨[(0, _), (7, _), (10, _), (11, _), (12, _), (13, Pt 106 0)], [(102, _), (104, _), (105, _), (106, .box 3 [.i (IntKind.i64.wrap (n0 - 1))])]⟩ rfl (Tri.block (Tri.nilrow 10 108 4 87 rfl (by decide) rfl (Tri.loopJ h6 (un4 fun (out_4 : List GEdge) (at_5 : Int) (sum_6 : Int) (left_7 : Int) => ⟨[(0, .b (.one (.sl 4 (g0.map eGEdge)))), (7, Pt 102 0), (10, .b (.row 108)), (11, Pt 104 0), (12, Pt 105 0), (13, Pt 106 0)], [(102, .box 105 [.sl 1 (x_1.map ePm)]), (104, .box 3 [.i at_5]), (105, .box 3 [.i sum_6]), (106, .box 3 [.i left_7]), (108, .row 87 4 (out_4.map eGEdge))]⟩) [0, 7, 10, 11, 12, 13] [102, 104, 105, 106, 108] rfl ?_)))
   rintro ⟨out_4, at_5, sum_6, left_7⟩ o7 h8 hy9
   refine Tri.seq (Tri.seq (Tri.regionL ?_))
   refine Oc (op_load_p1 tyOne3 rfl rfl rfl) (Oc (op_geq rfl rfl) ?_)
   refine OpsL.nilS ⟨[(0, _), (7, _), (10, _), (11, _), (12, _), (13, _), (38, B (decide (0 ≤ left_7)))], [(102, _), (104, _), (105, _), (106, _), (108, _)]⟩ rfl (Tri.ite h8 rfl (fun _ h8 => ?_) (fun _ h8 => ?_))
   ·refine Tri.skip (Fin.keepS ⟨[(0, _), (7, _), (10, _), (11, _), (12, _), (13, _)], [(102, _), (104, _), (105, _), (106, _), (108, _)]⟩ rfl (Fin.then (Tri.seq (Tri.block (Tri.seq (Tri.regionL ?_))))))
    refine Oc om (Oc (op_makeFunc rfl rfl) ?_)
    obtain ⟨x_9, e10, h8⟩ := bnd h8
    refine Oc (op_call (own_a := [(102, _), (106, _), (104, _), (105, _)]) (((((slices_IndexFunc_spec e10).sw 1 102).sw 2 106).sw 3 104).sw 4 105) goes58 rfl ⟨rfl, rfl, rfl, rfl, trivial⟩ rfl rfl) (Oc oa ?_)
    refine OpsL.nilS ⟨[(0, _), (7, _), (10, _), (11, _), (12, _), (13, _), (14, I x_9)], [(102, _), (104, _), (105, _), (106, _), (108, _)]⟩ rfl (Tri.seq (Tri.regionL ?_))
    refine Oc om (Oc om (Oc om ?_))
    obtain ⟨x_10, e11, h8⟩ := bnd h8
    refine Oc (op_index_e tySl69 (ix_lo e11) (ix_map (e := eGEdge) e11) rfl rfl) (Oc (op_load_e tyAgg87 rfl rfl rfl) (Oc (op_buildSlice (k := 109) (es := [x_10].map eGEdge) tySl68 rfl rfl (uni_map fun _ => rfl) rfl (by decide) (by decide) rfl) ?_))
    obtain ⟨x_11, e12, h8⟩ := bnd h8
    refine Oc (op_append_r tySl68 (app_b e12) (app_m e12) rfl rfl rfl rfl (app_map e12) rfl) (Oc oa ?_)
    refine OpsL.nilS ⟨[(0, _), (7, _), (10, _), (11, _), (12, _), (13, _), (14, _)], [(102, _), (104, _), (105, _), (106, _), (108, .row 87 4 (x_11.map eGEdge))]⟩ rfl ?_
    obtain ⟨x_12, e13, h8⟩ := bnd h8
    obtain ⟨x_13, e14, h8⟩ := bnd h8
    refine Tri.regionWF mixed [false, false, false, false, false, false, false, false, false, false, false, false, true, true] [.b (.one (.sl 4 (g0.map eGEdge))), I x_9, .b (.eptr (eGEdge x_12)), .b (.eptr [.i x_12.to, .i x_12.weight, .i x_12.report]), I x_12.to, I sum_6, .b (.one (.sl 4 (g0.map eGEdge))), I x_9, .b (.eptr (eGEdge x_13)), .b (.eptr [.i x_13.weight, .i x_13.report]), I x_13.weight, I (IntKind.i64.wrap (sum_6 + x_13.weight)), B true, B true] [⟨[false, false, false, false, false, false, false, false, false, false, false, false, false, false], [(0, .b (.one (.sl 4 (g0.map eGEdge)))), (7, Pt 102 0), (10, .b (.row 108)), (11, Pt 104 0), (12, Pt 105 0), (13, Pt 106 0), (14, I x_9)], [(102, .box 105 [.sl 1 (x_1.map ePm)]), (104, .box 3 [.i at_5]), (105, .box 3 [.i sum_6]), (106, .box 3 [.i left_7]), (108, .row 87 4 (x_11.map eGEdge))], [true, true, true, true, true, true, true, true, true, true, true, true, true, true], []⟩, ⟨[false, false, false, false, false, false, false, false, false, false, false, false, true, false], [(0, .b (.one (.sl 4 (g0.map eGEdge)))), (7, Pt 102 0), (10, .b (.row 108)), (11, Pt 104 0), (12, Pt 105 0), (13, Pt 106 0), (14, I x_9)], [(102, .box 105 [.sl 1 (x_1.map ePm)]), (104, .box 3 [.i x_12.to]), (105, .box 3 [.i sum_6]), (106, .box 3 [.i left_7]), (108, .row 87 4 (x_11.map eGEdge))], [true, true, true, true, true, true, true, true, true, true, true, true, true, true], [0, 1, 2, 3, 4, 12]⟩, ⟨[false, false, false, false, false, false, false, false, false, false, false, false, true, true], [(0, .b (.one (.sl 4 (g0.map eGEdge)))), (7, Pt 102 0), (10, .b (.row 108)), (11, Pt 104 0), (12, Pt 105 0), (13, Pt 106 0), (14, I x_9)], [(102, .box 105 [.sl 1 (x_1.map ePm)]), (104, .box 3 [.i x_12.to]), (105, .box 3 [.i (IntKind.i64.wrap (sum_6 + x_13.weight))]), (106, .box 3 [.i left_7]), (108, .row 87 4 (x_11.map eGEdge))], [true, true, true, true, true, true, true, true, true, true, true, true, true, true], [0, 1, 2, 3, 4, 5, 6, 7, 8, 9, 10, 11, 12, 13]⟩] rfl (⟨by kernel_rfl, ⟨⟨.b (.one (.sl 4 (g0.map eGEdge))), fun _ => rfl, fun _ => .p (by exact op_move rfl)⟩, ⟨I x_9, fun _ => rfl, fun _ => .p (by exact op_move rfl)⟩, ⟨.b (.eptr (eGEdge x_12)), fun _ => rfl, fun _ => .p (by exact op_index_e tySl69 (ix_lo e13) (ix_map (e := eGEdge) e13) rfl rfl)⟩, ⟨.b (.eptr [.i x_12.to, .i x_12.weight, .i x_12.report]), fun _ => rfl, fun _ => .p (by exact op_field_e tyFld87_1 rfl rfl)⟩, ⟨I x_12.to, fun _ => rfl, fun _ => .p (by exact op_load_e1 tyOne3 rfl rfl)⟩, ⟨I sum_6, fun _ => rfl, fun _ => .p (by exact op_load_p1 tyOne3 rfl rfl rfl)⟩, ⟨.b (.one (.sl 4 (g0.map eGEdge))), fun _ => rfl, fun _ => .p (by exact op_move rfl)⟩, ⟨I x_9, fun _ => rfl, fun _ => .p (by exact op_move rfl)⟩, ⟨.b (.eptr (eGEdge x_13)), fun _ => rfl, fun _ => .p (by exact op_index_e tySl69 (ix_lo e14) (ix_map (e := eGEdge) e14) rfl rfl)⟩, ⟨.b (.eptr [.i x_13.weight, .i x_13.report]), fun _ => rfl, fun _ => .p (by exact op_field_e tyFld87_2 rfl rfl)⟩, ⟨I x_13.weight, fun _ => rfl, fun _ => .p (by exact op_load_e1 tyOne3 rfl rfl)⟩, ⟨I (IntKind.i64.wrap (sum_6 + x_13.weight)), fun _ => rfl, fun _ => .p (by exact op_add rfl rfl)⟩, ⟨_, none, .b (.one .any), rfl, (fun e => by simp at e), rfl, rfl, fun _ => .toO [102, 104, 105, 106, 108] (by exact .p (by exact op_store_p1 tyOne3 rfl rfl rfl (Nat.le_of_ble_eq_true rfl) rfl)) (by exact rfl)⟩, trivial, trivial⟩, ⟨by kernel_rfl, ⟨trivial, trivial, trivial, trivial, trivial, ⟨I sum_6, fun _ => rfl, fun _ => .p (by exact op_load_p1 tyOne3 rfl rfl rfl)⟩, ⟨.b (.one (.sl 4 (g0.map eGEdge))), fun _ => rfl, fun _ => .p (by exact op_move rfl)⟩, ⟨I x_9, fun _ => rfl, fun _ => .p (by exact op_move rfl)⟩, ⟨.b (.eptr (eGEdge x_13)), fun _ => rfl, fun _ => .p (by exact op_index_e tySl69 (ix_lo e14) (ix_map (e := eGEdge) e14) rfl rfl)⟩, ⟨.b (.eptr [.i x_13.weight, .i x_13.report]), fun _ => rfl, fun _ => .p (by exact op_field_e tyFld87_2 rfl rfl)⟩, ⟨I x_13.weight, fun _ => rfl, fun _ => .p (by exact op_load_e1 tyOne3 rfl rfl)⟩, ⟨I (IntKind.i64.wrap (sum_6 + x_13.weight)), fun _ => rfl, fun _ => .p (by exact op_add rfl rfl)⟩, trivial, ⟨_, none, .b (.one .any), rfl, (fun e => by simp at e), rfl, rfl, fun _ => .toO [102, 104, 105, 106, 108] (by exact .p (by exact op_store_p1 tyOne3 rfl rfl rfl (Nat.le_of_ble_eq_true rfl) rfl)) (by exact rfl)⟩, trivial⟩, ⟨by kernel_rfl, ⟨trivial, trivial, trivial, trivial, trivial, trivial, trivial, trivial, trivial, trivial, trivial, trivial, trivial, trivial, trivial⟩, trivial⟩⟩⟩) rfl rfl rfl [0, 7, 10, 11, 12, 13] [102, 104, 105, 106, 108] (s' := ⟨[(0, _), (7, _), (10, _), (11, _), (12, _), (13, _)], [(102, _), (104, .box 3 [.i x_12.to]), (105, .box 3 [.i (IntKind.i64.wrap (sum_6 + x_13.weight))]), (106, _), (108, _)]⟩) rfl ?_
    refine Fin.block_normal (Fin.keepS ⟨[(0, _), (7, _), (10, _), (11, _), (12, _), (13, _)], [(102, _), (104, _), (105, _), (106, _), (108, _)]⟩ rfl (Fin.then (Tri.seq (Tri.seq (Tri.regionL ?_)))))
    refine Oc (op_load_p1 tyOne3 rfl rfl rfl) (OpsL.nilS ⟨[(0, _), (7, _), (10, _), (11, _), (12, _), (63, I left_7)], [(102, _), (104, _), (105, _), (108, _)]⟩ rfl (Tri.regionL (Oc (op_alloc (k := 110) tyZero3 rfl) (Oc (op_store_p1 tyOne3 rfl rfl rfl (Nat.le_of_ble_eq_true rfl) rfl) ?_))))
    refine OpsL.nilS ⟨[(0, _), (7, _), (10, _), (11, _), (12, _), (13, Pt 110 0)], [(102, _), (104, _), (105, _), (108, _), (110, .box 3 [.i left_7])]⟩ rfl (Tri.regionL (Oc (op_load_p1 tyOne3 rfl rfl rfl) (Oc (op_sub rfl rfl) (Oc (op_store_p1 tyOne3 rfl rfl rfl (Nat.le_of_ble_eq_true rfl) rfl) ?_))))
    refine OpsL.nil (Fin.keepS ⟨[(0, .b (.one (.sl 4 (g0.map eGEdge)))), (7, Pt 102 0), (10, .b (.row 108)), (11, Pt 104 0), (12, Pt 105 0), (13, Pt 110 0)], [(102, .box 105 [.sl 1 (x_1.map ePm)]), (104, .box 3 [.i x_12.to]), (105, .box 3 [.i (IntKind.i64.wrap (sum_6 + x_13.weight))]), (108, .row 87 4 (x_11.map eGEdge)), (110, .box 3 [.i (IntKind.i64.wrap (left_7 - 1))])]⟩ rfl (Fin.rename 110 106 rfl (by decide) rfl ?_))
    exact Fin.againJ [0, 7, 10, 11, 12, 13] [102, 104, 105, 106, 108] (x_11, x_12.to, IntKind.i64.wrap (sum_6 + x_13.weight), IntKind.i64.wrap (left_7 - 1)) (Option.some.inj h8) rfl
   ·refine Tri.exit (Fin.then_exit ?_)
    obtain rfl := hy9 _ (Option.some.inj h8).symm
    refine Fin.then_exit (Fin.block_exit ?_)
    exact Fin.join [10] [108] out_4 rfl rfl
  ·rintro out_3 hv
   subst v5
   refine Tri.seq (Tri.regionL ?_)
   refine Oc om (Oc oa ?_)
   refine OpsL.nilS ⟨[(6, .b (.row 108))], [(108, _)]⟩ rfl (Tri.ret ?_)
   obtain rfl := Option.some.inj h
   refine Fin.keepS ⟨[(6, _)], [(108, _)]⟩ rfl (Fin.resultK 108 kr0 [.row 108] (.inl rfl) rfl (.cons (.tmp rfl) .nil) rfl rfl rfl rfl ⟨rfl, rfl⟩)
theorem walk_ne {F : Nat} {g0 : List GEdge} {start0 n0 : Int} {x_1 : List MapI} {out : List GEdge} (hn : 1 ≤ n0 ∧ n0 ≤ 1000000) (h : iter F (un4 fun out_4 at_5 sum_6 left_7 => if (decide (0 ≤ left_7)) = true then ((slices_IndexFunc_S F g0 x_1 left_7 at_5 sum_6).bind fun x_9 => (idx? g0 x_9).bind fun x_10 => (app? out_4 [x_10]).bind fun x_11 => (idx? g0 x_9).bind fun x_12 => (idx? g0 x_9).bind fun x_13 => some (.inl (x_11, x_12.to, IntKind.i64.wrap (sum_6 + x_13.weight), IntKind.i64.wrap (left_7 - 1)))) else (some (.inr out_4))) ([], start0, 0, IntKind.i64.wrap (n0 - 1)) = some out) (he : out = []) : False := by
 revert he
 refine iter_inv (fun s => 0 ≤ s.2.2.2 ∨ s.1 ≠ []) (fun o => o = [] → False) ?_ _ _ ?_ h
 ·rintro ⟨out, at_, sum, left⟩ z hi hb
  change (if decide (0 ≤ left) = true then _ else _) = some z at hb
  by_cases hl : 0 ≤ left
  ·rw [if_pos (by simpa using hl)] at hb
   obtain ⟨a1, _, hb⟩ := bnd hb
   obtain ⟨a2, _, hb⟩ := bnd hb
   obtain ⟨a3, ha, hb⟩ := bnd hb
   obtain ⟨a4, _, hb⟩ := bnd hb
   obtain ⟨a5, _, hb⟩ := bnd hb
   cases Option.some.inj hb
   refine ⟨fun s' e => ?_, fun y e => by cases e⟩
   cases e
   refine .inr fun e0 => ?_
   have e1 : a3 = [] := e0
   unfold app? at ha
   split at ha
   ·have := Option.some.inj ha
    rw [e1] at this
    simp at this
   ·cases ha
  ·rw [if_neg (by simpa using hl)] at hb
   cases Option.some.inj hb
   refine ⟨fun s' e => (by cases e), fun y e => ?_⟩
   cases e
   rcases hi with h1 | h1
   ·exact absurd h1 hl
   ·exact h1
 ·left
  show 0 ≤ IntKind.i64.wrap _
  rw [wrap_of_inR (inR_i64 (by omega) (by omega))]
  omega
theorem sensor_graph_walk_nil {F : Nat} {g0 : List GEdge} {start0 : Int} {n0 : Int} (h : sensor_graph_walk_S F g0 start0 n0 = some []) (hn : 1 ≤ n0 ∧ n0 ≤ 1000000) : Meets Try.prog [] 42 [] [.one (.sl 4 (g0.map eGEdge)), .one (.i start0), .one (.i n0)] (Is [] (.b (.one .nil))) := by
 unfold sensor_graph_walk_S at h
 refine Meets.intro 65 Try.func42 Try.ntmps42 rfl (by simp) fun E => ?_
 show Tri _ E ⟨65, [], [], []⟩ _ ⟨[(0, .b (.one (.sl 4 (g0.map eGEdge)))), (1, I start0), (2, I n0)], []⟩ _
 refine Tri.seq (Tri.regionL ?_)
 refine Oc oa (OpsL.nilS ⟨[(0, .b (.one (.sl 4 (g0.map eGEdge)))), (1, I start0), (2, I n0)], []⟩ rfl (Tri.seq (Tri.regionL ?_)))
 refine Oc om (Oc om (Oc om ?_))
 obtain ⟨x_1, e1, h⟩ := bnd h
 refine Oc (op_call (sensor_graph_rests_spec 101 e1) goes57 rfl trivial rfl rfl) (Oc (op_alloc (k := 102) tyZero105 rfl) ?_)
 refine OpsL.persist 101 rfl (Oc (op_store_p1 tyOne105 rfl rfl rfl (Nat.le_of_ble_eq_true rfl) rfl) (OpsL.nilS ⟨[(0, .b (.one (.sl 4 (g0.map eGEdge)))), (1, I start0), (2, I n0), (7, Pt 102 0)], [(102, .box 105 [.sl 1 (x_1.map ePm)])]⟩ rfl (Tri.seq (Tri.seq (Tri.regionL ?_)))))
 refine Oc (op_load_p1 tyOne105 rfl rfl rfl) (Oc om ?_)
 obtain ⟨x_2, e2, h⟩ := bnd h
 refine Oc (op_index_e tySl105 (ix_lo e2) (ix_map (e := ePm) e2) rfl rfl) (Oc (op_load_e1 tyOne71 rfl rfl) (Oc om (Oc (op_pgetI2 tyMap71 rfl rfl) (Oc om ?_))))
 refine OpsL.keepS ⟨[(0, _), (1, _), (2, _), (7, _), (19, .tup [.one (.i (mGet x_2 start0)), .one (.bool (mHas x_2 start0))])], [(102, _)]⟩ rfl (Oc (op_extract rfl rfl) (Oc (op_extract rfl rfl) (Oc oa (Oc oa ?_))))
 refine OpsL.nilS ⟨[(0, _), (1, _), (2, _), (7, _), (8, I (mGet x_2 start0)), (9, B (mHas x_2 start0))], [(102, _)]⟩ rfl (Tri.seq (Tri.regionL ?_))
 refine Oc om (Oc (op_not rfl) (Oc om ?_))
 refine CgF (!(!(mHas x_2 start0))) [] (fun g3 => trivial) (fun g3 => om) (CgF (!(!(mHas x_2 start0))) [31] (fun g4 => by exact ⟨g4, trivial⟩) (fun g4 => op_geq rfl rfl) (Oc (op_pick_or (fun e => by rw [e]; rfl) rfl rfl rfl rfl) (OpsL.nilS ⟨[(0, _), (1, _), (2, _), (7, _), (33, B ((!(mHas x_2 start0)) || (decide (0 ≤ (mGet x_2 start0)))))], [(102, _)]⟩ rfl (Tri.ite h rfl (fun _ h => ?_) (fun _ h => ?_)))))
 ·refine Tri.seq (Tri.regionL ?_)
  refine Oc oa (OpsL.nilS ⟨[(6, .b (.one (.nil)))], []⟩ rfl (Tri.ret (Fin.then_ret ?_)))
  exact Fin.result' [.one .nil] (.inl rfl) rfl (.cons (.tmp rfl) .nil) ⟨rfl, rfl⟩
 ·refine Tri.skip (Fin.keepS ⟨[(0, _), (1, _), (2, _), (7, _)], [(102, _)]⟩ rfl (Fin.then (Tri.seq (Tri.regionL ?_))))
  refine Oc oa (OpsL.nilS ⟨[(0, _), (1, _), (2, _), (7, _), (10, .b (.one (.nil)))], [(102, _)]⟩ rfl (Tri.seq (Tri.regionL ?_)))
  refine Oc om (Oc (op_alloc (k := 104) tyZero3 rfl) (Oc (op_alloc (k := 105) tyZero3 rfl) (Oc (op_store_p1 tyOne3 rfl rfl rfl (Nat.le_of_ble_eq_true rfl) rfl) (Oc (op_store_p1 tyOne3 rfl rfl rfl (Nat.le_of_ble_eq_true rfl) rfl) ?_))))
  refine OpsL.nilS ⟨[(0, _), (2, _), (7, _), (10, _), (11, Pt 104 0), (12, Pt 105 0)], [(102, _), (104, .box 3 [.i start0]), (105, .box 3 [.i 0])]⟩ rfl ?_
  obtain ⟨v5, h6, h⟩ := bnd h
  refine Tri.seqJ (v := v5) (fun (out_3 : List GEdge) => ⟨[(10, .b (.row 108))], [(108, .row 87 4 (out_3.map eGEdge))]⟩) (fun z => z) ?_ ?_
  ·refine Tri.seq (Tri.regionL ?_)
   refine Oc om (Oc (op_sub rfl rfl) (Oc (op_alloc (k := 106) tyZero3 rfl) (Oc (op_store_p1 tyOne3 rfl rfl rfl (Nat.le_of_ble_eq_true rfl) rfl) ?_)))
   refine OpsL.nilS ⟨[(0, _), (7, _), (10, _), (11, _), (12, _), (13, Pt 106 0)], [(102, _), (104, _), (105, _), (106, .box 3 [.i (IntKind.i64.wrap (n0 - 1))])]⟩ rfl (Tri.block (Tri.nilrow 10 108 4 87 rfl (by decide) rfl (Tri.loopJ h6 (un4 fun (out_4 : List GEdge) (at_5 : Int) (sum_6 : Int) (left_7 : Int) => ⟨[(0, .b (.one (.sl 4 (g0.map eGEdge)))), (7, Pt 102 0), (10, .b (.row 108)), (11, Pt 104 0), (12, Pt 105 0), (13, Pt 106 0)], [(102, .box 105 [.sl 1 (x_1.map ePm)]), (104, .box 3 [.i at_5]), (105, .box 3 [.i sum_6]), (106, .box 3 [.i left_7]), (108, .row 87 4 (out_4.map eGEdge))]⟩) [0, 7, 10, 11, 12, 13] [102, 104, 105, 106, 108] rfl ?_)))
   rintro ⟨out_4, at_5, sum_6, left_7⟩ o7 h8 hy9
   refine Tri.seq (Tri.seq (Tri.regionL ?_))
   refine Oc (op_load_p1 tyOne3 rfl rfl rfl) (Oc (op_geq rfl rfl) ?_)
   refine OpsL.nilS ⟨[(0, _), (7, _), (10, _), (11, _), (12, _), (13, _), (38, B (decide (0 ≤ left_7)))], [(102, _), (104, _), (105, _), (106, _), (108, _)]⟩ rfl (Tri.ite h8 rfl (fun _ h8 => ?_) (fun _ h8 => ?_))
   ·refine Tri.skip (Fin.keepS ⟨[(0, _), (7, _), (10, _), (11, _), (12, _), (13, _)], [(102, _), (104, _), (105, _), (106, _), (108, _)]⟩ rfl (Fin.then (Tri.seq (Tri.block (Tri.seq (Tri.regionL ?_))))))
    refine Oc om (Oc (op_makeFunc rfl rfl) ?_)
    obtain ⟨x_9, e10, h8⟩ := bnd h8
    refine Oc (op_call (own_a := [(102, _), (106, _), (104, _), (105, _)]) (((((slices_IndexFunc_spec e10).sw 1 102).sw 2 106).sw 3 104).sw 4 105) goes58 rfl ⟨rfl, rfl, rfl, rfl, trivial⟩ rfl rfl) (Oc oa ?_)
    refine OpsL.nilS ⟨[(0, _), (7, _), (10, _), (11, _), (12, _), (13, _), (14, I x_9)], [(102, _), (104, _), (105, _), (106, _), (108, _)]⟩ rfl (Tri.seq (Tri.regionL ?_))
    refine Oc om (Oc om (Oc om ?_))
    obtain ⟨x_10, e11, h8⟩ := bnd h8
    refine Oc (op_index_e tySl69 (ix_lo e11) (ix_map (e := eGEdge) e11) rfl rfl) (Oc (op_load_e tyAgg87 rfl rfl rfl) (Oc (op_buildSlice (k := 109) (es := [x_10].map eGEdge) tySl68 rfl rfl (uni_map fun _ => rfl) rfl (by decide) (by decide) rfl) ?_))
    obtain ⟨x_11, e12, h8⟩ := bnd h8
    refine Oc (op_append_r tySl68 (app_b e12) (app_m e12) rfl rfl rfl rfl (app_map e12) rfl) (Oc oa ?_)
    refine OpsL.nilS ⟨[(0, _), (7, _), (10, _), (11, _), (12, _), (13, _), (14, _)], [(102, _), (104, _), (105, _), (106, _), (108, .row 87 4 (x_11.map eGEdge))]⟩ rfl ?_
    obtain ⟨x_12, e13, h8⟩ := bnd h8
    obtain ⟨x_13, e14, h8⟩ := bnd h8
    refine Tri.regionWF mixed [false, false, false, false, false, false, false, false, false, false, false, false, true, true] [.b (.one (.sl 4 (g0.map eGEdge))), I x_9, .b (.eptr (eGEdge x_12)), .b (.eptr [.i x_12.to, .i x_12.weight, .i x_12.report]), I x_12.to, I sum_6, .b (.one (.sl 4 (g0.map eGEdge))), I x_9, .b (.eptr (eGEdge x_13)), .b (.eptr [.i x_13.weight, .i x_13.report]), I x_13.weight, I (IntKind.i64.wrap (sum_6 + x_13.weight)), B true, B true] [⟨[false, false, false, false, false, false, false, false, false, false, false, false, false, false], [(0, .b (.one (.sl 4 (g0.map eGEdge)))), (7, Pt 102 0), (10, .b (.row 108)), (11, Pt 104 0), (12, Pt 105 0), (13, Pt 106 0), (14, I x_9)], [(102, .box 105 [.sl 1 (x_1.map ePm)]), (104, .box 3 [.i at_5]), (105, .box 3 [.i sum_6]), (106, .box 3 [.i left_7]), (108, .row 87 4 (x_11.map eGEdge))], [true, true, true, true, true, true, true, true, true, true, true, true, true, true], []⟩, ⟨[false, false, false, false, false, false, false, false, false, false, false, false, true, false], [(0, .b (.one (.sl 4 (g0.map eGEdge)))), (7, Pt 102 0), (10, .b (.row 108)), (11, Pt 104 0), (12, Pt 105 0), (13, Pt 106 0), (14, I x_9)], [(102, .box 105 [.sl 1 (x_1.map ePm)]), (104, .box 3 [.i x_12.to]), (105, .box 3 [.i sum_6]), (106, .box 3 [.i left_7]), (108, .row 87 4 (x_11.map eGEdge))], [true, true, true, true, true, true, true, true, true, true, true, true, true, true], [0, 1, 2, 3, 4, 12]⟩, ⟨[false, false, false, false, false, false, false, false, false, false, false, false, true, true], [(0, .b (.one (.sl 4 (g0.map eGEdge)))), (7, Pt 102 0), (10, .b (.row 108)), (11, Pt 104 0), (12, Pt 105 0), (13, Pt 106 0), (14, I x_9)], [(102, .box 105 [.sl 1 (x_1.map ePm)]), (104, .box 3 [.i x_12.to]), (105, .box 3 [.i (IntKind.i64.wrap (sum_6 + x_13.weight))]), (106, .box 3 [.i left_7]), (108, .row 87 4 (x_11.map eGEdge))], [true, true, true, true, true, true, true, true, true, true, true, true, true, true], [0, 1, 2, 3, 4, 5, 6, 7, 8, 9, 10, 11, 12, 13]⟩] rfl (⟨by kernel_rfl, ⟨⟨.b (.one (.sl 4 (g0.map eGEdge))), fun _ => rfl, fun _ => .p (by exact op_move rfl)⟩, ⟨I x_9, fun _ => rfl, fun _ => .p (by exact op_move rfl)⟩, ⟨.b (.eptr (eGEdge x_12)), fun _ => rfl, fun _ => .p (by exact op_index_e tySl69 (ix_lo e13) (ix_map (e := eGEdge) e13) rfl rfl)⟩, ⟨.b (.eptr [.i x_12.to, .i x_12.weight, .i x_12.report]), fun _ => rfl, fun _ => .p (by exact op_field_e tyFld87_1 rfl rfl)⟩, ⟨I x_12.to, fun _ => rfl, fun _ => .p (by exact op_load_e1 tyOne3 rfl rfl)⟩, ⟨I sum_6, fun _ => rfl, fun _ => .p (by exact op_load_p1 tyOne3 rfl rfl rfl)⟩, ⟨.b (.one (.sl 4 (g0.map eGEdge))), fun _ => rfl, fun _ => .p (by exact op_move rfl)⟩, ⟨I x_9, fun _ => rfl, fun _ => .p (by exact op_move rfl)⟩, ⟨.b (.eptr (eGEdge x_13)), fun _ => rfl, fun _ => .p (by exact op_index_e tySl69 (ix_lo e14) (ix_map (e := eGEdge) e14) rfl rfl)⟩, ⟨.b (.eptr [.i x_13.weight, .i x_13.report]), fun _ => rfl, fun _ => .p (by exact op_field_e tyFld87_2 rfl rfl)⟩, ⟨I x_13.weight, fun _ => rfl, fun _ => .p (by exact op_load_e1 tyOne3 rfl rfl)⟩, ⟨I (IntKind.i64.wrap (sum_6 + x_13.weight)), fun _ => rfl, fun _ => .p (by exact op_add rfl rfl)⟩, ⟨_, none, .b (.one .any), rfl, (fun e => by simp at e), rfl, rfl, fun _ => .toO [102, 104, 105, 106, 108] (by exact .p (by exact op_store_p1 tyOne3 rfl rfl rfl (Nat.le_of_ble_eq_true rfl) rfl)) (by exact rfl)⟩, trivial, trivial⟩, ⟨by kernel_rfl, ⟨trivial, trivial, trivial, trivial, trivial, ⟨I sum_6, fun _ => rfl, fun _ => .p (by exact op_load_p1 tyOne3 rfl rfl rfl)⟩, ⟨.b (.one (.sl 4 (g0.map eGEdge))), fun _ => rfl, fun _ => .p (by exact op_move rfl)⟩, ⟨I x_9, fun _ => rfl, fun _ => .p (by exact op_move rfl)⟩, ⟨.b (.eptr (eGEdge x_13)), fun _ => rfl, fun _ => .p (by exact op_index_e tySl69 (ix_lo e14) (ix_map (e := eGEdge) e14) rfl rfl)⟩, ⟨.b (.eptr [.i x_13.weight, .i x_13.report]), fun _ => rfl, fun _ => .p (by exact op_field_e tyFld87_2 rfl rfl)⟩, ⟨I x_13.weight, fun _ => rfl, fun _ => .p (by exact op_load_e1 tyOne3 rfl rfl)⟩, ⟨I (IntKind.i64.wrap (sum_6 + x_13.weight)), fun _ => rfl, fun _ => .p (by exact op_add rfl rfl)⟩, trivial, ⟨_, none, .b (.one .any), rfl, (fun e => by simp at e), rfl, rfl, fun _ => .toO [102, 104, 105, 106, 108] (by exact .p (by exact op_store_p1 tyOne3 rfl rfl rfl (Nat.le_of_ble_eq_true rfl) rfl)) (by exact rfl)⟩, trivial⟩, ⟨by kernel_rfl, ⟨trivial, trivial, trivial, trivial, trivial, trivial, trivial, trivial, trivial, trivial, trivial, trivial, trivial, trivial, trivial⟩, trivial⟩⟩⟩) rfl rfl rfl [0, 7, 10, 11, 12, 13] [102, 104, 105, 106, 108] (s' := ⟨[(0, _), (7, _), (10, _), (11, _), (12, _), (13, _)], [(102, _), (104, .box 3 [.i x_12.to]), (105, .box 3 [.i (IntKind.i64.wrap (sum_6 + x_13.weight))]), (106, _), (108, _)]⟩) rfl ?_
    refine Fin.block_normal (Fin.keepS ⟨[(0, _), (7, _), (10, _), (11, _), (12, _), (13, _)], [(102, _), (104, _), (105, _), (106, _), (108, _)]⟩ rfl (Fin.then (Tri.seq (Tri.seq (Tri.regionL ?_)))))
    refine Oc (op_load_p1 tyOne3 rfl rfl rfl) (OpsL.nilS ⟨[(0, _), (7, _), (10, _), (11, _), (12, _), (63, I left_7)], [(102, _), (104, _), (105, _), (108, _)]⟩ rfl (Tri.regionL (Oc (op_alloc (k := 110) tyZero3 rfl) (Oc (op_store_p1 tyOne3 rfl rfl rfl (Nat.le_of_ble_eq_true rfl) rfl) ?_))))
    refine OpsL.nilS ⟨[(0, _), (7, _), (10, _), (11, _), (12, _), (13, Pt 110 0)], [(102, _), (104, _), (105, _), (108, _), (110, .box 3 [.i left_7])]⟩ rfl (Tri.regionL (Oc (op_load_p1 tyOne3 rfl rfl rfl) (Oc (op_sub rfl rfl) (Oc (op_store_p1 tyOne3 rfl rfl rfl (Nat.le_of_ble_eq_true rfl) rfl) ?_))))
    refine OpsL.nil (Fin.keepS ⟨[(0, .b (.one (.sl 4 (g0.map eGEdge)))), (7, Pt 102 0), (10, .b (.row 108)), (11, Pt 104 0), (12, Pt 105 0), (13, Pt 110 0)], [(102, .box 105 [.sl 1 (x_1.map ePm)]), (104, .box 3 [.i x_12.to]), (105, .box 3 [.i (IntKind.i64.wrap (sum_6 + x_13.weight))]), (108, .row 87 4 (x_11.map eGEdge)), (110, .box 3 [.i (IntKind.i64.wrap (left_7 - 1))])]⟩ rfl (Fin.rename 110 106 rfl (by decide) rfl ?_))
    exact Fin.againJ [0, 7, 10, 11, 12, 13] [102, 104, 105, 106, 108] (x_11, x_12.to, IntKind.i64.wrap (sum_6 + x_13.weight), IntKind.i64.wrap (left_7 - 1)) (Option.some.inj h8) rfl
   ·refine Tri.exit (Fin.then_exit ?_)
    obtain rfl := hy9 _ (Option.some.inj h8).symm
    refine Fin.then_exit (Fin.block_exit ?_)
    exact Fin.join [10] [108] out_4 rfl rfl
  ·rintro out_3 hv
   exact (walk_ne hn h6 (Option.some.inj h)).elim
def sensor_Contradiction_S (F : Nat) (l0 : List Report) (now0 : Int) : Option ((List Int) × Int) :=
 Option.bind (each (fun (_ : Unit) => un2 fun i_1 r_2 => if (decide (r_2.Hi < r_2.Lo)) = true then (some (.inr ([i_1], r_2.Axis))) else (some (.inl ()))) (cnt l0 now0) ()) (alt2 (fun (_ : Unit) => (sensor_Consistent_S F l0 now0).bind fun x_5 => if x_5 = true then (some ([], (-1))) else (Option.bind (iter F (fun n_6 => Option.bind (Option.bind (iter F (fun x_7 => if (decide (x_7 < 3)) = true then (Option.bind ((sensor_edges_S F l0 now0 x_7).bind fun x_8 => (sensor_things_S F l0).bind fun x_9 => Option.bind (iter F (un2 fun g_10 x_11 => if (decide (x_11 < (IntKind.i64.wrap (x_9 + 1)))) = true then (Option.bind (Option.bind (req? (decide (1 ≤ n_6 ∧ n_6 ≤ 1000000))) (fun u_12 => (sensor_graph_walk_S F g_10 x_11 n_6).bind fun w_13 => if decide (w_13 = []) = true then (some (.inl ())) else (Option.bind (iter F (un2 fun out_15 x_16 => if (decide (x_16 < (w_13.length : Int))) = true then ((idx? w_13 x_16).bind fun x_18 => (app? out_15 [x_18.report]).bind fun x_19 => some (.inl (x_19, IntKind.i64.wrap (x_16 + 1)))) else (some (.inr out_15))) ([], 0)) (fun out_14 => (slices_Sort_S F out_14).bind fun x_20 => (slices_Compact_S F x_20).bind fun x_21 => some (.inr (x_21, x_7)))))) (alt2 (fun _ => some (.inl (g_10, IntKind.i64.wrap (x_11 + 1)))) (fun y => some (.inr (.inr y))))) else (some (.inr (.inl ())))) (x_8, 0)) (alt2 (fun _ => some (.inl ())) (fun y => some (.inr y)))) (alt2 (fun _ => some (.inl (IntKind.i64.wrap (x_7 + 1)))) (fun y => some (.inr (.inr y))))) else (some (.inr (.inl ())))) 0) (alt2 (fun _ => some (.inl ())) (fun y => some (.inr y)))) (alt2 (fun _ => some (.inl (IntKind.i64.wrap (n_6 + 1)))) (fun y => some (.inr y)))) 2) (fun y => some y))) (un2 fun x_3 x_4 => some (x_3, x_4)))
theorem sensor_Contradiction_spec {F : Nat} {l0 : List Report} {now0 : Int} {r : (List Int) × Int} (h : sensor_Contradiction_S F l0 now0 = some r) : Meets Try.prog [] 12 [] [.one (.sl 6 (l0.map eReport)), .one (.i now0)] (Is [] (.tup [.one (.sl 1 (r.1.map eI)), .one (.i r.2)])) := by
 unfold sensor_Contradiction_S at h
 refine Meets.introM 73 Try.func12 Try.ntmps12 rfl (by simp) fun E => ?_
 show Tri _ E ⟨73, [], [], []⟩ _ ⟨[(0, .b (.one (.sl 6 (l0.map eReport)))), (1, I now0)], []⟩ _
 refine Tri.seq (Tri.regionL ?_)
 refine Oc (op_alloc (k := 101) tyZero37 rfl) (Oc (op_alloc (k := 102) tyZero3 rfl) ?_)
 refine OpsL.nilS ⟨[(0, .b (.one (.sl 6 (l0.map eReport)))), (1, I now0), (4, Pt 101 0), (5, Pt 102 0)], [(101, .box 37 [.nil]), (102, .box 3 [.i 0])]⟩ rfl (Tri.seq (Tri.seq (Tri.regionL ?_)))
 refine Oc om (Oc om (Oc (op_call0 counting_spec goes41 rfl rfl) ?_))
 refine OpsL.nilS ⟨[(0, _), (1, _), (4, _), (5, _), (18, .b (.one (.cloP 56 [CP.rp [.sl 6 (l0.map eReport)], CP.rp [.i now0]])))], [(101, _), (102, _)]⟩ rfl (Tri.rangeB _ cArg _ _ (fun (_ : Unit) => [(101, .box 37 [.nil]), (102, .box 3 [.i 0])]) (un2 fun (x_3 : List Int) (x_4 : Int) => [(101, .box 37 [.sl 1 (x_3.map eI)]), (102, .box 3 [.i x_4])]) (fun (_ : Unit) => un2 fun i_1 r_2 => ⟨[(4, Pt 101 0), (5, Pt 102 0), (6, I i_1), (7, Pt 103 0)], [(101, .box 37 [.nil]), (102, .box 3 [.i 0]), (103, .box 24 (eReport r_2))]⟩) h counting_iter goes56 rfl rfl rfl (fun _ => rfl) (fun _ => rfl) (fun _ => rfl) (fun _ _ => rfl) (fun _ _ => rfl) rfl (fun _ => rfl) ?_ ?_ ?_ ?_)
 ·rintro E l ⟨⟩ ⟨i_1, r_2⟩ z _ h1
  refine TriR.keep [0, 1, 4, 5, 18, 19, 20] [101, 102] (s' := ⟨[(0, .b (.one (.sl 6 (l0.map eReport)))), (1, I now0), (4, Pt 101 0), (5, Pt 102 0), (18, .b (.one (.cloP 56 [CP.rp [.sl 6 (l0.map eReport)], CP.rp [.i now0]]))), (19, I i_1), (20, .b (.agg (eReport r_2)))], [(101, .box 37 [.nil]), (102, .box 3 [.i 0])]⟩) rfl (TriR.seq (TriR.regionL (.inr ⟨_, rfl⟩) (Oc oa (OpsL.nil (Fin.keepS ⟨[(4, _), (5, _), (6, I i_1), (20, _)], [(101, _), (102, _)]⟩ rfl ?_)))))
  refine Fin.thenR ?_ (fun ⟨_, _, hl⟩ => hl)
  refine TriR.regionL (.inr ⟨_, rfl⟩) (Oc (op_alloc (k := 103) tyZero24 rfl) (Oc (op_store_p tyAgg24 rfl rfl rfl rfl (Nat.le_of_ble_eq_true rfl) rfl) ?_))
  refine OpsL.nil ?_
  exact Fin.keepS ⟨[(4, _), (5, _), (6, _), (7, Pt 103 0)], [(101, _), (102, _), (103, .box 24 (eReport r_2))]⟩ rfl (fun a w hr => hr)
 ·rintro E l ⟨⟩ ⟨i_1, r_2⟩ z _ h1
  refine TriR.block (TriR.seq (TriR.regionL (.inr ⟨_, rfl⟩) (Oc (op_field_p tyFld24_3 rfl rfl) (Oc (op_load_p1 tyOne3 rfl rfl rfl) (Oc (op_field_p tyFld24_4 rfl rfl) (Oc (op_load_p1 tyOne3 rfl rfl rfl) (Oc (op_gtr rfl rfl) ?_)))))))
  refine OpsL.nil (Fin.keepS ⟨[(4, Pt 101 0), (5, Pt 102 0), (6, I i_1), (7, Pt 103 0), (25, B (decide (r_2.Hi < r_2.Lo)))], [(101, .box 37 [.nil]), (102, .box 3 [.i 0]), (103, .box 24 (eReport r_2))]⟩ rfl (Fin.thenR ?_ (fun ⟨_, _, hl⟩ => hl)))
  refine TriR.ite h1 rfl (fun _ h1 => ?_) (fun _ h1 => ?_)
  ·refine TriR.seq (TriR.keep [4, 5, 6, 7] [101, 102, 103] (s' := ⟨[(4, _), (5, _), (6, _), (7, _)], [(101, _), (102, _), (103, _)]⟩) rfl (TriR.regionWF (.inr ⟨_, rfl⟩) mixed [false, false, false, false, true, true] [I i_1, .b (.one (.sl 1 ([i_1].map eI))), Pt 103 2, I r_2.Axis, B true, B true] [⟨[false, false, false, false, false, false], [(4, Pt 101 0), (5, Pt 102 0), (6, I i_1), (7, Pt 103 0)], [(101, .box 37 [.nil]), (102, .box 3 [.i 0]), (103, .box 24 (eReport r_2))], [true, true, true, true, true, true], []⟩, ⟨[false, false, false, false, true, false], [(4, Pt 101 0), (5, Pt 102 0), (6, I i_1), (7, Pt 103 0)], [(101, .box 37 [.sl 1 ([i_1].map eI)]), (102, .box 3 [.i 0]), (103, .box 24 (eReport r_2))], [true, true, true, true, true, true], [0, 1, 4]⟩, ⟨[false, false, false, false, true, true], [(4, Pt 101 0), (5, Pt 102 0), (6, I i_1), (7, Pt 103 0)], [(101, .box 37 [.sl 1 ([i_1].map eI)]), (102, .box 3 [.i r_2.Axis]), (103, .box 24 (eReport r_2))], [true, true, true, true, true, true], [0, 1, 2, 3, 4, 5]⟩] rfl (⟨by kernel_rfl, ⟨⟨I i_1, fun _ => rfl, fun _ => .p (by exact op_move rfl)⟩, ⟨.b (.one (.sl 1 ([i_1].map eI))), fun _ => rfl, fun _ => .p (by exact op_buildSliceP (es := [i_1].map eI) tySl37 rfl rfl (uni_map fun _ => rfl) rfl (by decide) (by decide))⟩, ⟨Pt 103 2, fun _ => rfl, fun _ => .p (by exact op_field_p tyFld24_2 rfl rfl)⟩, ⟨I r_2.Axis, fun _ => rfl, fun _ => .p (by exact op_load_p1 tyOne3 rfl rfl rfl)⟩, ⟨_, none, .b (.one .any), rfl, (fun e => by simp at e), rfl, rfl, fun _ => .toO [101, 102, 103] (by exact .p (by exact op_store_p1 tyOne37 rfl rfl rfl (Nat.le_of_ble_eq_true rfl) rfl)) (by exact rfl)⟩, trivial, trivial⟩, ⟨by kernel_rfl, ⟨trivial, trivial, ⟨Pt 103 2, fun _ => rfl, fun _ => .p (by exact op_field_p tyFld24_2 rfl rfl)⟩, ⟨I r_2.Axis, fun _ => rfl, fun _ => .p (by exact op_load_p1 tyOne3 rfl rfl rfl)⟩, trivial, ⟨_, none, .b (.one .any), rfl, (fun e => by simp at e), rfl, rfl, fun _ => .toO [101, 102, 103] (by exact .p (by exact op_store_p1 tyOne3 rfl rfl rfl (Nat.le_of_ble_eq_true rfl) rfl)) (by exact rfl)⟩, trivial⟩, ⟨by kernel_rfl, ⟨trivial, trivial, trivial, trivial, trivial, trivial, trivial⟩, trivial⟩⟩⟩) rfl rfl rfl [4, 5] [101, 102] (s' := ⟨[(4, _), (5, _)], [(101, .box 37 [.sl 1 ([i_1].map eI)]), (102, .box 3 [.i r_2.Axis])]⟩) rfl (Fin.keepS ⟨[(4, _), (5, _)], [(101, _), (102, _)]⟩ rfl (Fin.thenR ?_ (fun ⟨_, _, hl⟩ => hl)))))
   refine TriR.ret (Fin.block_ret ?_)
   obtain rfl := Option.some.inj h1
   exact Fin.keepS ⟨[], [(101, _), (102, _)]⟩ rfl (fun a w hr => ⟨_, rfl, hr⟩)
  ·refine TriR.skip (Fin.block_normal ?_)
   obtain rfl := Option.some.inj h1
   exact Fin.keepS ⟨[], [(101, _), (102, _)]⟩ rfl (fun a w hr => ⟨_, rfl, hr⟩)
 ·rintro E D ⟨⟩ h2
  refine Tri.seq (Tri.seq (Tri.regionL ?_))
  refine Oc om (Oc om ?_)
  obtain ⟨x_5, e3, h2⟩ := bnd h2
  refine Oc (op_call0 (sensor_Consistent_spec e3) goes17 rfl rfl) (OpsL.nilS ⟨[(0, .b (.one (.sl 6 (l0.map eReport)))), (1, I now0), (4, Pt 101 0), (5, Pt 102 0), (32, B x_5)], [(101, .box 37 [.nil]), (102, .box 3 [.i 0])]⟩ rfl (Tri.ite h2 rfl (fun _ h2 => ?_) (fun _ h2 => ?_)))
  ·refine Tri.seq (Tri.regionL ?_)
   refine Oc (op_store_p1 tyOne37 rfl rfl rfl (Nat.le_of_ble_eq_true rfl) rfl) (Oc (op_store_p1 tyOne3 rfl rfl rfl (Nat.le_of_ble_eq_true rfl) rfl) ?_)
   refine OpsL.nilS ⟨[(4, _), (5, _)], [(101, _), (102, .box 3 [.i (-1)])]⟩ rfl (Tri.ret (Fin.then_ret ?_))
   obtain rfl := Option.some.inj h2
   refine Fin.keepS ⟨[(4, _), (5, _)], [(101, _), (102, _)]⟩ rfl (Fin.nilbox 101 0 1 rfl rfl (by decide) (Fin.result' [.one (.sl 1 ([].map eI)), .one (.i (-1))] (.inl rfl) rfl (.cons (.one tyOne37 rfl rfl rfl) (.cons (.one tyOne3 rfl rfl rfl) .nil)) ⟨rfl, rfl⟩))
  ·refine Tri.skip (Fin.keepS ⟨[(0, _), (1, _), (4, _), (5, _)], [(101, _), (102, _)]⟩ rfl (Fin.then (Tri.seq (Tri.regionL ?_))))
   refine Oc oa (OpsL.nilS ⟨[(0, _), (1, _), (4, _), (5, _), (8, I 2)], [(101, _), (102, _)]⟩ rfl (Tri.block ?_))
   obtain ⟨v4, h5, h2⟩ := bnd h2
   refine Tri.loopJ h5 (fun (n_6 : Int) => ⟨[(0, .b (.one (.sl 6 (l0.map eReport)))), (1, I now0), (4, Pt 101 0), (5, Pt 102 0), (8, I n_6)], [(101, .box 37 [.nil]), (102, .box 3 [.i 0])]⟩) [0, 1, 4, 5, 8] [101, 102] rfl ?_
   rintro n_6 o6 h7 hy8
   obtain ⟨v9, h10, h7⟩ := bnd h7
   refine Tri.seqJ (v := v9) (fun (_ : Unit) => ⟨[(0, .b (.one (.sl 6 (l0.map eReport)))), (1, I now0), (4, Pt 101 0), (5, Pt 102 0), (8, I n_6)], [(101, .box 37 [.nil]), (102, .box 3 [.i 0])]⟩) (fun z => .inl z) ?_ ?_
   ·refine Tri.block (Tri.seq (Tri.regionL ?_))
    refine Oc om (OpsL.nilS ⟨[(0, _), (1, _), (4, _), (5, _), (8, _), (35, I 0)], [(101, _), (102, _)]⟩ rfl (Tri.block ?_))
    obtain ⟨v11, h12, h10⟩ := bnd h10
    refine Tri.loopJ h12 (fun (x_7 : Int) => ⟨[(0, .b (.one (.sl 6 (l0.map eReport)))), (1, I now0), (4, Pt 101 0), (5, Pt 102 0), (8, I n_6), (35, I x_7)], [(101, .box 37 [.nil]), (102, .box 3 [.i 0])]⟩) [0, 1, 4, 5, 8, 35] [101, 102] rfl ?_
    rintro x_7 o13 h14 hy15
    refine Tri.seq (Tri.regionL ?_)
    refine Oc (op_lss rfl rfl) (OpsL.nilS ⟨[(0, _), (1, _), (4, _), (5, _), (8, _), (35, _), (36, B (decide (x_7 < 3)))], [(101, _), (102, _)]⟩ rfl (Tri.seq (Tri.ite h14 rfl (fun _ h14 => ?_) (fun _ h14 => ?_))))
    ·refine Tri.skip (Fin.keepS ⟨[(0, _), (1, _), (4, _), (5, _), (8, _), (35, _)], [(101, _), (102, _)]⟩ rfl (Fin.then ?_))
     obtain ⟨v16, h17, h14⟩ := bnd h14
     refine Tri.seqJ (v := v16) (fun (_ : Unit) => ⟨[(0, .b (.one (.sl 6 (l0.map eReport)))), (1, I now0), (4, Pt 101 0), (5, Pt 102 0), (8, I n_6), (35, I x_7)], [(101, .box 37 [.nil]), (102, .box 3 [.i 0])]⟩) (fun z => .inl z) ?_ ?_
     ·refine Tri.block (Tri.seq (Tri.regionL ?_))
      refine Oc om (Oc oa ?_)
      refine OpsL.nilS ⟨[(0, _), (1, _), (4, _), (5, _), (8, _), (9, I x_7), (35, _)], [(101, _), (102, _)]⟩ rfl (Tri.seq (Tri.regionL ?_))
      refine Oc om (Oc om (Oc om ?_))
      obtain ⟨x_8, e18, h17⟩ := bnd h17
      refine Oc (op_call (own_a := []) ((sensor_edges_spec e18).sw 51 105) goes34 rfl trivial rfl rfl) (Oc oa ?_)
      refine OpsL.nilS ⟨[(0, _), (1, _), (4, _), (5, _), (8, _), (9, _), (10, .b (.row 105)), (35, _)], [(101, _), (102, _), (105, .row 87 4 (x_8.map eGEdge))]⟩ rfl (Tri.seq (Tri.regionL ?_))
      refine Oc om ?_
      obtain ⟨x_9, e19, h17⟩ := bnd h17
      refine Oc (op_call0 (sensor_things_spec e19) goes33 rfl rfl) (Oc (op_add rfl rfl) (Oc om ?_))
      refine OpsL.nilS ⟨[(0, .b (.one (.sl 6 (l0.map eReport)))), (1, I now0), (4, Pt 101 0), (5, Pt 102 0), (8, I n_6), (9, I x_7), (10, .b (.row 105)), (35, I x_7), (44, I (IntKind.i64.wrap (x_9 + 1))), (45, I 0)], [(101, .box 37 [.nil]), (102, .box 3 [.i 0]), (105, .row 87 4 (x_8.map eGEdge))]⟩ rfl (Tri.block (Tri.persist 105 rfl ?_))
      obtain ⟨v20, h21, h17⟩ := bnd h17
      refine Tri.loopJ h21 (un2 fun (g_10 : List GEdge) (x_11 : Int) => ⟨[(0, .b (.one (.sl 6 (l0.map eReport)))), (1, I now0), (4, Pt 101 0), (5, Pt 102 0), (8, I n_6), (9, I x_7), (10, .b (.one (.sl 4 (g_10.map eGEdge)))), (35, I x_7), (44, I (IntKind.i64.wrap (x_9 + 1))), (45, I x_11)], [(101, .box 37 [.nil]), (102, .box 3 [.i 0])]⟩) [0, 1, 4, 5, 8, 9, 10, 35, 44, 45] [101, 102] rfl ?_
      rintro ⟨g_10, x_11⟩ o22 h23 hy24
      refine Tri.seq (Tri.regionL ?_)
      refine Oc (op_lss rfl rfl) (OpsL.nilS ⟨[(0, _), (1, _), (4, _), (5, _), (8, _), (9, _), (10, _), (35, _), (44, _), (45, _), (46, B (decide (x_11 < (IntKind.i64.wrap (x_9 + 1)))))], [(101, _), (102, _)]⟩ rfl (Tri.seq (Tri.ite h23 rfl (fun _ h23 => ?_) (fun _ h23 => ?_))))
      ·refine Tri.skip (Fin.keepS ⟨[(0, _), (1, _), (4, _), (5, _), (8, _), (9, _), (10, _), (35, _), (44, _), (45, _)], [(101, _), (102, _)]⟩ rfl (Fin.then ?_))
       obtain ⟨v25, h26, h23⟩ := bnd h23
       refine Tri.seqJ (v := v25) (fun (_ : Unit) => ⟨[(0, .b (.one (.sl 6 (l0.map eReport)))), (1, I now0), (4, Pt 101 0), (5, Pt 102 0), (8, I n_6), (9, I x_7), (10, .b (.one (.sl 4 (g_10.map eGEdge)))), (35, I x_7), (44, I (IntKind.i64.wrap (x_9 + 1))), (45, I x_11)], [(101, .box 37 [.nil]), (102, .box 3 [.i 0])]⟩) (fun z => .inl z) ?_ ?_
       ·refine Tri.block (Tri.seq (Tri.regionL ?_))
        refine Oc om (Oc oa ?_)
        refine OpsL.nilS ⟨[(0, _), (1, _), (4, _), (5, _), (8, _), (9, _), (10, _), (11, I x_11), (35, _), (44, _), (45, _)], [(101, _), (102, _)]⟩ rfl (Tri.seq (Tri.regionL ?_))
        refine Oc om (Oc om (Oc om ?_))
        obtain ⟨u_12, e27, h26⟩ := bnd h26
        obtain ⟨w_13, e28, h26⟩ := bnd h26
        refine OpsL.ite h26 (fun hc29 h26 => ?_) (fun hc29 h26 => ?_)
        ·refine Oc (op_call0 (sensor_graph_walk_nil (by rw [e28, of_decide_eq_true hc29]) (of_decide_eq_true (req_ok e27))) goes42 rfl rfl) (Oc oa ?_)
         refine OpsL.nilS ⟨[(0, _), (1, _), (4, _), (5, _), (8, _), (9, _), (10, _), (12, .b (.one (.nil))), (35, _), (44, _), (45, _)], [(101, _), (102, _)]⟩ rfl (Tri.seq (Tri.seq (Tri.regionL ?_)))
         refine Oc om (Oc (op_eqnil_n und68 rfl) ?_)
         refine OpsL.nilS ⟨[(0, _), (1, _), (4, _), (5, _), (8, _), (9, _), (10, _), (12, _), (35, _), (44, _), (45, _), (53, B true)], [(101, _), (102, _)]⟩ rfl (Tri.condT rfl (Tri.exit (Fin.then_exit (Fin.block_exit ?_))))
         exact Fin.join [0, 1, 4, 5, 8, 9, 10, 35, 44, 45] [101, 102] () (Option.some.inj h26) rfl
        ·refine Oc (op_call (sensor_graph_walk_spec 106 e28) goes42 rfl trivial rfl rfl) (Oc oa ?_)
         refine OpsL.nilS ⟨[(0, _), (1, _), (4, _), (5, _), (8, _), (9, _), (10, _), (12, .b (.row 106)), (35, _), (44, _), (45, _)], [(101, _), (102, _), (106, .row 87 4 (w_13.map eGEdge))]⟩ rfl (Tri.seq (Tri.seq (Tri.regionL ?_)))
         refine Oc om (Oc (op_eqnil_r und68 rfl rfl (fun hn => (of_decide_eq_false hc29) (List.map_eq_nil_iff.1 hn))) ?_)
         refine OpsL.nilS ⟨[(0, _), (1, _), (4, _), (5, _), (8, _), (9, _), (10, _), (12, _), (35, _), (44, _), (45, _), (53, B false)], [(101, _), (102, _), (106, _)]⟩ rfl (Tri.condF rfl (Tri.skip (Fin.keepS ⟨[(4, _), (5, _), (9, _), (12, _)], [(101, _), (102, _), (106, _)]⟩ rfl (Fin.then (Tri.seq (Tri.regionL ?_))))))
         refine Oc oa (OpsL.nilS ⟨[(4, _), (5, _), (9, _), (12, _), (13, .b (.one (.nil)))], [(101, _), (102, _), (106, _)]⟩ rfl ?_)
         obtain ⟨v30, h31, h26⟩ := bnd h26
         refine Tri.seqJ (v := v30) (fun (out_14 : List Int) => ⟨[(4, Pt 101 0), (5, Pt 102 0), (9, I x_7), (13, .b (.row 109))], [(101, .box 37 [.nil]), (102, .box 3 [.i 0]), (109, .row 3 1 (out_14.map eI))]⟩) (fun z => z) ?_ ?_
         ·refine Tri.seq (Tri.regionL ?_)
          refine Oc om (Oc (op_len_r' und68 rfl rfl (List.length_map _)) (Oc om ?_))
          refine OpsL.nilS ⟨[(4, _), (5, _), (9, _), (13, _), (54, .b (.row 106)), (55, I (w_13.length : Int)), (56, I 0)], [(101, _), (102, _), (106, _)]⟩ rfl (Tri.block (Tri.nilrow 13 109 1 3 rfl (by decide) rfl (Tri.loopJ h31 (un2 fun (out_15 : List Int) (x_16 : Int) => ⟨[(4, Pt 101 0), (5, Pt 102 0), (9, I x_7), (13, .b (.row 109)), (54, .b (.row 106)), (55, I (w_13.length : Int)), (56, I x_16)], [(101, .box 37 [.nil]), (102, .box 3 [.i 0]), (106, .row 87 4 (w_13.map eGEdge)), (109, .row 3 1 (out_15.map eI))]⟩) [4, 5, 9, 13, 54, 55, 56] [101, 102, 106, 109] rfl ?_)))
          rintro ⟨out_15, x_16⟩ o32 h33 hy34
          refine Tri.seq (Tri.regionL ?_)
          refine Oc (op_lss rfl rfl) (OpsL.nilS ⟨[(4, _), (5, _), (9, _), (13, _), (54, _), (55, _), (56, _), (57, B (decide (x_16 < (w_13.length : Int))))], [(101, _), (102, _), (106, _), (109, _)]⟩ rfl (Tri.seq (Tri.ite h33 rfl (fun _ h33 => ?_) (fun _ h33 => ?_))))
          ·refine Tri.skip (Fin.keepS ⟨[(4, _), (5, _), (9, _), (13, _), (54, _), (55, _), (56, _)], [(101, _), (102, _), (106, _), (109, _)]⟩ rfl (Fin.then (Tri.seq (Tri.block (Tri.seq (Tri.regionL ?_))))))
           obtain ⟨x_18, e35, h33⟩ := bnd h33
           refine Oc (op_index_r tySl68 (ix_lo e35) (ix_lt' e35) rfl rfl rfl rfl) (Oc (op_load_r (i := (x_16 : Int).toNat) (f := 0) tyAgg87 rfl rfl rfl (ix_map (e := eGEdge) e35) rfl rfl) (Oc (op_alloc (k := 110) tyZero87 rfl) (Oc (op_store_p tyAgg87 rfl rfl rfl rfl (Nat.le_of_ble_eq_true rfl) rfl) ?_)))
           refine OpsL.nilS ⟨[(4, _), (5, _), (9, _), (13, _), (15, Pt 110 0), (54, _), (55, _), (56, _)], [(101, _), (102, _), (106, _), (109, _), (110, .box 87 (eGEdge x_18))]⟩ rfl (Tri.regionL (Oc om (Oc (op_field_p tyFld87_3 rfl rfl) (Oc (op_load_p1 tyOne3 rfl rfl rfl) (Oc (op_buildSlice (k := 111) (es := [x_18.report].map eI) tySl37 rfl rfl (uni_map fun _ => rfl) rfl (by decide) (by decide) rfl) ?_)))))
           obtain ⟨x_19, e36, h33⟩ := bnd h33
           refine Oc (op_append_r tySl37 (app_b e36) (app_m e36) rfl rfl rfl rfl (app_map e36) rfl) (Oc oa ?_)
           refine OpsL.nil (Fin.block_normal (Fin.keepS ⟨[(4, _), (5, _), (9, _), (13, _), (54, _), (55, _), (56, _)], [(101, _), (102, _), (106, _), (109, .row 3 1 (x_19.map eI))]⟩ rfl (Fin.then (Tri.regionL ?_))))
           refine Oc (op_add rfl rfl) (Oc om ?_)
           refine OpsL.nil ?_
           exact Fin.againJ [4, 5, 9, 13, 54, 55, 56] [101, 102, 106, 109] (x_19, IntKind.i64.wrap (x_16 + 1)) (Option.some.inj h33) rfl
          ·refine Tri.exit (Fin.then_exit ?_)
           obtain rfl := hy34 _ (Option.some.inj h33).symm
           refine Fin.then_exit (Fin.block_exit ?_)
           exact Fin.join [4, 5, 9, 13] [101, 102, 109] out_15 rfl rfl
         ·rintro out_14 hv
          subst v30
          refine Tri.seq (Tri.regionL ?_)
          refine Oc om (OpsL.toF 109 rfl ?_)
          obtain ⟨x_20, e37, h26⟩ := bnd h26
          refine Oc (op_call (own_a := [(109, _)]) ((slices_Sort_spec e37).sw 1 109) goes43 rfl ⟨rfl, trivial⟩ rfl rfl) (OpsL.unF 109 rfl (OpsL.nilS ⟨[(4, _), (5, _), (9, _), (13, _)], [(101, _), (102, _), (109, .row 3 1 (x_20.map eI))]⟩ rfl (Tri.seq (Tri.regionL ?_))))
          refine Oc om ?_
          obtain ⟨x_21, e38, h26⟩ := bnd h26
          refine Oc (op_call (own_a := [(109, _)]) ((slices_Compact_spec e38).sw 1 109) goes44 rfl ⟨rfl, trivial⟩ rfl rfl) (Oc om ?_)
          refine OpsL.persist 109 rfl (Oc (op_store_p1 tyOne37 rfl rfl rfl (Nat.le_of_ble_eq_true rfl) rfl) (Oc (op_store_p1 tyOne3 rfl rfl rfl (Nat.le_of_ble_eq_true rfl) rfl) ?_))
          refine OpsL.nilS ⟨[(4, Pt 101 0), (5, Pt 102 0)], [(101, .box 37 [.sl 1 (x_21.map eI)]), (102, .box 3 [.i x_7])]⟩ rfl (Tri.ret (Fin.block_ret ?_))
          obtain rfl := Option.some.inj h26
          refine Fin.then_ret ?_
          obtain rfl := hy24 _ (Option.some.inj h23).symm
          refine Fin.then_ret (Fin.block_ret (Fin.block_ret ?_))
          obtain rfl := Option.some.inj h17
          refine Fin.then_ret ?_
          obtain rfl := hy15 _ (Option.some.inj h14).symm
          refine Fin.then_ret (Fin.block_ret (Fin.block_ret ?_))
          obtain rfl := Option.some.inj h10
          refine Fin.then_ret ?_
          obtain rfl := hy8 _ (Option.some.inj h7).symm
          refine Fin.then_ret (Fin.block_ret ?_)
          obtain rfl := Option.some.inj h2
          refine Fin.keepS ⟨[(4, _), (5, _)], [(101, _), (102, _)]⟩ rfl (Fin.result' [.one (.sl 1 (x_21.map eI)), .one (.i x_7)] (.inl rfl) rfl (.cons (.one tyOne37 rfl rfl rfl) (.cons (.one tyOne3 rfl rfl rfl) .nil)) ⟨rfl, rfl⟩)
       ·rintro _ hv
        subst v25
        refine Tri.regionL (Oc (op_add rfl rfl) (Oc om ?_))
        refine OpsL.nil ?_
        exact Fin.againJ [0, 1, 4, 5, 8, 9, 10, 35, 44, 45] [101, 102] (g_10, IntKind.i64.wrap (x_11 + 1)) (Option.some.inj h23) rfl
      ·refine Tri.exit (Fin.then_exit ?_)
       obtain rfl := hy24 _ (Option.some.inj h23).symm
       refine Fin.then_exit (Fin.block_exit (Fin.block_normal ?_))
       exact Fin.join [0, 1, 4, 5, 8, 35] [101, 102] () (Option.some.inj h17) rfl
     ·rintro _ hv
      subst v16
      refine Tri.regionL (Oc (op_add rfl rfl) (Oc om ?_))
      refine OpsL.nil ?_
      exact Fin.againJ [0, 1, 4, 5, 8, 35] [101, 102] (IntKind.i64.wrap (x_7 + 1)) (Option.some.inj h14) rfl
    ·refine Tri.exit (Fin.then_exit ?_)
     obtain rfl := hy15 _ (Option.some.inj h14).symm
     refine Fin.then_exit (Fin.block_exit (Fin.block_normal ?_))
     exact Fin.join [0, 1, 4, 5, 8] [101, 102] () (Option.some.inj h10) rfl
   ·rintro _ hv
    subst v9
    refine Tri.regionL (Oc om (Oc (op_add rfl rfl) (Oc oa ?_)))
    refine OpsL.nil ?_
    exact Fin.againJ [0, 1, 4, 5, 8] [101, 102] (IntKind.i64.wrap (n_6 + 1)) (Option.some.inj h7) rfl
 ·rintro E D ⟨x_3, x_4⟩ h2
  obtain rfl := Option.some.inj h2
  refine Fin.keepS ⟨[(4, Pt 101 0), (5, Pt 102 0)], [(101, .box 37 [.sl 1 (x_3.map eI)]), (102, .box 3 [.i x_4])]⟩ rfl (Fin.result' [.one (.sl 1 (x_3.map eI)), .one (.i x_4)] (.inl rfl) rfl (.cons (.one tyOne37 rfl rfl rfl) (.cons (.one tyOne3 rfl rfl rfl) .nil)) ⟨rfl, rfl⟩)
def sensor_Implied_S (F : Nat) (l0 : List Report) (now0 : Int) (r0 : Report) : Option (Bool × Int) :=
 (sensor_valid_S F r0).bind fun x_1 => if (!x_1) = true then (some (false, 1)) else ((sensor_Consistent_S F l0 now0).bind fun x_2 => if (!x_2) = true then (some (false, 200)) else ((sensor_edges_S F l0 now0 r0.Axis).bind fun x_3 => (sensor_graph_from_S F x_3 r0.A).bind fun x_4 => (sensor_graph_from_S F x_3 r0.B).bind fun x_5 => letN (((mHas x_4 r0.B) && (decide ((mGet x_4 r0.B) ≤ r0.Hi))) && (mHas x_5 r0.A)) fun x_6 => letN (x_6 && (decide (r0.Lo ≤ (IntKind.i64.wrap (-(mGet x_5 r0.A)))))) fun x_7 => some (x_7, 0)))
theorem sensor_Implied_spec {F : Nat} {l0 : List Report} {now0 : Int} {r0 : Report} {r : Bool × Int} (h : sensor_Implied_S F l0 now0 r0 = some r) : Meets Try.prog [] 14 [] [.one (.sl 6 (l0.map eReport)), .one (.i now0), .agg (eReport r0)] (Is [] (.tup [.one (.bool r.1), .one (.i r.2)])) := by
 unfold sensor_Implied_S at h
 refine Meets.intro 64 Try.func14 Try.ntmps14 rfl (by simp) fun E => ?_
 show Tri _ E ⟨64, [], [], []⟩ _ ⟨[(0, .b (.one (.sl 6 (l0.map eReport)))), (1, I now0), (2, .b (.agg (eReport r0)))], []⟩ _
 refine Tri.seq (Tri.regionL ?_)
 refine Oc (op_box (k := 101) rfl rfl) (Oc oa (Oc oa ?_))
 refine OpsL.nilS ⟨[(0, .b (.one (.sl 6 (l0.map eReport)))), (1, I now0), (5, Pt 101 0)], [(101, .box 24 (eReport r0))]⟩ rfl (Tri.seq (Tri.block (Tri.seq (Tri.regionL ?_))))
 refine Oc (lp tyAgg24) ?_
 obtain ⟨x_1, e1, h⟩ := bnd h
 refine Oc (op_call0 (sensor_valid_spec e1) goes47 rfl rfl) (Oc (op_not rfl) (Oc oa ?_))
 refine OpsL.nilS ⟨[(0, _), (1, _), (5, _), (13, B (!x_1))], [(101, _)]⟩ rfl (Tri.ite h rfl (fun _ h => ?_) (fun _ h => ?_))
 ·refine Tri.seq (Tri.regionL ?_)
  refine Oc oa (Oc oa ?_)
  refine OpsL.nilS ⟨[(6, B false), (7, I 1)], []⟩ rfl (Tri.ret (Fin.block_ret (Fin.then_ret ?_)))
  obtain rfl := Option.some.inj h
  refine Fin.keepS ⟨[(6, _), (7, _)], []⟩ rfl (Fin.result' [.one (.bool false), .one (.i 1)] (.inl rfl) rfl (.cons (.tmp rfl) (.cons (.tmp rfl) .nil)) ⟨rfl, rfl⟩)
 ·refine Tri.seq (Tri.regionL ?_)
  refine Oc om (Oc om ?_)
  obtain ⟨x_2, e2, h⟩ := bnd h
  refine Oc (op_call0 (sensor_Consistent_spec e2) goes17 rfl rfl) (Oc (op_not rfl) (Oc oa ?_))
  refine OpsL.nilS ⟨[(0, _), (1, _), (5, _), (17, B (!x_2))], [(101, _)]⟩ rfl (Tri.ite h rfl (fun _ h => ?_) (fun _ h => ?_))
  ·refine Tri.seq (Tri.regionL ?_)
   refine Oc oa (Oc oa ?_)
   refine OpsL.nilS ⟨[(6, B false), (7, I 200)], []⟩ rfl (Tri.ret (Fin.block_ret (Fin.then_ret ?_)))
   obtain rfl := Option.some.inj h
   refine Fin.keepS ⟨[(6, _), (7, _)], []⟩ rfl (Fin.result' [.one (.bool false), .one (.i 200)] (.inl rfl) rfl (.cons (.tmp rfl) (.cons (.tmp rfl) .nil)) ⟨rfl, rfl⟩)
  ·refine Tri.skip (Fin.block_normal (Fin.keepS ⟨[(0, _), (1, _), (5, _)], [(101, _)]⟩ rfl (Fin.then (Tri.seq (Tri.regionL ?_)))))
   refine Oc om (Oc om (Oc (op_field_p tyFld24_2 rfl rfl) (Oc (op_load_p1 tyOne3 rfl rfl rfl) ?_)))
   obtain ⟨x_3, e3, h⟩ := bnd h
   refine Oc (op_call (own_a := []) ((sensor_edges_spec e3).sw 51 102) goes34 rfl trivial rfl rfl) (Oc oa ?_)
   refine OpsL.nilS ⟨[(5, Pt 101 0), (8, .b (.row 102))], [(101, .box 24 (eReport r0)), (102, .row 87 4 (x_3.map eGEdge))]⟩ rfl (Tri.seq (Tri.persist 102 rfl (Tri.keepS ⟨[(5, _), (8, .b (.one (.sl 4 (x_3.map eGEdge))))], [(101, _)]⟩ rfl ?_)))
   obtain ⟨x_4, e4, h⟩ := bnd h
   refine Tri.regionW mixed [false, false, false, true, false, false, false, false, false, false, false, false] [.b (.one (.sl 4 (x_3.map eGEdge))), Pt 101 0, I r0.A, .b (.row 103), Pt 101 1, I r0.B, .tup [.one (.i (mGet x_4 r0.B)), .one (.bool (mHas x_4 r0.B))], .tup [.one (.i (mGet x_4 r0.B)), .one (.bool (mHas x_4 r0.B))], I (mGet x_4 r0.B), B (mHas x_4 r0.B), I (mGet x_4 r0.B), B (mHas x_4 r0.B)] [⟨[false, false, false, false, false, false, false, false, false, false, false, false], [(5, Pt 101 0), (8, .b (.one (.sl 4 (x_3.map eGEdge))))], [(101, .box 24 (eReport r0))], [true, true, true, true, true, true, true, true, true, true, true, true], []⟩, ⟨[false, false, false, true, false, false, false, false, false, false, false, false], [(5, Pt 101 0), (8, .b (.one (.sl 4 (x_3.map eGEdge))))], [(101, .box 24 (eReport r0)), (103, .mq x_4)], [true, true, true, true, true, true, true, true, true, true, true, true], [0, 1, 2, 3]⟩] rfl (⟨by kernel_rfl, ⟨⟨.b (.one (.sl 4 (x_3.map eGEdge))), fun _ => rfl, fun _ => .p (by exact op_move rfl)⟩, ⟨Pt 101 0, fun _ => rfl, fun _ => .p (by exact op_field_p tyFld24_0 rfl rfl)⟩, ⟨I r0.A, fun _ => rfl, fun _ => .p (by exact op_load_p1 tyOne3 rfl rfl rfl)⟩, ⟨_, some 103, .b (.row 103), rfl, fun _ => rfl, rfl, rfl, fun _ => .toO [101, 103] (by exact .p (by exact op_call (own_a := []) ((sensor_graph_from_spec e4).sw 51 103) goes35 rfl trivial rfl rfl)) (by exact rfl)⟩, ⟨Pt 101 1, fun _ => rfl, fun _ => .p (by exact op_field_p tyFld24_1 rfl rfl)⟩, ⟨I r0.B, fun _ => rfl, fun _ => .p (by exact op_load_p1 tyOne3 rfl rfl rfl)⟩, trivial, ⟨.tup [.one (.i (mGet x_4 r0.B)), .one (.bool (mHas x_4 r0.B))], fun _ => rfl, fun _ => .p (by exact op_move rfl)⟩, ⟨I (mGet x_4 r0.B), fun _ => rfl, fun _ => .p (by exact op_extract rfl rfl)⟩, ⟨B (mHas x_4 r0.B), fun _ => rfl, fun _ => .p (by exact op_extract rfl rfl)⟩, trivial, trivial, trivial⟩, ⟨by kernel_rfl, ⟨trivial, trivial, trivial, trivial, ⟨Pt 101 1, fun _ => rfl, fun _ => .p (by exact op_field_p tyFld24_1 rfl rfl)⟩, ⟨I r0.B, fun _ => rfl, fun _ => .p (by exact op_load_p1 tyOne3 rfl rfl rfl)⟩, ⟨.tup [.one (.i (mGet x_4 r0.B)), .one (.bool (mHas x_4 r0.B))], fun _ => rfl, fun _ => .p (by exact op_mgetI2 tyMap71 rfl rfl rfl)⟩, ⟨.tup [.one (.i (mGet x_4 r0.B)), .one (.bool (mHas x_4 r0.B))], fun _ => rfl, fun _ => .p (by exact op_move rfl)⟩, ⟨I (mGet x_4 r0.B), fun _ => rfl, fun _ => .p (by exact op_extract rfl rfl)⟩, ⟨B (mHas x_4 r0.B), fun _ => rfl, fun _ => .p (by exact op_extract rfl rfl)⟩, ⟨I (mGet x_4 r0.B), fun _ => rfl, fun _ => .p (by exact op_assign rfl)⟩, ⟨B (mHas x_4 r0.B), fun _ => rfl, fun _ => .p (by exact op_assign rfl)⟩, trivial⟩, trivial⟩⟩) rfl rfl rfl [5, 8, 9, 10] [101] (s' := ⟨[(5, _), (8, _), (9, I (mGet x_4 r0.B)), (10, B (mHas x_4 r0.B))], [(101, _)]⟩) rfl (Tri.seq ?_)
   refine Tri.keepS ⟨[(5, _), (8, _), (9, _), (10, _)], [(101, _)]⟩ rfl ?_
   obtain ⟨x_5, e5, h⟩ := bnd h
   refine Tri.regionW mixed [false, false, false, true, false, false, false, false, false, false, false, false] [.b (.one (.sl 4 (x_3.map eGEdge))), Pt 101 1, I r0.B, .b (.row 104), Pt 101 0, I r0.A, .tup [.one (.i (mGet x_5 r0.A)), .one (.bool (mHas x_5 r0.A))], .tup [.one (.i (mGet x_5 r0.A)), .one (.bool (mHas x_5 r0.A))], I (mGet x_5 r0.A), B (mHas x_5 r0.A), I (mGet x_5 r0.A), B (mHas x_5 r0.A)] [⟨[false, false, false, false, false, false, false, false, false, false, false, false], [(5, Pt 101 0), (8, .b (.one (.sl 4 (x_3.map eGEdge)))), (9, I (mGet x_4 r0.B)), (10, B (mHas x_4 r0.B))], [(101, .box 24 (eReport r0))], [true, true, true, true, true, true, true, true, true, true, true, true], []⟩, ⟨[false, false, false, true, false, false, false, false, false, false, false, false], [(5, Pt 101 0), (8, .b (.one (.sl 4 (x_3.map eGEdge)))), (9, I (mGet x_4 r0.B)), (10, B (mHas x_4 r0.B))], [(101, .box 24 (eReport r0)), (104, .mq x_5)], [true, true, true, true, true, true, true, true, true, true, true, true], [0, 1, 2, 3]⟩] rfl (⟨by kernel_rfl, ⟨⟨.b (.one (.sl 4 (x_3.map eGEdge))), fun _ => rfl, fun _ => .p (by exact op_move rfl)⟩, ⟨Pt 101 1, fun _ => rfl, fun _ => .p (by exact op_field_p tyFld24_1 rfl rfl)⟩, ⟨I r0.B, fun _ => rfl, fun _ => .p (by exact op_load_p1 tyOne3 rfl rfl rfl)⟩, ⟨_, some 104, .b (.row 104), rfl, fun _ => rfl, rfl, rfl, fun _ => .toO [101, 104] (by exact .p (by exact op_call (own_a := []) ((sensor_graph_from_spec e5).sw 51 104) goes35 rfl trivial rfl rfl)) (by exact rfl)⟩, ⟨Pt 101 0, fun _ => rfl, fun _ => .p (by exact op_field_p tyFld24_0 rfl rfl)⟩, ⟨I r0.A, fun _ => rfl, fun _ => .p (by exact op_load_p1 tyOne3 rfl rfl rfl)⟩, trivial, ⟨.tup [.one (.i (mGet x_5 r0.A)), .one (.bool (mHas x_5 r0.A))], fun _ => rfl, fun _ => .p (by exact op_move rfl)⟩, ⟨I (mGet x_5 r0.A), fun _ => rfl, fun _ => .p (by exact op_extract rfl rfl)⟩, ⟨B (mHas x_5 r0.A), fun _ => rfl, fun _ => .p (by exact op_extract rfl rfl)⟩, trivial, trivial, trivial⟩, ⟨by kernel_rfl, ⟨trivial, trivial, trivial, trivial, ⟨Pt 101 0, fun _ => rfl, fun _ => .p (by exact op_field_p tyFld24_0 rfl rfl)⟩, ⟨I r0.A, fun _ => rfl, fun _ => .p (by exact op_load_p1 tyOne3 rfl rfl rfl)⟩, ⟨.tup [.one (.i (mGet x_5 r0.A)), .one (.bool (mHas x_5 r0.A))], fun _ => rfl, fun _ => .p (by exact op_mgetI2 tyMap71 rfl rfl rfl)⟩, ⟨.tup [.one (.i (mGet x_5 r0.A)), .one (.bool (mHas x_5 r0.A))], fun _ => rfl, fun _ => .p (by exact op_move rfl)⟩, ⟨I (mGet x_5 r0.A), fun _ => rfl, fun _ => .p (by exact op_extract rfl rfl)⟩, ⟨B (mHas x_5 r0.A), fun _ => rfl, fun _ => .p (by exact op_extract rfl rfl)⟩, ⟨I (mGet x_5 r0.A), fun _ => rfl, fun _ => .p (by exact op_assign rfl)⟩, ⟨B (mHas x_5 r0.A), fun _ => rfl, fun _ => .p (by exact op_assign rfl)⟩, trivial⟩, trivial⟩⟩) rfl rfl rfl [5, 9, 10, 11, 12] [101] (s' := ⟨[(5, _), (9, _), (10, _), (11, I (mGet x_5 r0.A)), (12, B (mHas x_5 r0.A))], [(101, _)]⟩) rfl ?_
   refine Tri.seq (Tri.regionL ?_)
   refine Oc om (Oc om ?_)
   refine CgT (mHas x_4 r0.B) [] (fun g6 => trivial) (fun g6 => om) (CgT (mHas x_4 r0.B) [] (fun g7 => by exact trivial) (fun g7 => op_field_p tyFld24_4 rfl rfl) (CgT (mHas x_4 r0.B) [50] (fun g8 => by exact ⟨g8, trivial⟩) (fun g8 => op_load_p1 tyOne3 rfl rfl rfl) (CgT (mHas x_4 r0.B) [49, 51] (fun g9 => by exact ⟨g9, g9, trivial⟩) (fun g9 => op_leq rfl rfl) (Oc (op_pick_and (fun e => e) rfl rfl rfl rfl) (OpsL.keepS ⟨[(5, _), (11, _), (12, _), (53, B ((mHas x_4 r0.B) && (decide ((mGet x_4 r0.B) ≤ r0.Hi))))], [(101, _)]⟩ rfl ?_)))))
   refine Oc om (CgT ((mHas x_4 r0.B) && (decide ((mGet x_4 r0.B) ≤ r0.Hi))) [] (fun g10 => by exact trivial) (fun g10 => om) (OpsL.consB h rfl (op_pick_and (fun e => e) rfl rfl rfl rfl) (fun x_6 h => ?_)))
   refine Oc om (CgT x_6 [] (fun g11 => by exact trivial) (fun g11 => om) (CgT x_6 [58] (fun g12 => by exact ⟨g12, trivial⟩) (fun g12 => op_neg rfl) (CgT x_6 [] (fun g13 => by exact trivial) (fun g13 => op_field_p tyFld24_3 rfl rfl) (CgT x_6 [60] (fun g14 => by exact ⟨g14, trivial⟩) (fun g14 => op_load_p1 tyOne3 rfl rfl rfl) (OpsL.keepS ⟨[(57, B x_6), (59, .opt x_6 (.one (.i (IntKind.i64.wrap (-(mGet x_5 r0.A)))))), (61, .opt x_6 (.one (.i r0.Lo)))], []⟩ rfl ?_)))))
   refine CgT x_6 [59, 61] (fun g15 => ⟨g15, g15, trivial⟩) (fun g15 => op_geq rfl rfl) (OpsL.consB h rfl (op_pick_and (fun e => e) rfl rfl rfl rfl) (fun x_7 h => ?_))
   refine Oc oa (Oc oa ?_)
   refine OpsL.nilS ⟨[(6, B x_7), (7, I 0)], []⟩ rfl (Tri.ret ?_)
   obtain rfl := Option.some.inj h
   refine Fin.keepS ⟨[(6, _), (7, _)], []⟩ rfl (Fin.result' [.one (.bool x_7), .one (.i 0)] (.inl rfl) rfl (.cons (.tmp rfl) (.cons (.tmp rfl) .nil)) ⟨rfl, rfl⟩)
def skewbacklaw39_ints_S (F : Nat) (a0 : List Int) (b0 : List Int) : Option Bool :=
 if (decide ((a0.length : Int) ≠ (b0.length : Int))) = true then (some false) else (Option.bind (iter F (fun x_1 => if (decide (x_1 < (a0.length : Int))) = true then ((idx? a0 x_1).bind fun x_2 => (idx? b0 x_1).bind fun x_3 => if (decide (x_2 ≠ x_3)) = true then (some (.inr (.inr false))) else (some (.inl (IntKind.i64.wrap (x_1 + 1))))) else (some (.inr (.inl ())))) 0) (alt2 (fun _ => some true) (fun y => some y)))
theorem skewbacklaw39_ints_spec {F : Nat} {a0 : List Int} {b0 : List Int} {r : Bool} (h : skewbacklaw39_ints_S F a0 b0 = some r) : Meets Try.prog [] 16 [] [.one (.sl 1 (a0.map eI)), .one (.sl 1 (b0.map eI))] (Is [] (.b (.one (.bool r)))) := by
 unfold skewbacklaw39_ints_S at h
 refine Meets.intro 26 Try.func16 Try.ntmps16 rfl (by simp) fun E => ?_
 show Tri _ E ⟨26, [], [], []⟩ _ ⟨[(0, .b (.one (.sl 1 (a0.map eI)))), (1, .b (.one (.sl 1 (b0.map eI))))], []⟩ _
 refine Tri.seq (Tri.regionL ?_)
 refine Oc oa (OpsL.nilS ⟨[(0, .b (.one (.sl 1 (a0.map eI)))), (1, .b (.one (.sl 1 (b0.map eI))))], []⟩ rfl (Tri.seq (Tri.seq (Tri.regionL ?_))))
 refine Oc om (Oc (op_len_e' und37 rfl (List.length_map _)) (Oc om (Oc (op_len_e' und37 rfl (List.length_map _)) (Oc (op_neq rfl rfl) ?_))))
 refine OpsL.nilS ⟨[(0, _), (1, _), (10, B (decide ((a0.length : Int) ≠ (b0.length : Int))))], []⟩ rfl (Tri.ite h rfl (fun _ h => ?_) (fun _ h => ?_))
 ·refine Tri.seq (Tri.regionL ?_)
  refine Oc oa (OpsL.nilS ⟨[(4, B false)], []⟩ rfl (Tri.ret (Fin.then_ret ?_)))
  obtain rfl := Option.some.inj h
  refine Fin.keepS ⟨[(4, _)], []⟩ rfl (Fin.result' [.one (.bool false)] (.inl rfl) rfl (.cons (.tmp rfl) .nil) ⟨rfl, rfl⟩)
 ·refine Tri.skip (Fin.keepS ⟨[(0, _), (1, _)], []⟩ rfl (Fin.then ?_))
  obtain ⟨v1, h2, h⟩ := bnd h
  refine Tri.seqJ (v := v1) (fun (_ : Unit) => ⟨[], []⟩) (fun z => .inl z) ?_ ?_
  ·refine Tri.seq (Tri.regionL ?_)
   refine Oc om (Oc (op_len_e' und37 rfl (List.length_map _)) (Oc om ?_))
   refine OpsL.nilS ⟨[(0, _), (1, _), (12, I (a0.length : Int)), (13, I 0)], []⟩ rfl (Tri.block (Tri.loopJ h2 (fun (x_1 : Int) => ⟨[(0, .b (.one (.sl 1 (a0.map eI)))), (1, .b (.one (.sl 1 (b0.map eI)))), (12, I (a0.length : Int)), (13, I x_1)], []⟩) [0, 1, 12, 13] [] rfl ?_))
   rintro x_1 o3 h4 hy5
   refine Tri.seq (Tri.regionL ?_)
   refine Oc (op_lss rfl rfl) (OpsL.nilS ⟨[(0, _), (1, _), (12, _), (13, _), (14, B (decide (x_1 < (a0.length : Int))))], []⟩ rfl (Tri.seq (Tri.ite h4 rfl (fun _ h4 => ?_) (fun _ h4 => ?_))))
   ·refine Tri.skip (Fin.keepS ⟨[(0, _), (1, _), (12, _), (13, _)], []⟩ rfl (Fin.then (Tri.seq (Tri.block (Tri.seq (Tri.regionL ?_))))))
    refine Oc om (Oc oa ?_)
    refine OpsL.nilS ⟨[(0, _), (1, _), (5, I x_1), (12, _), (13, _)], []⟩ rfl (Tri.seq ?_)
    obtain ⟨x_2, e6, h4⟩ := bnd h4
    obtain ⟨x_3, e7, h4⟩ := bnd h4
    refine Tri.regionY mixed 9 [.b (.one (.sl 1 (a0.map eI))), I x_1, .b (.eptr [.i x_2]), I x_2, .b (.one (.sl 1 (b0.map eI))), I x_1, .b (.eptr [.i x_3]), I x_3, B (decide (x_2 ≠ x_3))] [0, 1, 12, 13, 24] [] (s' := ⟨[(0, _), (1, _), (12, _), (13, _), (24, B (decide (x_2 ≠ x_3)))], []⟩) rfl ⟨fun _ => .p om, fun _ => .p om, fun _ => .p (op_index_e tySl37 (ix_lo e6) (ix_map (e := eI) e6) rfl rfl), fun _ => .p (op_load_e1 tyOne3 rfl rfl), fun _ => .p om, fun _ => .p om, fun _ => .p (op_index_e tySl37 (ix_lo e7) (ix_map (e := eI) e7) rfl rfl), fun _ => .p (op_load_e1 tyOne3 rfl rfl), fun _ => .p (op_neq rfl rfl), trivial⟩ rfl rfl (Tri.ite h4 rfl (fun _ h4 => ?_) (fun _ h4 => ?_))
    ·refine Tri.seq (Tri.regionL ?_)
     refine Oc oa (OpsL.nilS ⟨[(4, B false)], []⟩ rfl (Tri.ret (Fin.block_ret (Fin.then_ret ?_))))
     obtain rfl := hy5 _ (Option.some.inj h4).symm
     refine Fin.then_ret (Fin.block_ret (Fin.then_ret ?_))
     obtain rfl := Option.some.inj h
     refine Fin.keepS ⟨[(4, _)], []⟩ rfl (Fin.result' [.one (.bool false)] (.inl rfl) rfl (.cons (.tmp rfl) .nil) ⟨rfl, rfl⟩)
    ·refine Tri.skip (Fin.block_normal (Fin.keepS ⟨[(0, _), (1, _), (12, _), (13, _)], []⟩ rfl (Fin.then (Tri.regionL ?_))))
     refine Oc (op_add rfl rfl) (Oc om ?_)
     refine OpsL.nil ?_
     exact Fin.againJ [0, 1, 12, 13] [] (IntKind.i64.wrap (x_1 + 1)) (Option.some.inj h4) rfl
   ·refine Tri.exit (Fin.then_exit ?_)
    obtain rfl := hy5 _ (Option.some.inj h4).symm
    refine Fin.then_exit (Fin.block_exit ?_)
    exact Fin.join [] [] () rfl rfl
  ·rintro _ hv
   subst v1
   refine Tri.seq (Tri.regionL ?_)
   refine Oc oa (OpsL.nilS ⟨[(4, B true)], []⟩ rfl (Tri.ret ?_))
   obtain rfl := Option.some.inj h
   refine Fin.keepS ⟨[(4, _)], []⟩ rfl (Fin.result' [.one (.bool true)] (.inl rfl) rfl (.cons (.tmp rfl) .nil) ⟨rfl, rfl⟩)
def sensor_Fits_1_S (F : Nat) (thing0 : Int) (axis0 : Int) (v0c : List A3) : Option Int :=
 letN ((decide (thing0 < 1)) || (decide ((v0c.length : Int) < thing0))) fun x_1 => if x_1 = true then (some 0) else ((idx? v0c (IntKind.i64.wrap (thing0 - 1))).bind fun x_2 => (idx? x_2.l axis0).bind fun x_3 => some x_3)
theorem sensor_Fits_1_spec {F : Nat} {thing0 : Int} {axis0 : Int} {v0c : List A3} {r : Int} (h : sensor_Fits_1_S F thing0 axis0 v0c = some r) : Meets Try.prog [] 50 [] [.one (.i thing0), .one (.i axis0), .eptr [.sl 3 (v0c.map (eA3 .i64))]] (Is [] (.b (.one (.i r)))) := by
 unfold sensor_Fits_1_S at h
 refine Meets.intro 21 Try.func50 Try.ntmps50 rfl (by simp) fun E => ?_
 show Tri _ E ⟨21, [], [], []⟩ _ ⟨[(0, I thing0), (1, I axis0), (2, .b (.eptr [.sl 3 (v0c.map (eA3 .i64))]))], []⟩ _
 refine Tri.seq (Tri.regionL ?_)
 refine Oc oa (OpsL.nilS ⟨[(0, I thing0), (1, I axis0), (2, .b (.eptr [.sl 3 (v0c.map (eA3 .i64))]))], []⟩ rfl (Tri.seq (Tri.seq (Tri.regionL ?_))))
 refine Oc om (Oc (op_lss rfl rfl) (Oc om ?_))
 refine CgF (!(decide (thing0 < 1))) [] (fun g1 => trivial) (fun g1 => om) (CgF (!(decide (thing0 < 1))) [] (fun g2 => by exact trivial) (fun g2 => op_load_e1 tyOne50 rfl rfl) (CgF (!(decide (thing0 < 1))) [10] (fun g3 => by exact ⟨g3, trivial⟩) (fun g3 => op_len_e' und50 rfl (List.length_map _)) (CgF (!(decide (thing0 < 1))) [9, 11] (fun g4 => by exact ⟨g4, g4, trivial⟩) (fun g4 => op_gtr rfl rfl) (OpsL.consB h rfl (op_pick_or (fun e => by rw [e]; rfl) rfl rfl rfl rfl) (fun x_1 h => ?_)))))
 refine OpsL.nilS ⟨[(0, _), (1, _), (2, _), (13, B x_1)], []⟩ rfl (Tri.ite h rfl (fun _ h => ?_) (fun _ h => ?_))
 ·refine Tri.seq (Tri.regionL ?_)
  refine Oc oa (OpsL.nilS ⟨[(5, I 0)], []⟩ rfl (Tri.ret (Fin.then_ret ?_)))
  obtain rfl := Option.some.inj h
  refine Fin.keepS ⟨[(5, _)], []⟩ rfl (Fin.result' [.one (.i 0)] (.inl rfl) rfl (.cons (.tmp rfl) .nil) ⟨rfl, rfl⟩)
 ·refine Tri.skip (Fin.keepS ⟨[(0, _), (1, _), (2, _)], []⟩ rfl (Fin.then (Tri.seq (Tri.regionL ?_))))
  refine Oc (op_load_e1 tyOne50 rfl rfl) (Oc om (Oc (op_sub rfl rfl) (Oc om ?_)))
  obtain ⟨x_2, e5, h⟩ := bnd h
  refine Oc (op_index_e tySl50 (ix_lo e5) (ix_map (e := (eA3 .i64)) e5) rfl rfl) ?_
  obtain ⟨x_3, e6, h⟩ := bnd h
  refine Oc (op_index_ea tyArr52 (ix_lo e6) (ix_hi e6) rfl rfl (ix_flat (e := (fun z => [CP.int .i64 z])) (sz := 1) (fun _ => rfl) e6)) (Oc (op_load_e1 tyOne3 rfl rfl) (Oc oa ?_))
  refine OpsL.nilS ⟨[(5, I x_3)], []⟩ rfl (Tri.ret ?_)
  obtain rfl := Option.some.inj h
  refine Fin.keepS ⟨[(5, _)], []⟩ rfl (Fin.result' [.one (.i x_3)] (.inl rfl) rfl (.cons (.tmp rfl) .nil) ⟨rfl, rfl⟩)
def sensor_Fits_S (F : Nat) (l0 : List Report) (now0 : Int) (at0 : List A3) : Option Bool :=
 Option.bind (each (fun (_ : Unit) => un2 fun i_1 r_2 => (sensor_Fits_1_S F r_2.B r_2.Axis at0).bind fun x_3 => (sensor_Fits_1_S F r_2.A r_2.Axis at0).bind fun x_4 => letN ((decide ((IntKind.i64.wrap (x_3 - x_4)) < r_2.Lo)) || (decide (r_2.Hi < (IntKind.i64.wrap (x_3 - x_4))))) fun x_5 => if x_5 = true then (some (.inr ())) else (some (.inl ()))) (cnt l0 now0) ()) (alt2 (fun (_ : Unit) => some true) (fun (_ : Unit) => some false))
theorem sensor_Fits_spec {F : Nat} {l0 : List Report} {now0 : Int} {at0 : List A3} {r : Bool} (h : sensor_Fits_S F l0 now0 at0 = some r) : Meets Try.prog [] 18 [] [.one (.sl 6 (l0.map eReport)), .one (.i now0), .one (.sl 3 (at0.map (eA3 .i64)))] (Is [] (.b (.one (.bool r)))) := by
 unfold sensor_Fits_S at h
 refine Meets.introM 40 Try.func18 Try.ntmps18 rfl (by simp) fun E => ?_
 show Tri _ E ⟨40, [], [], []⟩ _ ⟨[(0, .b (.one (.sl 6 (l0.map eReport)))), (1, I now0), (2, .b (.one (.sl 3 (at0.map (eA3 .i64)))))], []⟩ _
 refine Tri.seq (Tri.regionL ?_)
 refine Oc (op_boxR rfl) (Oc (op_alloc (k := 101) tyZero4 rfl) ?_)
 refine OpsL.nilS ⟨[(0, .b (.one (.sl 6 (l0.map eReport)))), (1, I now0), (5, .b (.eptr [.sl 3 (at0.map (eA3 .i64))])), (6, Pt 101 0)], [(101, .box 4 [.bool false])]⟩ rfl (Tri.seq (Tri.regionL ?_))
 refine Oc (op_makeFuncP rfl) (Oc (op_alloc (k := 102) tyZero97 rfl) (Oc (op_store_p1 tyOne97 rfl rfl rfl (Nat.le_of_ble_eq_true rfl) rfl) ?_))
 refine OpsL.nilS ⟨[(0, _), (1, _), (6, _), (7, Pt 102 0)], [(101, _), (102, .box 97 [.cloP 50 [CP.rp [.sl 3 (at0.map (eA3 .i64))]]])]⟩ rfl (Tri.seq (Tri.seq (Tri.regionL ?_)))
 refine Oc om (Oc om (Oc (op_call0 counting_spec goes41 rfl rfl) ?_))
 refine OpsL.nilS ⟨[(6, _), (7, _), (14, .b (.one (.cloP 56 [CP.rp [.sl 6 (l0.map eReport)], CP.rp [.i now0]])))], [(101, _), (102, _)]⟩ rfl (Tri.rangeB _ cArg _ _ (fun (_ : Unit) => [(101, .box 4 [.bool false]), (102, .box 97 [.cloP 50 [CP.rp [.sl 3 (at0.map (eA3 .i64))]]])]) (fun (_ : Unit) => [(101, .box 4 [.bool false]), (102, .box 97 [.cloP 50 [CP.rp [.sl 3 (at0.map (eA3 .i64))]]])]) (fun (_ : Unit) => un2 fun i_1 r_2 => ⟨[(6, Pt 101 0), (7, Pt 102 0), (9, Pt 103 0)], [(101, .box 4 [.bool false]), (102, .box 97 [.cloP 50 [CP.rp [.sl 3 (at0.map (eA3 .i64))]]]), (103, .box 24 (eReport r_2))]⟩) h counting_iter goes56 rfl rfl rfl (fun _ => rfl) (fun _ => rfl) (fun _ => rfl) (fun _ _ => rfl) (fun _ _ => rfl) rfl (fun _ => rfl) ?_ ?_ ?_ ?_)
 ·rintro E l ⟨⟩ ⟨i_1, r_2⟩ z _ h1
  refine TriR.keep [6, 7, 14, 15, 16] [101, 102] (s' := ⟨[(6, Pt 101 0), (7, Pt 102 0), (14, .b (.one (.cloP 56 [CP.rp [.sl 6 (l0.map eReport)], CP.rp [.i now0]]))), (15, I i_1), (16, .b (.agg (eReport r_2)))], [(101, .box 4 [.bool false]), (102, .box 97 [.cloP 50 [CP.rp [.sl 3 (at0.map (eA3 .i64))]]])]⟩) rfl (TriR.regionL (.inr ⟨_, rfl⟩) (Oc (op_alloc (k := 103) tyZero24 rfl) (Oc (op_store_p tyAgg24 rfl rfl rfl rfl (Nat.le_of_ble_eq_true rfl) rfl) ?_)))
  refine OpsL.nil ?_
  exact Fin.keepS ⟨[(6, _), (7, _), (9, Pt 103 0)], [(101, _), (102, _), (103, .box 24 (eReport r_2))]⟩ rfl (fun a w hr => hr)
 ·rintro E l ⟨⟩ ⟨i_1, r_2⟩ z _ h1
  refine TriR.block (TriR.seq (TriR.keep [6, 7, 9] [101, 102, 103] (s' := ⟨[(6, Pt 101 0), (7, Pt 102 0), (9, Pt 103 0)], [(101, .box 4 [.bool false]), (102, .box 97 [.cloP 50 [CP.rp [.sl 3 (at0.map (eA3 .i64))]]]), (103, .box 24 (eReport r_2))]⟩) rfl ?_))
  obtain ⟨x_3, e2, h1⟩ := bnd h1
  obtain ⟨x_4, e3, h1⟩ := bnd h1
  refine TriR.regionYF (.inr ⟨_, rfl⟩) mixed 14 [.b (.one (.cloP 50 [CP.rp [.sl 3 (at0.map (eA3 .i64))]])), Pt 103 1, I r_2.B, Pt 103 2, I r_2.Axis, I x_3, .b (.one (.cloP 50 [CP.rp [.sl 3 (at0.map (eA3 .i64))]])), Pt 103 0, I r_2.A, Pt 103 2, I r_2.Axis, I x_4, I (IntKind.i64.wrap (x_3 - x_4)), I (IntKind.i64.wrap (x_3 - x_4))] [6, 7, 9, 10] [101, 102, 103] (s' := ⟨[(6, _), (7, _), (9, _), (10, I (IntKind.i64.wrap (x_3 - x_4)))], [(101, _), (102, _), (103, _)]⟩) rfl ⟨fun _ => .p (op_load_p1 tyOne97 rfl rfl rfl), fun _ => .p (op_field_p tyFld24_1 rfl rfl), fun _ => .p (op_load_p1 tyOne3 rfl rfl rfl), fun _ => .p (op_field_p tyFld24_2 rfl rfl), fun _ => .p (op_load_p1 tyOne3 rfl rfl rfl), fun _ => .p (op_callP (pss := [[.sl 3 (at0.map (eA3 .i64))]]) (sensor_Fits_1_spec e2) goes50 rfl rfl rfl trivial rfl rfl), fun _ => .p (op_load_p1 tyOne97 rfl rfl rfl), fun _ => .p (op_field_p tyFld24_0 rfl rfl), fun _ => .p (op_load_p1 tyOne3 rfl rfl rfl), fun _ => .p (op_field_p tyFld24_2 rfl rfl), fun _ => .p (op_load_p1 tyOne3 rfl rfl rfl), fun _ => .p (op_callP (pss := [[.sl 3 (at0.map (eA3 .i64))]]) (sensor_Fits_1_spec e3) goes50 rfl rfl rfl trivial rfl rfl), fun _ => .p (op_sub rfl rfl), fun _ => .p oa, trivial⟩ rfl rfl (Fin.keepS ⟨[(6, _), (7, _), (9, _), (10, _)], [(101, _), (102, _), (103, _)]⟩ rfl (Fin.thenR ?_ (fun ⟨_, _, hl⟩ => hl)))
  refine TriR.seq (TriR.regionL (.inr ⟨_, rfl⟩) (Oc om (Oc (op_field_p tyFld24_3 rfl rfl) (Oc (op_load_p1 tyOne3 rfl rfl rfl) (Oc (op_lss rfl rfl) (Oc om ?_))))))
  refine CgF (!(decide ((IntKind.i64.wrap (x_3 - x_4)) < r_2.Lo))) [] (fun g4 => trivial) (fun g4 => om) (CgF (!(decide ((IntKind.i64.wrap (x_3 - x_4)) < r_2.Lo))) [] (fun g5 => by exact trivial) (fun g5 => op_field_p tyFld24_4 rfl rfl) (OpsL.keepS ⟨[(6, _), (7, _), (34, B (decide ((IntKind.i64.wrap (x_3 - x_4)) < r_2.Lo))), (35, .opt (!(decide ((IntKind.i64.wrap (x_3 - x_4)) < r_2.Lo))) (.one (.i (IntKind.i64.wrap (x_3 - x_4))))), (36, .opt (!(decide ((IntKind.i64.wrap (x_3 - x_4)) < r_2.Lo))) (.ptr 103 4))], [(101, _), (102, _), (103, _)]⟩ rfl (CgF (!(decide ((IntKind.i64.wrap (x_3 - x_4)) < r_2.Lo))) [36] (fun g6 => by exact ⟨g6, trivial⟩) (fun g6 => op_load_p1 tyOne3 rfl rfl rfl) (CgF (!(decide ((IntKind.i64.wrap (x_3 - x_4)) < r_2.Lo))) [35, 37] (fun g7 => by exact ⟨g7, g7, trivial⟩) (fun g7 => op_gtr rfl rfl) (OpsL.consB h1 rfl (op_pick_or (fun e => by rw [e]; rfl) rfl rfl rfl rfl) (fun x_5 h1 => ?_))))))
  refine OpsL.nil (Fin.keepS ⟨[(6, _), (7, _), (39, B x_5)], [(101, _), (102, _)]⟩ rfl (Fin.thenR ?_ (fun ⟨_, _, hl⟩ => hl)))
  refine TriR.ite h1 rfl (fun _ h1 => ?_) (fun _ h1 => ?_)
  ·refine TriR.seq (TriR.regionL (.inr ⟨_, rfl⟩) (Oc (op_store_p1 tyOne4 rfl rfl rfl (Nat.le_of_ble_eq_true rfl) rfl) (OpsL.nil (Fin.keepS ⟨[(6, _)], [(101, _), (102, _)]⟩ rfl (Fin.thenR ?_ (fun ⟨_, _, hl⟩ => hl))))))
   refine TriR.ret (Fin.block_ret ?_)
   obtain rfl := Option.some.inj h1
   exact Fin.keepS ⟨[], [(101, _), (102, _)]⟩ rfl (fun a w hr => ⟨_, rfl, hr⟩)
  ·refine TriR.skip (Fin.block_normal ?_)
   obtain rfl := Option.some.inj h1
   exact Fin.keepS ⟨[], [(101, _), (102, _)]⟩ rfl (fun a w hr => ⟨_, rfl, hr⟩)
 ·rintro E D ⟨⟩ h8
  refine Tri.seq (Tri.regionL ?_)
  refine Oc (op_store_p1 tyOne4 rfl rfl rfl (Nat.le_of_ble_eq_true rfl) rfl) (OpsL.nilS ⟨[(6, Pt 101 0)], [(101, .box 4 [.bool true])]⟩ rfl (Tri.ret ?_))
  obtain rfl := Option.some.inj h8
  refine Fin.keepS ⟨[(6, _)], [(101, _)]⟩ rfl (Fin.result' [.one (.bool true)] (.inl rfl) rfl (.cons (.one tyOne4 rfl rfl rfl) .nil) ⟨rfl, rfl⟩)
 ·rintro E D ⟨⟩ h8
  obtain rfl := Option.some.inj h8
  refine Fin.keepS ⟨[(6, Pt 101 0)], [(101, .box 4 [.bool false])]⟩ rfl (Fin.result' [.one (.bool false)] (.inl rfl) rfl (.cons (.one tyOne4 rfl rfl rfl) .nil) ⟨rfl, rfl⟩)
end Go.Proofs.Ytimhhebjefkjlaa

