/- printed walks -/
import Derived.Test.YtnpddoaeoefcnaaW1
namespace Go.Proofs.Ytnpddoaeoefcnaa
open Go.Sk Go
set_option maxHeartbeats 4000000
set_option maxRecDepth 4000
set_option linter.unusedSimpArgs false
set_option linter.unusedVariables false
def owner_node_isFull_S (F : Nat) (l0 : Notice) (region0 : Int) (n0r : Round) (n0out : List Notice) : Option Bool :=
 (gcall ((decide ((l0.Sets.length : Int) = 0)) && (decide ((l0.States.length : Int) = (l0.Bodies.length : Int)))) (slices_Contains51_S F l0.States [])).bind fun x_1 => (gcall (((decide ((l0.Sets.length : Int) = 0)) && (decide ((l0.States.length : Int) = (l0.Bodies.length : Int)))) && (!x_1)) (owner_isHoused_S F n0r.Home [l0.Bodies])).bind fun x_2 => (gcall ((((decide ((l0.Sets.length : Int) = 0)) && (decide ((l0.States.length : Int) = (l0.Bodies.length : Int)))) && (!x_1)) && x_2) (owner_node_of_S F l0.Bodies region0 n0r n0out)).bind fun x_3 => some (((((decide ((l0.Sets.length : Int) = 0)) && (decide ((l0.States.length : Int) = (l0.Bodies.length : Int)))) && (!x_1)) && x_2) && (decide ((x_3.length : Int) = (l0.Bodies.length : Int))))
theorem owner_node_isFull_spec {F : Nat} {l0 : Notice} {region0 : Int} {n0r : Round} {n0out : List Notice} {r : Bool} (h : owner_node_isFull_S F l0 region0 n0r n0out = some r) : Meets Try.prog [] 86 [(1, .xbox 95 [.one (.i n0r.Me), .one (.i n0r.Regions), .one (.i n0r.Step), .one (.sl 1 (n0r.Home.map eI)), .one (.sl 1 (n0r.Heard.map eB)), .one (.sl 1 (n0r.Sets.map (eL 1 eI))), .one (.sl 1 (n0r.States.map eS)), .one (.sl 3 (n0r.Tasks.map eTask)), .one (.sl 1 (n0r.Done.map eB)), .one (.sl 1 (n0r.Results.map eS)), .row 2]), (2, .row 42 7 (n0out.map eNotice))] [.ptr 1 0, .agg (eNotice l0), .one (.i region0)] (Is [(1, .xbox 95 [.one (.i n0r.Me), .one (.i n0r.Regions), .one (.i n0r.Step), .one (.sl 1 (n0r.Home.map eI)), .one (.sl 1 (n0r.Heard.map eB)), .one (.sl 1 (n0r.Sets.map (eL 1 eI))), .one (.sl 1 (n0r.States.map eS)), .one (.sl 3 (n0r.Tasks.map eTask)), .one (.sl 1 (n0r.Done.map eB)), .one (.sl 1 (n0r.Results.map eS)), .row 2]), (2, .row 42 7 (n0out.map eNotice))] (.b (.one (.bool r)))) := by
 unfold owner_node_isFull_S at h
 refine Meets.intro 49 Try.func86 Try.ntmps86 rfl (by simp) fun E => ?_
 show Tri _ E ⟨49, [1], [1, 2], []⟩ _ ⟨[(0, Pt 1 0), (1, .b (.agg (eNotice l0))), (2, I region0)], [(1, .xbox 95 [.one (.i n0r.Me), .one (.i n0r.Regions), .one (.i n0r.Step), .one (.sl 1 (n0r.Home.map eI)), .one (.sl 1 (n0r.Heard.map eB)), .one (.sl 1 (n0r.Sets.map (eL 1 eI))), .one (.sl 1 (n0r.States.map eS)), .one (.sl 3 (n0r.Tasks.map eTask)), .one (.sl 1 (n0r.Done.map eB)), .one (.sl 1 (n0r.Results.map eS)), .row 2]), (2, .row 42 7 (n0out.map eNotice))]⟩ _
 refine Tri.seq (Tri.regionL ?_)
 refine Oc (op_box (k := 101) rfl rfl) (Oc oa ?_)
 refine OpsL.nilS ⟨[(0, Pt 1 0), (2, I region0), (4, Pt 101 0)], [(1, .xbox 95 [.one (.i n0r.Me), .one (.i n0r.Regions), .one (.i n0r.Step), .one (.sl 1 (n0r.Home.map eI)), .one (.sl 1 (n0r.Heard.map eB)), .one (.sl 1 (n0r.Sets.map (eL 1 eI))), .one (.sl 1 (n0r.States.map eS)), .one (.sl 3 (n0r.Tasks.map eTask)), .one (.sl 1 (n0r.Done.map eB)), .one (.sl 1 (n0r.Results.map eS)), .row 2]), (2, .row 42 7 (n0out.map eNotice)), (101, .box 42 (eNotice l0))]⟩ rfl (Tri.seq ?_)
 obtain ⟨x_1, e1, h⟩ := bnd h
 obtain ⟨x_2, e2, h⟩ := bnd h
 obtain ⟨x_3, e3, h⟩ := bnd h
 refine Tri.regionW mixed [false, false, false, false, false, false, false, false, false, false, false, false, false, false, false, false, false, false, false, false, false, false, false, false, false, false, false, false, false, false, false, false, false, false, false, true, false, false, false, false, false, false, false] [Pt 101 4, .b (.one (.sl 1 (l0.Sets.map (eL 1 eI)))), I (l0.Sets.length : Int), B (decide ((l0.Sets.length : Int) = 0)), B (decide ((l0.Sets.length : Int) = 0)), .opt (decide ((l0.Sets.length : Int) = 0)) (.ptr 101 6), .opt (decide ((l0.Sets.length : Int) = 0)) (.one (.sl 1 (l0.States.map eS))), .opt (decide ((l0.Sets.length : Int) = 0)) (.one (.i (l0.States.length : Int))), .opt (decide ((l0.Sets.length : Int) = 0)) (.ptr 101 5), .opt (decide ((l0.Sets.length : Int) = 0)) (.one (.sl 1 (l0.Bodies.map eI))), .opt (decide ((l0.Sets.length : Int) = 0)) (.one (.i (l0.Bodies.length : Int))), .opt (decide ((l0.Sets.length : Int) = 0)) (.one (.bool (decide ((l0.States.length : Int) = (l0.Bodies.length : Int))))), B ((decide ((l0.Sets.length : Int) = 0)) && (decide ((l0.States.length : Int) = (l0.Bodies.length : Int)))), B ((decide ((l0.Sets.length : Int) = 0)) && (decide ((l0.States.length : Int) = (l0.Bodies.length : Int)))), .opt ((decide ((l0.Sets.length : Int) = 0)) && (decide ((l0.States.length : Int) = (l0.Bodies.length : Int)))) (.ptr 101 6), .opt ((decide ((l0.Sets.length : Int) = 0)) && (decide ((l0.States.length : Int) = (l0.Bodies.length : Int)))) (.one (.sl 1 (l0.States.map eS))), .opt ((decide ((l0.Sets.length : Int) = 0)) && (decide ((l0.States.length : Int) = (l0.Bodies.length : Int)))) (.one (.bool x_1)), .opt ((decide ((l0.Sets.length : Int) = 0)) && (decide ((l0.States.length : Int) = (l0.Bodies.length : Int)))) (.one (.bool (!x_1))), B (((decide ((l0.Sets.length : Int) = 0)) && (decide ((l0.States.length : Int) = (l0.Bodies.length : Int)))) && (!x_1)), B (((decide ((l0.Sets.length : Int) = 0)) && (decide ((l0.States.length : Int) = (l0.Bodies.length : Int)))) && (!x_1)), .opt (((decide ((l0.Sets.length : Int) = 0)) && (decide ((l0.States.length : Int) = (l0.Bodies.length : Int)))) && (!x_1)) (.ptr 1 0), .opt (((decide ((l0.Sets.length : Int) = 0)) && (decide ((l0.States.length : Int) = (l0.Bodies.length : Int)))) && (!x_1)) (.ptr 1 0), .opt (((decide ((l0.Sets.length : Int) = 0)) && (decide ((l0.States.length : Int) = (l0.Bodies.length : Int)))) && (!x_1)) (.ptr 1 0), .opt (((decide ((l0.Sets.length : Int) = 0)) && (decide ((l0.States.length : Int) = (l0.Bodies.length : Int)))) && (!x_1)) (.ptr 1 3), .opt (((decide ((l0.Sets.length : Int) = 0)) && (decide ((l0.States.length : Int) = (l0.Bodies.length : Int)))) && (!x_1)) (.one (.sl 1 (n0r.Home.map eI))), .opt (((decide ((l0.Sets.length : Int) = 0)) && (decide ((l0.States.length : Int) = (l0.Bodies.length : Int)))) && (!x_1)) (.ptr 101 5), .opt (((decide ((l0.Sets.length : Int) = 0)) && (decide ((l0.States.length : Int) = (l0.Bodies.length : Int)))) && (!x_1)) (.one (.sl 1 (l0.Bodies.map eI))), .opt (((decide ((l0.Sets.length : Int) = 0)) && (decide ((l0.States.length : Int) = (l0.Bodies.length : Int)))) && (!x_1)) (.one (.sl 1 ([l0.Bodies].map (eL 1 eI)))), .opt (((decide ((l0.Sets.length : Int) = 0)) && (decide ((l0.States.length : Int) = (l0.Bodies.length : Int)))) && (!x_1)) (.one (.bool x_2)), B ((((decide ((l0.Sets.length : Int) = 0)) && (decide ((l0.States.length : Int) = (l0.Bodies.length : Int)))) && (!x_1)) && x_2), B ((((decide ((l0.Sets.length : Int) = 0)) && (decide ((l0.States.length : Int) = (l0.Bodies.length : Int)))) && (!x_1)) && x_2), .opt ((((decide ((l0.Sets.length : Int) = 0)) && (decide ((l0.States.length : Int) = (l0.Bodies.length : Int)))) && (!x_1)) && x_2) (.ptr 1 0), .opt ((((decide ((l0.Sets.length : Int) = 0)) && (decide ((l0.States.length : Int) = (l0.Bodies.length : Int)))) && (!x_1)) && x_2) (.ptr 101 5), .opt ((((decide ((l0.Sets.length : Int) = 0)) && (decide ((l0.States.length : Int) = (l0.Bodies.length : Int)))) && (!x_1)) && x_2) (.one (.sl 1 (l0.Bodies.map eI))), .opt ((((decide ((l0.Sets.length : Int) = 0)) && (decide ((l0.States.length : Int) = (l0.Bodies.length : Int)))) && (!x_1)) && x_2) (.one (.i region0)), .opt ((((decide ((l0.Sets.length : Int) = 0)) && (decide ((l0.States.length : Int) = (l0.Bodies.length : Int)))) && (!x_1)) && x_2) (.one (.sl 1 (x_3.map eI))), .opt ((((decide ((l0.Sets.length : Int) = 0)) && (decide ((l0.States.length : Int) = (l0.Bodies.length : Int)))) && (!x_1)) && x_2) (.one (.i (x_3.length : Int))), .opt ((((decide ((l0.Sets.length : Int) = 0)) && (decide ((l0.States.length : Int) = (l0.Bodies.length : Int)))) && (!x_1)) && x_2) (.ptr 101 5), .opt ((((decide ((l0.Sets.length : Int) = 0)) && (decide ((l0.States.length : Int) = (l0.Bodies.length : Int)))) && (!x_1)) && x_2) (.one (.sl 1 (l0.Bodies.map eI))), .opt ((((decide ((l0.Sets.length : Int) = 0)) && (decide ((l0.States.length : Int) = (l0.Bodies.length : Int)))) && (!x_1)) && x_2) (.one (.i (l0.Bodies.length : Int))), .opt ((((decide ((l0.Sets.length : Int) = 0)) && (decide ((l0.States.length : Int) = (l0.Bodies.length : Int)))) && (!x_1)) && x_2) (.one (.bool (decide ((x_3.length : Int) = (l0.Bodies.length : Int))))), B (((((decide ((l0.Sets.length : Int) = 0)) && (decide ((l0.States.length : Int) = (l0.Bodies.length : Int)))) && (!x_1)) && x_2) && (decide ((x_3.length : Int) = (l0.Bodies.length : Int)))), B (((((decide ((l0.Sets.length : Int) = 0)) && (decide ((l0.States.length : Int) = (l0.Bodies.length : Int)))) && (!x_1)) && x_2) && (decide ((x_3.length : Int) = (l0.Bodies.length : Int))))] [⟨[false, false, false, false, false, false, false, false, false, false, false, false, false, false, false, false, false, false, false, false, false, false, false, false, false, false, false, false, false, false, false, false, false, false, false, false, false, false, false, false, false, false, false], [(0, Pt 1 0), (2, I region0), (4, Pt 101 0)], [(1, .xbox 95 [.one (.i n0r.Me), .one (.i n0r.Regions), .one (.i n0r.Step), .one (.sl 1 (n0r.Home.map eI)), .one (.sl 1 (n0r.Heard.map eB)), .one (.sl 1 (n0r.Sets.map (eL 1 eI))), .one (.sl 1 (n0r.States.map eS)), .one (.sl 3 (n0r.Tasks.map eTask)), .one (.sl 1 (n0r.Done.map eB)), .one (.sl 1 (n0r.Results.map eS)), .row 2]), (2, .row 42 7 (n0out.map eNotice)), (101, .box 42 (eNotice l0))], [true, true, true, true, true, true, true, true, true, true, true, true, true, true, true, true, true, true, true, true, true, true, true, true, true, true, true, true, true, true, true, true, true, true, true, true, true, true, true, true, true, true, true], [], [36, 40, 41, 42]⟩, ⟨[false, false, false, false, false, false, false, false, false, false, false, false, false, false, false, false, false, false, false, false, false, false, false, false, false, false, false, false, false, false, false, false, false, false, false, true, false, false, false, false, false, false, false], [(0, Pt 1 0), (2, I region0), (4, Pt 101 0)], [(1, .xbox 95 [.one (.i n0r.Me), .one (.i n0r.Regions), .one (.i n0r.Step), .one (.sl 1 (n0r.Home.map eI)), .one (.sl 1 (n0r.Heard.map eB)), .one (.sl 1 (n0r.Sets.map (eL 1 eI))), .one (.sl 1 (n0r.States.map eS)), .one (.sl 3 (n0r.Tasks.map eTask)), .one (.sl 1 (n0r.Done.map eB)), .one (.sl 1 (n0r.Results.map eS)), .row 2]), (2, .row 42 7 (n0out.map eNotice)), (101, .box 42 (eNotice l0))], [true, true, true, true, true, true, true, true, true, true, true, true, true, true, true, true, true, true, true, true, true, true, true, true, true, true, true, true, true, true, true, true, true, true, true, true, true, true, true, true, true, true, true], [0, 1, 2, 3, 4, 5, 6, 7, 8, 9, 10, 11, 12, 13, 14, 15, 16, 17, 18, 19, 20, 21, 22, 23, 24, 25, 26, 27, 28, 29, 30, 31, 32, 33, 34, 35], []⟩] rfl (⟨by kernel_rfl, ⟨⟨Pt 101 4, fun _ => rfl, fun _ => .p (by exact op_field_p tyFld42_4 rfl rfl)⟩, ⟨.b (.one (.sl 1 (l0.Sets.map (eL 1 eI)))), fun _ => rfl, fun _ => .p (by exact op_load_p1 tyOne23 rfl rfl rfl)⟩, ⟨I (l0.Sets.length : Int), fun _ => rfl, fun _ => .p (by exact op_len_e' und23 rfl (List.length_map _))⟩, ⟨B (decide ((l0.Sets.length : Int) = 0)), fun _ => rfl, fun _ => .p (by exact op_eql rfl rfl)⟩, ⟨B (decide ((l0.Sets.length : Int) = 0)), fun _ => rfl, fun _ => .p (by exact op_move rfl)⟩, ⟨.opt (decide ((l0.Sets.length : Int) = 0)) (.ptr 101 6), fun _ => rfl, fun _ => by exact .guard (decide ((l0.Sets.length : Int) = 0)) 1 [] (.plain rfl) (eq_t _) rfl rfl (fun gg5 => trivial) (fun gg5 => op_field_p tyFld42_6 rfl rfl)⟩, ⟨.opt (decide ((l0.Sets.length : Int) = 0)) (.one (.sl 1 (l0.States.map eS))), fun _ => rfl, fun _ => by exact .guard (decide ((l0.Sets.length : Int) = 0)) 2 [12] (.plain rfl) (eq_t _) rfl rfl (fun gg6 => ⟨gg6, trivial⟩) (fun gg6 => op_load_p1 tyOne24 rfl rfl rfl)⟩, ⟨.opt (decide ((l0.Sets.length : Int) = 0)) (.one (.i (l0.States.length : Int))), fun _ => rfl, fun _ => by exact .guard (decide ((l0.Sets.length : Int) = 0)) 2 [13] (.plain rfl) (eq_t _) rfl rfl (fun gg7 => ⟨gg7, trivial⟩) (fun gg7 => op_len_e' und24 rfl (List.length_map _))⟩, ⟨.opt (decide ((l0.Sets.length : Int) = 0)) (.ptr 101 5), fun _ => rfl, fun _ => by exact .guard (decide ((l0.Sets.length : Int) = 0)) 1 [] (.plain rfl) (eq_t _) rfl rfl (fun gg8 => trivial) (fun gg8 => op_field_p tyFld42_5 rfl rfl)⟩, ⟨.opt (decide ((l0.Sets.length : Int) = 0)) (.one (.sl 1 (l0.Bodies.map eI))), fun _ => rfl, fun _ => by exact .guard (decide ((l0.Sets.length : Int) = 0)) 2 [15] (.plain rfl) (eq_t _) rfl rfl (fun gg9 => ⟨gg9, trivial⟩) (fun gg9 => op_load_p1 tyOne22 rfl rfl rfl)⟩, ⟨.opt (decide ((l0.Sets.length : Int) = 0)) (.one (.i (l0.Bodies.length : Int))), fun _ => rfl, fun _ => by exact .guard (decide ((l0.Sets.length : Int) = 0)) 2 [16] (.plain rfl) (eq_t _) rfl rfl (fun gg10 => ⟨gg10, trivial⟩) (fun gg10 => op_len_e' und22 rfl (List.length_map _))⟩, ⟨.opt (decide ((l0.Sets.length : Int) = 0)) (.one (.bool (decide ((l0.States.length : Int) = (l0.Bodies.length : Int))))), fun _ => rfl, fun _ => by exact .guard (decide ((l0.Sets.length : Int) = 0)) 3 [14, 17] (.plain rfl) (eq_t _) rfl rfl (fun gg11 => ⟨gg11, gg11, trivial⟩) (fun gg11 => op_eql rfl rfl)⟩, ⟨B ((decide ((l0.Sets.length : Int) = 0)) && (decide ((l0.States.length : Int) = (l0.Bodies.length : Int)))), fun _ => rfl, fun _ => .p (by exact op_pick_and (fun e => e) rfl rfl rfl rfl)⟩, ⟨B ((decide ((l0.Sets.length : Int) = 0)) && (decide ((l0.States.length : Int) = (l0.Bodies.length : Int)))), fun _ => rfl, fun _ => .p (by exact op_move rfl)⟩, ⟨.opt ((decide ((l0.Sets.length : Int) = 0)) && (decide ((l0.States.length : Int) = (l0.Bodies.length : Int)))) (.ptr 101 6), fun _ => rfl, fun _ => by exact .guard ((decide ((l0.Sets.length : Int) = 0)) && (decide ((l0.States.length : Int) = (l0.Bodies.length : Int)))) 1 [] (.plain rfl) (eq_t _) rfl rfl (fun gg14 => trivial) (fun gg14 => op_field_p tyFld42_6 rfl rfl)⟩, ⟨.opt ((decide ((l0.Sets.length : Int) = 0)) && (decide ((l0.States.length : Int) = (l0.Bodies.length : Int)))) (.one (.sl 1 (l0.States.map eS))), fun _ => rfl, fun _ => by exact .guard ((decide ((l0.Sets.length : Int) = 0)) && (decide ((l0.States.length : Int) = (l0.Bodies.length : Int)))) 2 [21] (.plain rfl) (eq_t _) rfl rfl (fun gg15 => ⟨gg15, trivial⟩) (fun gg15 => op_load_p1 tyOne24 rfl rfl rfl)⟩, ⟨.opt ((decide ((l0.Sets.length : Int) = 0)) && (decide ((l0.States.length : Int) = (l0.Bodies.length : Int)))) (.one (.bool x_1)), fun _ => rfl, fun _ => by exact .guard ((decide ((l0.Sets.length : Int) = 0)) && (decide ((l0.States.length : Int) = (l0.Bodies.length : Int)))) 3 [22] (.plain rfl) (eq_t _) rfl rfl (fun gg16 => ⟨gg16, trivial⟩) (fun gg16 => op_call0 (slices_Contains51_spec (gc e1 gg16)) goes51 rfl rfl)⟩, ⟨.opt ((decide ((l0.Sets.length : Int) = 0)) && (decide ((l0.States.length : Int) = (l0.Bodies.length : Int)))) (.one (.bool (!x_1))), fun _ => rfl, fun _ => by exact .guard ((decide ((l0.Sets.length : Int) = 0)) && (decide ((l0.States.length : Int) = (l0.Bodies.length : Int)))) 2 [23] (.plain rfl) (eq_t _) rfl rfl (fun gg17 => ⟨gg17, trivial⟩) (fun gg17 => op_not rfl)⟩, ⟨B (((decide ((l0.Sets.length : Int) = 0)) && (decide ((l0.States.length : Int) = (l0.Bodies.length : Int)))) && (!x_1)), fun _ => rfl, fun _ => .p (by exact op_pick_and (fun e => e) rfl rfl rfl rfl)⟩, ⟨B (((decide ((l0.Sets.length : Int) = 0)) && (decide ((l0.States.length : Int) = (l0.Bodies.length : Int)))) && (!x_1)), fun _ => rfl, fun _ => .p (by exact op_move rfl)⟩, ⟨.opt (((decide ((l0.Sets.length : Int) = 0)) && (decide ((l0.States.length : Int) = (l0.Bodies.length : Int)))) && (!x_1)) (.ptr 1 0), fun _ => rfl, fun _ => by exact .guard (((decide ((l0.Sets.length : Int) = 0)) && (decide ((l0.States.length : Int) = (l0.Bodies.length : Int)))) && (!x_1)) 1 [] (.plain rfl) (eq_t _) rfl rfl (fun gg20 => trivial) (fun gg20 => om)⟩, ⟨.opt (((decide ((l0.Sets.length : Int) = 0)) && (decide ((l0.States.length : Int) = (l0.Bodies.length : Int)))) && (!x_1)) (.ptr 1 0), fun _ => rfl, fun _ => by exact .guard (((decide ((l0.Sets.length : Int) = 0)) && (decide ((l0.States.length : Int) = (l0.Bodies.length : Int)))) && (!x_1)) 2 [27] (.plain rfl) (eq_t _) rfl rfl (fun gg21 => ⟨gg21, trivial⟩) (fun gg21 => op_nilCheck_p rfl)⟩, ⟨.opt (((decide ((l0.Sets.length : Int) = 0)) && (decide ((l0.States.length : Int) = (l0.Bodies.length : Int)))) && (!x_1)) (.ptr 1 0), fun _ => rfl, fun _ => by exact .guard (((decide ((l0.Sets.length : Int) = 0)) && (decide ((l0.States.length : Int) = (l0.Bodies.length : Int)))) && (!x_1)) 2 [28] (.plain rfl) (eq_t _) rfl rfl (fun gg22 => ⟨gg22, trivial⟩) (fun gg22 => op_field_p tyFld95_0 rfl rfl)⟩, ⟨.opt (((decide ((l0.Sets.length : Int) = 0)) && (decide ((l0.States.length : Int) = (l0.Bodies.length : Int)))) && (!x_1)) (.ptr 1 3), fun _ => rfl, fun _ => by exact .guard (((decide ((l0.Sets.length : Int) = 0)) && (decide ((l0.States.length : Int) = (l0.Bodies.length : Int)))) && (!x_1)) 2 [29] (.plain rfl) (eq_t _) rfl rfl (fun gg23 => ⟨gg23, trivial⟩) (fun gg23 => op_field_p tyFld31_3 rfl rfl)⟩, ⟨.opt (((decide ((l0.Sets.length : Int) = 0)) && (decide ((l0.States.length : Int) = (l0.Bodies.length : Int)))) && (!x_1)) (.one (.sl 1 (n0r.Home.map eI))), fun _ => rfl, fun _ => by exact .guard (((decide ((l0.Sets.length : Int) = 0)) && (decide ((l0.States.length : Int) = (l0.Bodies.length : Int)))) && (!x_1)) 2 [30] (.plain rfl) (eq_t _) rfl rfl (fun gg24 => ⟨gg24, trivial⟩) (fun gg24 => op_load_x1 tyOne22 rfl rfl rfl)⟩, ⟨.opt (((decide ((l0.Sets.length : Int) = 0)) && (decide ((l0.States.length : Int) = (l0.Bodies.length : Int)))) && (!x_1)) (.ptr 101 5), fun _ => rfl, fun _ => by exact .guard (((decide ((l0.Sets.length : Int) = 0)) && (decide ((l0.States.length : Int) = (l0.Bodies.length : Int)))) && (!x_1)) 1 [] (.plain rfl) (eq_t _) rfl rfl (fun gg25 => trivial) (fun gg25 => op_field_p tyFld42_5 rfl rfl)⟩, ⟨.opt (((decide ((l0.Sets.length : Int) = 0)) && (decide ((l0.States.length : Int) = (l0.Bodies.length : Int)))) && (!x_1)) (.one (.sl 1 (l0.Bodies.map eI))), fun _ => rfl, fun _ => by exact .guard (((decide ((l0.Sets.length : Int) = 0)) && (decide ((l0.States.length : Int) = (l0.Bodies.length : Int)))) && (!x_1)) 2 [32] (.plain rfl) (eq_t _) rfl rfl (fun gg26 => ⟨gg26, trivial⟩) (fun gg26 => op_load_p1 tyOne22 rfl rfl rfl)⟩, ⟨.opt (((decide ((l0.Sets.length : Int) = 0)) && (decide ((l0.States.length : Int) = (l0.Bodies.length : Int)))) && (!x_1)) (.one (.sl 1 ([l0.Bodies].map (eL 1 eI)))), fun _ => rfl, fun _ => by exact .guard (((decide ((l0.Sets.length : Int) = 0)) && (decide ((l0.States.length : Int) = (l0.Bodies.length : Int)))) && (!x_1)) 2 [33] (.plain rfl) (eq_t _) rfl rfl (fun gg27 => ⟨gg27, trivial⟩) (fun gg27 => op_buildSliceP (es := [l0.Bodies].map (eL 1 eI)) tySl23 rfl rfl (uni_map fun _ => rfl) rfl (by decide) (by decide))⟩, ⟨.opt (((decide ((l0.Sets.length : Int) = 0)) && (decide ((l0.States.length : Int) = (l0.Bodies.length : Int)))) && (!x_1)) (.one (.bool x_2)), fun _ => rfl, fun _ => by exact .guard (((decide ((l0.Sets.length : Int) = 0)) && (decide ((l0.States.length : Int) = (l0.Bodies.length : Int)))) && (!x_1)) 4 [31, 34] (.plain rfl) (eq_t _) rfl rfl (fun gg28 => ⟨gg28, gg28, trivial⟩) (fun gg28 => op_call0 (owner_isHoused_spec (gc e2 gg28)) goes42 rfl rfl)⟩, ⟨B ((((decide ((l0.Sets.length : Int) = 0)) && (decide ((l0.States.length : Int) = (l0.Bodies.length : Int)))) && (!x_1)) && x_2), fun _ => rfl, fun _ => .p (by exact op_pick_and (fun e => e) rfl rfl rfl rfl)⟩, ⟨B ((((decide ((l0.Sets.length : Int) = 0)) && (decide ((l0.States.length : Int) = (l0.Bodies.length : Int)))) && (!x_1)) && x_2), fun _ => rfl, fun _ => .p (by exact op_move rfl)⟩, ⟨.opt ((((decide ((l0.Sets.length : Int) = 0)) && (decide ((l0.States.length : Int) = (l0.Bodies.length : Int)))) && (!x_1)) && x_2) (.ptr 1 0), fun _ => rfl, fun _ => by exact .guard ((((decide ((l0.Sets.length : Int) = 0)) && (decide ((l0.States.length : Int) = (l0.Bodies.length : Int)))) && (!x_1)) && x_2) 1 [] (.plain rfl) (eq_t _) rfl rfl (fun gg31 => trivial) (fun gg31 => om)⟩, ⟨.opt ((((decide ((l0.Sets.length : Int) = 0)) && (decide ((l0.States.length : Int) = (l0.Bodies.length : Int)))) && (!x_1)) && x_2) (.ptr 101 5), fun _ => rfl, fun _ => by exact .guard ((((decide ((l0.Sets.length : Int) = 0)) && (decide ((l0.States.length : Int) = (l0.Bodies.length : Int)))) && (!x_1)) && x_2) 1 [] (.plain rfl) (eq_t _) rfl rfl (fun gg32 => trivial) (fun gg32 => op_field_p tyFld42_5 rfl rfl)⟩, ⟨.opt ((((decide ((l0.Sets.length : Int) = 0)) && (decide ((l0.States.length : Int) = (l0.Bodies.length : Int)))) && (!x_1)) && x_2) (.one (.sl 1 (l0.Bodies.map eI))), fun _ => rfl, fun _ => by exact .guard ((((decide ((l0.Sets.length : Int) = 0)) && (decide ((l0.States.length : Int) = (l0.Bodies.length : Int)))) && (!x_1)) && x_2) 2 [39] (.plain rfl) (eq_t _) rfl rfl (fun gg33 => ⟨gg33, trivial⟩) (fun gg33 => op_load_p1 tyOne22 rfl rfl rfl)⟩, ⟨.opt ((((decide ((l0.Sets.length : Int) = 0)) && (decide ((l0.States.length : Int) = (l0.Bodies.length : Int)))) && (!x_1)) && x_2) (.one (.i region0)), fun _ => rfl, fun _ => by exact .guard ((((decide ((l0.Sets.length : Int) = 0)) && (decide ((l0.States.length : Int) = (l0.Bodies.length : Int)))) && (!x_1)) && x_2) 1 [] (.plain rfl) (eq_t _) rfl rfl (fun gg34 => trivial) (fun gg34 => om)⟩, ⟨_, [2], .opt ((((decide ((l0.Sets.length : Int) = 0)) && (decide ((l0.States.length : Int) = (l0.Bodies.length : Int)))) && (!x_1)) && x_2) (.one (.sl 1 (x_3.map eI))), rfl, fun _ => rfl, rfl, rfl, fun _ => .toO [1, 2, 101] (by exact by exact .guardD [2] ((((decide ((l0.Sets.length : Int) = 0)) && (decide ((l0.States.length : Int) = (l0.Bodies.length : Int)))) && (!x_1)) && x_2) 5 [38, 40, 41] (.plain rfl) (eq_t _) rfl rfl (fun gg35 => ⟨gg35, gg35, gg35, trivial⟩) (fun gg35 => (op_call (own_a := [(1, _), (2, _)]) (((owner_node_of_spec (gc e3 gg35)).sw 51 103).persL 103 rfl) goes55 rfl ⟨rfl, rfl, trivial⟩ rfl rfl).toO [1, 2, 101] rfl)) (by exact rfl)⟩, trivial, ⟨.opt ((((decide ((l0.Sets.length : Int) = 0)) && (decide ((l0.States.length : Int) = (l0.Bodies.length : Int)))) && (!x_1)) && x_2) (.ptr 101 5), fun _ => rfl, fun _ => by exact .guard ((((decide ((l0.Sets.length : Int) = 0)) && (decide ((l0.States.length : Int) = (l0.Bodies.length : Int)))) && (!x_1)) && x_2) 1 [] (.plain rfl) (eq_t _) rfl rfl (fun gg37 => trivial) (fun gg37 => op_field_p tyFld42_5 rfl rfl)⟩, ⟨.opt ((((decide ((l0.Sets.length : Int) = 0)) && (decide ((l0.States.length : Int) = (l0.Bodies.length : Int)))) && (!x_1)) && x_2) (.one (.sl 1 (l0.Bodies.map eI))), fun _ => rfl, fun _ => by exact .guard ((((decide ((l0.Sets.length : Int) = 0)) && (decide ((l0.States.length : Int) = (l0.Bodies.length : Int)))) && (!x_1)) && x_2) 2 [44] (.plain rfl) (eq_t _) rfl rfl (fun gg38 => ⟨gg38, trivial⟩) (fun gg38 => op_load_p1 tyOne22 rfl rfl rfl)⟩, ⟨.opt ((((decide ((l0.Sets.length : Int) = 0)) && (decide ((l0.States.length : Int) = (l0.Bodies.length : Int)))) && (!x_1)) && x_2) (.one (.i (l0.Bodies.length : Int))), fun _ => rfl, fun _ => by exact .guard ((((decide ((l0.Sets.length : Int) = 0)) && (decide ((l0.States.length : Int) = (l0.Bodies.length : Int)))) && (!x_1)) && x_2) 2 [45] (.plain rfl) (eq_t _) rfl rfl (fun gg39 => ⟨gg39, trivial⟩) (fun gg39 => op_len_e' und22 rfl (List.length_map _))⟩, trivial, trivial, trivial, trivial⟩, ⟨by kernel_rfl, ⟨trivial, trivial, trivial, trivial, trivial, trivial, trivial, trivial, trivial, trivial, trivial, trivial, trivial, trivial, trivial, trivial, trivial, trivial, trivial, trivial, trivial, trivial, trivial, trivial, trivial, trivial, trivial, trivial, trivial, trivial, trivial, trivial, trivial, trivial, trivial, trivial, ⟨.opt ((((decide ((l0.Sets.length : Int) = 0)) && (decide ((l0.States.length : Int) = (l0.Bodies.length : Int)))) && (!x_1)) && x_2) (.one (.i (x_3.length : Int))), fun _ => rfl, fun _ => by exact .guard ((((decide ((l0.Sets.length : Int) = 0)) && (decide ((l0.States.length : Int) = (l0.Bodies.length : Int)))) && (!x_1)) && x_2) 2 [42] (.plain rfl) (eq_t _) rfl rfl (fun gg36 => ⟨gg36, trivial⟩) (fun gg36 => op_len_e' und22 rfl (List.length_map _))⟩, ⟨.opt ((((decide ((l0.Sets.length : Int) = 0)) && (decide ((l0.States.length : Int) = (l0.Bodies.length : Int)))) && (!x_1)) && x_2) (.ptr 101 5), fun _ => rfl, fun _ => by exact .guard ((((decide ((l0.Sets.length : Int) = 0)) && (decide ((l0.States.length : Int) = (l0.Bodies.length : Int)))) && (!x_1)) && x_2) 1 [] (.plain rfl) (eq_t _) rfl rfl (fun gg37 => trivial) (fun gg37 => op_field_p tyFld42_5 rfl rfl)⟩, ⟨.opt ((((decide ((l0.Sets.length : Int) = 0)) && (decide ((l0.States.length : Int) = (l0.Bodies.length : Int)))) && (!x_1)) && x_2) (.one (.sl 1 (l0.Bodies.map eI))), fun _ => rfl, fun _ => by exact .guard ((((decide ((l0.Sets.length : Int) = 0)) && (decide ((l0.States.length : Int) = (l0.Bodies.length : Int)))) && (!x_1)) && x_2) 2 [44] (.plain rfl) (eq_t _) rfl rfl (fun gg38 => ⟨gg38, trivial⟩) (fun gg38 => op_load_p1 tyOne22 rfl rfl rfl)⟩, ⟨.opt ((((decide ((l0.Sets.length : Int) = 0)) && (decide ((l0.States.length : Int) = (l0.Bodies.length : Int)))) && (!x_1)) && x_2) (.one (.i (l0.Bodies.length : Int))), fun _ => rfl, fun _ => by exact .guard ((((decide ((l0.Sets.length : Int) = 0)) && (decide ((l0.States.length : Int) = (l0.Bodies.length : Int)))) && (!x_1)) && x_2) 2 [45] (.plain rfl) (eq_t _) rfl rfl (fun gg39 => ⟨gg39, trivial⟩) (fun gg39 => op_len_e' und22 rfl (List.length_map _))⟩, ⟨.opt ((((decide ((l0.Sets.length : Int) = 0)) && (decide ((l0.States.length : Int) = (l0.Bodies.length : Int)))) && (!x_1)) && x_2) (.one (.bool (decide ((x_3.length : Int) = (l0.Bodies.length : Int))))), fun _ => rfl, fun _ => by exact .guard ((((decide ((l0.Sets.length : Int) = 0)) && (decide ((l0.States.length : Int) = (l0.Bodies.length : Int)))) && (!x_1)) && x_2) 3 [43, 46] (.plain rfl) (eq_t _) rfl rfl (fun gg40 => ⟨gg40, gg40, trivial⟩) (fun gg40 => op_eql rfl rfl)⟩, ⟨B (((((decide ((l0.Sets.length : Int) = 0)) && (decide ((l0.States.length : Int) = (l0.Bodies.length : Int)))) && (!x_1)) && x_2) && (decide ((x_3.length : Int) = (l0.Bodies.length : Int)))), fun _ => rfl, fun _ => .p (by exact op_pick_and (fun e => e) rfl rfl rfl rfl)⟩, ⟨B (((((decide ((l0.Sets.length : Int) = 0)) && (decide ((l0.States.length : Int) = (l0.Bodies.length : Int)))) && (!x_1)) && x_2) && (decide ((x_3.length : Int) = (l0.Bodies.length : Int)))), fun _ => rfl, fun _ => .p (by exact op_assign rfl)⟩, trivial⟩, trivial⟩⟩) rfl rfl rfl [6] [1, 2] (s' := ⟨[(6, B (((((decide ((l0.Sets.length : Int) = 0)) && (decide ((l0.States.length : Int) = (l0.Bodies.length : Int)))) && (!x_1)) && x_2) && (decide ((x_3.length : Int) = (l0.Bodies.length : Int)))))], [(1, _), (2, _)]⟩) rfl ?_
 refine Tri.ret ?_
 obtain rfl := Option.some.inj h
 refine Fin.keepS ⟨[(6, _)], [(1, _), (2, _)]⟩ rfl ?_
 exact Fin.result [.one (.bool (((((decide ((l0.Sets.length : Int) = 0)) && (decide ((l0.States.length : Int) = (l0.Bodies.length : Int)))) && (!x_1)) && x_2) && (decide ((x_3.length : Int) = (l0.Bodies.length : Int)))))] (.inl rfl) rfl (.cons (.tmp rfl) .nil) ⟨rfl, rfl⟩
def owner_learn_S (F : Nat) (old0 : List Str) (bodies0 : List Int) (states0 : List Str) : Option (List Str) :=
 Option.bind (mk? ([] : Str) (old0.length : Int) (old0.length : Int)) (fun x_1 => Option.bind (iter F (un2 fun out_3 x_4 => if (decide (x_4 < (bodies0.length : Int))) = true then (Option.bind ((idx? bodies0 x_4).bind fun x_7 => (idx? out_3 x_7).bind fun x_8 => if (decide (x_8 = [])) = true then ((idx? states0 x_4).bind fun x_9 => (idx? out_3 x_7).bind fun x_10 => some (out_3.set (x_7 : Int).toNat x_9)) else (some out_3)) (fun out_6 => some (.inl (out_6, IntKind.i64.wrap (x_4 + 1))))) else (some (.inr out_3))) (cpyE x_1 old0, 0)) (fun out_2 => some out_2))
theorem owner_learn_spec (kr0 : Nat) {F : Nat} {old0 : List Str} {bodies0 : List Int} {states0 : List Str} {r : (List Str)} (h : owner_learn_S F old0 bodies0 states0 = some r) : Meets Try.prog [] 54 [] [.one (.sl 1 (old0.map eS)), .one (.sl 1 (bodies0.map eI)), .one (.sl 1 (states0.map eS))] (Is [(kr0, .row 9 1 (r.map eS))] (.b (.row kr0))) := by
 unfold owner_learn_S at h
 refine Meets.intro 37 Try.func54 Try.ntmps54 rfl (by simp) fun E => ?_
 show Tri _ E ⟨37, [], [], []⟩ _ ⟨[(0, .b (.one (.sl 1 (old0.map eS)))), (1, .b (.one (.sl 1 (bodies0.map eI)))), (2, .b (.one (.sl 1 (states0.map eS))))], []⟩ _
 refine Tri.seq (Tri.regionL ?_)
 refine Oc oa (OpsL.nilS ⟨[(0, .b (.one (.sl 1 (old0.map eS)))), (1, .b (.one (.sl 1 (bodies0.map eI)))), (2, .b (.one (.sl 1 (states0.map eS))))], []⟩ rfl (Tri.seq (Tri.regionL ?_)))
 refine Oc om (Oc (op_len_e' und24 rfl (List.length_map _)) ?_)
 obtain ⟨x_1, e1, h⟩ := bnd h
 refine Oc (op_makeSlice (k := 101) (enc := eS) tySl24 e1 (by decide) (.cons .refl .nil) rfl rfl rfl) (Oc oa ?_)
 refine OpsL.nilS ⟨[(0, _), (1, _), (2, _), (7, .b (.row 101))], [(101, .row 9 1 (x_1.map eS))]⟩ rfl (Tri.seq (Tri.regionL ?_))
 refine Oc om (Oc om (Oc (op_copy_row tySl24 rfl rfl rfl (cpyE_map _ _ _) rfl rfl rfl) ?_))
 refine OpsL.nilS ⟨[(1, _), (2, _), (7, _)], [(101, .row 9 1 ((cpyE x_1 old0).map eS))]⟩ rfl ?_
 obtain ⟨v2, h3, h⟩ := bnd h
 refine Tri.seqJ (v := v2) (fun (out_2 : List Str) => ⟨[(7, .b (.row 101))], [(101, .row 9 1 (out_2.map eS))]⟩) (fun z => z) ?_ ?_
 ·refine Tri.seq (Tri.regionL ?_)
  refine Oc om (Oc (op_len_e' und22 rfl (List.length_map _)) (Oc om ?_))
  refine OpsL.nilS ⟨[(2, _), (7, _), (16, .b (.one (.sl 1 (bodies0.map eI)))), (17, I (bodies0.length : Int)), (18, I 0)], [(101, _)]⟩ rfl (Tri.block (Tri.loopJ h3 (un2 fun (out_3 : List Str) (x_4 : Int) => ⟨[(2, .b (.one (.sl 1 (states0.map eS)))), (7, .b (.row 101)), (16, .b (.one (.sl 1 (bodies0.map eI)))), (17, I (bodies0.length : Int)), (18, I x_4)], [(101, .row 9 1 (out_3.map eS))]⟩) [2, 7, 16, 17, 18] [101] rfl ?_))
  rintro ⟨out_3, x_4⟩ o4 h5 hy6
  refine Tri.seq (Tri.regionL ?_)
  refine Oc (op_lss rfl rfl) (OpsL.nilS ⟨[(2, _), (7, _), (16, _), (17, _), (18, _), (19, B (decide (x_4 < (bodies0.length : Int))))], [(101, _)]⟩ rfl (Tri.seq (Tri.ite h5 rfl (fun _ h5 => ?_) (fun _ h5 => ?_))))
  ·refine Tri.skip (Fin.keepS ⟨[(2, _), (7, _), (16, _), (17, _), (18, _)], [(101, _)]⟩ rfl (Fin.then ?_))
   obtain ⟨v7, h8, h5⟩ := bnd h5
   refine Tri.seqJ (v := v7) (fun (out_6 : List Str) => ⟨[(2, .b (.one (.sl 1 (states0.map eS)))), (7, .b (.row 101)), (16, .b (.one (.sl 1 (bodies0.map eI)))), (17, I (bodies0.length : Int)), (18, I x_4)], [(101, .row 9 1 (out_6.map eS))]⟩) (fun z => z) ?_ ?_
   ·refine Tri.block (Tri.seq (Tri.regionL ?_))
    refine Oc om ?_
    obtain ⟨x_7, e9, h8⟩ := bnd h8
    refine Oc (op_index_e tySl22 (ix_lo e9) (ix_map (e := eI) e9) rfl rfl) (Oc (op_load_e1 tyOne3 rfl rfl) (Oc oa (Oc oa ?_)))
    refine OpsL.nilS ⟨[(2, _), (7, _), (8, I x_4), (9, I x_7), (16, _), (17, _), (18, _)], [(101, _)]⟩ rfl (Tri.seq (Tri.regionL ?_))
    refine Oc om (Oc om ?_)
    obtain ⟨x_8, e10, h8⟩ := bnd h8
    refine Oc (op_index_r tySl24 (ix_lo e10) (ix_lt' e10) rfl rfl rfl rfl) (Oc (op_load_r1 (i := (x_7 : Int).toNat) (f := 0) tyOne9 rfl rfl rfl (ix_map (e := eS) e10) rfl) (Oc (op_eql_str rfl rfl) ?_))
    refine OpsL.nilS ⟨[(2, _), (7, _), (8, _), (9, _), (16, _), (17, _), (18, _), (27, B (decide (x_8 = [])))], [(101, _)]⟩ rfl (Tri.ite h8 rfl (fun _ h8 => ?_) (fun _ h8 => ?_))
    ·refine Tri.regionL (Oc om (Oc om (Oc om (Oc om ?_))))
     obtain ⟨x_9, e11, h8⟩ := bnd h8
     refine Oc (op_index_e tySl24 (ix_lo e11) (ix_map (e := eS) e11) rfl rfl) (Oc (op_load_e1 tyOne9 rfl rfl) ?_)
     obtain ⟨x_10, e12, h8⟩ := bnd h8
     refine Oc (op_index_r tySl24 (ix_lo e12) (ix_lt' e12) rfl rfl rfl rfl) (Oc (op_store_r1 (i := (x_7 : Int).toNat) tyOne9 rfl rfl rfl rfl (ix_lt e12) (map_set _ _ _ _)) ?_)
     refine OpsL.nil (Fin.block_normal ?_)
     exact Fin.join [2, 7, 16, 17, 18] [101] (out_3.set (x_7 : Int).toNat x_9) (Option.some.inj h8) rfl
    ·refine Tri.skip (Fin.block_normal ?_)
     exact Fin.join [2, 7, 16, 17, 18] [101] out_3 (Option.some.inj h8) rfl
   ·rintro out_6 hv
    subst v7
    refine Tri.regionL (Oc (op_add rfl rfl) (Oc om ?_))
    refine OpsL.nil ?_
    exact Fin.againJ [2, 7, 16, 17, 18] [101] (out_6, IntKind.i64.wrap (x_4 + 1)) (Option.some.inj h5) rfl
  ·refine Tri.exit (Fin.then_exit ?_)
   obtain rfl := hy6 _ (Option.some.inj h5).symm
   refine Fin.then_exit (Fin.block_exit ?_)
   exact Fin.join [7] [101] out_3 rfl rfl
 ·rintro out_2 hv
  subst v2
  refine Tri.seq (Tri.regionL ?_)
  refine Oc om (Oc oa ?_)
  refine OpsL.nilS ⟨[(6, .b (.row 101))], [(101, _)]⟩ rfl (Tri.ret ?_)
  obtain rfl := Option.some.inj h
  refine Fin.keepS ⟨[(6, _)], [(101, _)]⟩ rfl (Fin.resultK 101 kr0 [.row 101] (.inl rfl) rfl (.cons (.tmp rfl) .nil) rfl rfl rfl rfl ⟨rfl, rfl⟩)
def owner_node_states_S (F : Nat) (l0 : Notice) (n0r : Round) (n0out : List Notice) : Option Round :=
 (owner_node_isFull_S F l0 l0.From n0r n0out).bind fun x_1 => if x_1 = true then ((owner_learn_S F n0r.States l0.Bodies l0.States).bind fun x_2 => some (⟨n0r.Me, n0r.Regions, n0r.Step, n0r.Home, n0r.Heard, n0r.Sets, x_2, n0r.Tasks, n0r.Done, n0r.Results⟩ : Round)) else (some n0r)
theorem owner_node_states_spec {F : Nat} {l0 : Notice} {n0r : Round} {n0out : List Notice} {r : Round} (h : owner_node_states_S F l0 n0r n0out = some r) : Meets Try.prog [] 63 [(1, .xbox 95 [.one (.i n0r.Me), .one (.i n0r.Regions), .one (.i n0r.Step), .one (.sl 1 (n0r.Home.map eI)), .one (.sl 1 (n0r.Heard.map eB)), .one (.sl 1 (n0r.Sets.map (eL 1 eI))), .one (.sl 1 (n0r.States.map eS)), .one (.sl 3 (n0r.Tasks.map eTask)), .one (.sl 1 (n0r.Done.map eB)), .one (.sl 1 (n0r.Results.map eS)), .row 2]), (2, .row 42 7 (n0out.map eNotice))] [.ptr 1 0, .agg (eNotice l0)] (Is [(1, .xbox 95 [.one (.i r.Me), .one (.i r.Regions), .one (.i r.Step), .one (.sl 1 (r.Home.map eI)), .one (.sl 1 (r.Heard.map eB)), .one (.sl 1 (r.Sets.map (eL 1 eI))), .one (.sl 1 (r.States.map eS)), .one (.sl 3 (r.Tasks.map eTask)), .one (.sl 1 (r.Done.map eB)), .one (.sl 1 (r.Results.map eS)), .row 2]), (2, .row 42 7 (n0out.map eNotice))] (.tup [])) := by
 unfold owner_node_states_S at h
 refine Meets.intro 23 Try.func63 Try.ntmps63 rfl (by simp) fun E => ?_
 show Tri _ E ⟨23, [1], [1, 2], []⟩ _ ⟨[(0, Pt 1 0), (1, .b (.agg (eNotice l0)))], [(1, .xbox 95 [.one (.i n0r.Me), .one (.i n0r.Regions), .one (.i n0r.Step), .one (.sl 1 (n0r.Home.map eI)), .one (.sl 1 (n0r.Heard.map eB)), .one (.sl 1 (n0r.Sets.map (eL 1 eI))), .one (.sl 1 (n0r.States.map eS)), .one (.sl 3 (n0r.Tasks.map eTask)), .one (.sl 1 (n0r.Done.map eB)), .one (.sl 1 (n0r.Results.map eS)), .row 2]), (2, .row 42 7 (n0out.map eNotice))]⟩ _
 refine Tri.seq (Tri.regionL ?_)
 refine Oc (op_box (k := 101) rfl rfl) (OpsL.nilS ⟨[(0, Pt 1 0), (3, Pt 101 0)], [(1, .xbox 95 [.one (.i n0r.Me), .one (.i n0r.Regions), .one (.i n0r.Step), .one (.sl 1 (n0r.Home.map eI)), .one (.sl 1 (n0r.Heard.map eB)), .one (.sl 1 (n0r.Sets.map (eL 1 eI))), .one (.sl 1 (n0r.States.map eS)), .one (.sl 3 (n0r.Tasks.map eTask)), .one (.sl 1 (n0r.Done.map eB)), .one (.sl 1 (n0r.Results.map eS)), .row 2]), (2, .row 42 7 (n0out.map eNotice)), (101, .box 42 (eNotice l0))]⟩ rfl (Tri.seq (Tri.regionL ?_)))
 refine Oc om (Oc (lp tyAgg42) (Oc (op_field_p tyFld42_2 rfl rfl) (Oc (op_load_p1 tyOne3 rfl rfl rfl) ?_)))
 obtain ⟨x_1, e1, h⟩ := bnd h
 refine Oc (op_call (own_a := [(1, _), (2, _)]) (owner_node_isFull_spec e1) goes86 rfl ⟨rfl, rfl, trivial⟩ rfl rfl) (OpsL.nilS ⟨[(0, _), (3, _), (8, B x_1)], [(1, _), (2, _), (101, _)]⟩ rfl (Tri.ite h rfl (fun _ h => ?_) (fun _ h => ?_)))
 ·refine Tri.keepS ⟨[(0, _), (3, _)], [(1, _), (2, _), (101, _)]⟩ rfl ?_
  obtain ⟨x_2, e2, h⟩ := bnd h
  refine Tri.regionYF mixed 14 [Pt 1 0, Pt 1 0, Pt 1 0, Pt 1 0, Pt 1 6, .b (.one (.sl 1 (n0r.States.map eS))), Pt 101 5, .b (.one (.sl 1 (l0.Bodies.map eI))), Pt 101 6, .b (.one (.sl 1 (l0.States.map eS))), .b (.one (.sl 1 (x_2.map eS))), Pt 1 0, Pt 1 0, Pt 1 6] [] [1, 2] (s' := ⟨[], [(1, .xbox 95 [.one (.i n0r.Me), .one (.i n0r.Regions), .one (.i n0r.Step), .one (.sl 1 (n0r.Home.map eI)), .one (.sl 1 (n0r.Heard.map eB)), .one (.sl 1 (n0r.Sets.map (eL 1 eI))), .one (.sl 1 (x_2.map eS)), .one (.sl 3 (n0r.Tasks.map eTask)), .one (.sl 1 (n0r.Done.map eB)), .one (.sl 1 (n0r.Results.map eS)), .row 2]), (2, _)]⟩) rfl ⟨fun _ => .p om, fun _ => .p om, fun _ => .p (op_nilCheck_p rfl), fun _ => .p (op_field_p tyFld95_0 rfl rfl), fun _ => .p (op_field_p tyFld31_6 rfl rfl), fun _ => .p (op_load_x1 tyOne24 rfl rfl rfl), fun _ => .p (op_field_p tyFld42_5 rfl rfl), fun _ => .p (op_load_p1 tyOne22 rfl rfl rfl), fun _ => .p (op_field_p tyFld42_6 rfl rfl), fun _ => .p (op_load_p1 tyOne24 rfl rfl rfl), fun _ => .p (op_call0 (owner_learn_spec 0 e2).persG goes54 rfl rfl), fun _ => .p (op_nilCheck_p rfl), fun _ => .p (op_field_p tyFld95_0 rfl rfl), fun _ => .p (op_field_p tyFld31_6 rfl rfl), trivial⟩ ⟨_, by exact .p (op_store_x1 tyOne24 rfl rfl rfl rfl (Nat.le_of_ble_eq_true rfl) rfl), rfl⟩ rfl ?_
  obtain rfl := Option.some.inj h
  refine Fin.keepS ⟨[], [(1, _), (2, _)]⟩ rfl ?_
  exact Fin.result [] (.inr rfl) rfl (.nil) ⟨rfl, rfl⟩
 ·refine Tri.skip ?_
  obtain rfl := Option.some.inj h
  refine Fin.keepS ⟨[], [(1, _), (2, _)]⟩ rfl ?_
  exact Fin.result [] (.inr rfl) rfl (.nil) ⟨rfl, rfl⟩
def slices_Index97_S (F : Nat) (s0 : List Int) (v0 : Int) : Option Int :=
 Option.bind (iter F (fun x_1 => if (decide (x_1 < (s0.length : Int))) = true then ((idx? s0 x_1).bind fun x_2 => if (decide (v0 = x_2)) = true then (some (.inr (.inr x_1))) else (some (.inl (IntKind.i64.wrap (x_1 + 1))))) else (some (.inr (.inl ())))) 0) (alt2 (fun _ => some (-1)) (fun y => some y))
theorem slices_Index97_spec {F : Nat} {s0 : List Int} {v0 : Int} {r : Int} (h : slices_Index97_S F s0 v0 = some r) : Meets Try.prog [] 97 [] [.one (.sl 1 (s0.map eI)), .one (.i v0)] (Is [] (.b (.one (.i r)))) := by
 unfold slices_Index97_S at h
 refine Meets.intro 19 Try.func97 Try.ntmps97 rfl (by simp) fun E => ?_
 show Tri _ E ⟨19, [], [], []⟩ _ ⟨[(0, .b (.one (.sl 1 (s0.map eI)))), (1, I v0)], []⟩ _
 refine Tri.seq (Tri.regionL ?_)
 refine Oc oa (OpsL.nilS ⟨[(0, .b (.one (.sl 1 (s0.map eI)))), (1, I v0)], []⟩ rfl ?_)
 obtain ⟨v1, h2, h⟩ := bnd h
 refine Tri.seqJ (v := v1) (fun (_ : Unit) => ⟨[], []⟩) (fun z => .inl z) ?_ ?_
 ·refine Tri.seq (Tri.regionL ?_)
  refine Oc om (Oc (op_len_e' und22 rfl (List.length_map _)) (Oc om ?_))
  refine OpsL.nilS ⟨[(0, _), (1, _), (7, I (s0.length : Int)), (8, I 0)], []⟩ rfl (Tri.block (Tri.loopJ h2 (fun (x_1 : Int) => ⟨[(0, .b (.one (.sl 1 (s0.map eI)))), (1, I v0), (7, I (s0.length : Int)), (8, I x_1)], []⟩) [0, 1, 7, 8] [] rfl ?_))
  rintro x_1 o3 h4 hy5
  refine Tri.seq (Tri.regionL ?_)
  refine Oc (op_lss rfl rfl) (OpsL.nilS ⟨[(0, _), (1, _), (7, _), (8, _), (9, B (decide (x_1 < (s0.length : Int))))], []⟩ rfl (Tri.seq (Tri.ite h4 rfl (fun _ h4 => ?_) (fun _ h4 => ?_))))
  ·refine Tri.skip (Fin.keepS ⟨[(0, _), (1, _), (7, _), (8, _)], []⟩ rfl (Fin.then (Tri.seq (Tri.block (Tri.seq (Tri.regionL ?_))))))
   refine Oc om (Oc oa ?_)
   refine OpsL.nilS ⟨[(0, _), (1, _), (5, I x_1), (7, _), (8, _)], []⟩ rfl (Tri.seq (Tri.regionL ?_))
   refine Oc om (Oc om (Oc om ?_))
   obtain ⟨x_2, e6, h4⟩ := bnd h4
   refine Oc (op_index_e tySl22 (ix_lo e6) (ix_map (e := eI) e6) rfl rfl) (Oc (op_load_e1 tyOne3 rfl rfl) (Oc (op_eql rfl rfl) ?_))
   refine OpsL.nilS ⟨[(0, _), (1, _), (5, _), (7, _), (8, _), (16, B (decide (v0 = x_2)))], []⟩ rfl (Tri.ite h4 rfl (fun _ h4 => ?_) (fun _ h4 => ?_))
   ·refine Tri.seq (Tri.regionL ?_)
    refine Oc om (Oc oa ?_)
    refine OpsL.nilS ⟨[(4, I x_1)], []⟩ rfl (Tri.ret (Fin.block_ret (Fin.then_ret ?_)))
    obtain rfl := hy5 _ (Option.some.inj h4).symm
    refine Fin.then_ret (Fin.block_ret (Fin.then_ret ?_))
    obtain rfl := Option.some.inj h
    refine Fin.keepS ⟨[(4, _)], []⟩ rfl (Fin.result' [.one (.i x_1)] (.inl rfl) rfl (.cons (.tmp rfl) .nil) ⟨rfl, rfl⟩)
   ·refine Tri.skip (Fin.block_normal (Fin.keepS ⟨[(0, _), (1, _), (7, _), (8, _)], []⟩ rfl (Fin.then (Tri.regionL ?_))))
    refine Oc (op_add rfl rfl) (Oc om ?_)
    refine OpsL.nil ?_
    exact Fin.againJ [0, 1, 7, 8] [] (IntKind.i64.wrap (x_1 + 1)) (Option.some.inj h4) rfl
  ·refine Tri.exit (Fin.then_exit ?_)
   obtain rfl := hy5 _ (Option.some.inj h4).symm
   refine Fin.then_exit (Fin.block_exit ?_)
   exact Fin.join [] [] () rfl rfl
 ·rintro _ hv
  subst v1
  refine Tri.seq (Tri.regionL ?_)
  refine Oc oa (OpsL.nilS ⟨[(4, I (-1))], []⟩ rfl (Tri.ret ?_))
  obtain rfl := Option.some.inj h
  refine Fin.keepS ⟨[(4, _)], []⟩ rfl (Fin.result' [.one (.i (-1))] (.inl rfl) rfl (.cons (.tmp rfl) .nil) ⟨rfl, rfl⟩)
def slices_Contains89_S (F : Nat) (s0 : List Int) (v0 : Int) : Option Bool :=
 (slices_Index97_S F s0 v0).bind fun x_1 => some (decide (0 ≤ x_1))
theorem slices_Contains89_spec {F : Nat} {s0 : List Int} {v0 : Int} {r : Bool} (h : slices_Contains89_S F s0 v0 = some r) : Meets Try.prog [] 89 [] [.one (.sl 1 (s0.map eI)), .one (.i v0)] (Is [] (.b (.one (.bool r)))) := by
 unfold slices_Contains89_S at h
 refine Meets.intro 9 Try.func89 Try.ntmps89 rfl (by simp) fun E => ?_
 show Tri _ E ⟨9, [], [], []⟩ _ ⟨[(0, .b (.one (.sl 1 (s0.map eI)))), (1, I v0)], []⟩ _
 refine Tri.seq (Tri.regionL ?_)
 refine Oc oa (OpsL.nilS ⟨[(0, .b (.one (.sl 1 (s0.map eI)))), (1, I v0)], []⟩ rfl (Tri.seq (Tri.regionL ?_)))
 refine Oc om (Oc om ?_)
 obtain ⟨x_1, e1, h⟩ := bnd h
 refine Oc (op_call0 (slices_Index97_spec e1) goes97 rfl rfl) (Oc (op_geq rfl rfl) (Oc oa ?_))
 refine OpsL.nilS ⟨[(4, B (decide (0 ≤ x_1)))], []⟩ rfl (Tri.ret ?_)
 obtain rfl := Option.some.inj h
 refine Fin.keepS ⟨[(4, _)], []⟩ rfl (Fin.result' [.one (.bool (decide (0 ≤ x_1)))] (.inl rfl) rfl (.cons (.tmp rfl) .nil) ⟨rfl, rfl⟩)
def owner_node_results_1_S (F : Nat) (t0 : Task) (v0cKind : Int) (v0cStep : Int) (v0cFrom : Int) (v0cTo : Int) (v0cSets : List (List Int)) (v0cBodies : List Int) (v0cStates : List Str) (v1c : Int) : Option Bool :=
 (gcall (decide (t0.Owner = v0cFrom)) (slices_Contains89_S F t0.Bodies v1c)).bind fun x_1 => some ((decide (t0.Owner = v0cFrom)) && x_1)
theorem owner_node_results_1_spec {F : Nat} {t0 : Task} {v0cKind : Int} {v0cStep : Int} {v0cFrom : Int} {v0cTo : Int} {v0cSets : List (List Int)} {v0cBodies : List Int} {v0cStates : List Str} {v1c : Int} {r : Bool} (h : owner_node_results_1_S F t0 v0cKind v0cStep v0cFrom v0cTo v0cSets v0cBodies v0cStates v1c = some r) : Meets Try.prog [] 88 [(1, .box 42 [.i v0cKind, .i v0cStep, .i v0cFrom, .i v0cTo, .sl 1 (v0cSets.map (eL 1 eI)), .sl 1 (v0cBodies.map eI), .sl 1 (v0cStates.map eS)]), (2, .box 3 [.i v1c])] [.agg (eTask t0), .ptr 1 0, .ptr 2 0] (Is [(1, .box 42 [.i v0cKind, .i v0cStep, .i v0cFrom, .i v0cTo, .sl 1 (v0cSets.map (eL 1 eI)), .sl 1 (v0cBodies.map eI), .sl 1 (v0cStates.map eS)]), (2, .box 3 [.i v1c])] (.b (.one (.bool r)))) := by
 unfold owner_node_results_1_S at h
 refine Meets.intro 16 Try.func88 Try.ntmps88 rfl (by simp) fun E => ?_
 show Tri _ E ⟨16, [1, 2], [1, 2], []⟩ _ ⟨[(0, .b (.agg (eTask t0))), (1, Pt 1 0), (2, Pt 2 0)], [(1, .box 42 [.i v0cKind, .i v0cStep, .i v0cFrom, .i v0cTo, .sl 1 (v0cSets.map (eL 1 eI)), .sl 1 (v0cBodies.map eI), .sl 1 (v0cStates.map eS)]), (2, .box 3 [.i v1c])]⟩ _
 refine Tri.seq (Tri.regionL ?_)
 refine Oc (op_box (k := 101) rfl rfl) (Oc oa ?_)
 refine OpsL.nilS ⟨[(1, Pt 1 0), (2, Pt 2 0), (3, Pt 101 0)], [(1, .box 42 [.i v0cKind, .i v0cStep, .i v0cFrom, .i v0cTo, .sl 1 (v0cSets.map (eL 1 eI)), .sl 1 (v0cBodies.map eI), .sl 1 (v0cStates.map eS)]), (2, .box 3 [.i v1c]), (101, .box 59 (eTask t0))]⟩ rfl (Tri.seq (Tri.regionL ?_))
 refine Oc (op_field_p tyFld59_0 rfl rfl) (Oc (op_load_p1 tyOne3 rfl rfl rfl) (Oc (op_field_p tyFld42_2 rfl rfl) (Oc (op_load_p1 tyOne3 rfl rfl rfl) (Oc (op_eql rfl rfl) (Oc om ?_)))))
 refine CgT (decide (t0.Owner = v0cFrom)) [] (fun g1 => trivial) (fun g1 => op_field_p tyFld59_1 rfl rfl) (OpsL.keepS ⟨[(2, _), (10, B (decide (t0.Owner = v0cFrom))), (11, .opt (decide (t0.Owner = v0cFrom)) (.ptr 101 1))], [(1, _), (2, _), (101, _)]⟩ rfl (CgT (decide (t0.Owner = v0cFrom)) [11] (fun g2 => ⟨g2, trivial⟩) (fun g2 => op_load_p1 tyOne22 rfl rfl rfl) (CgT (decide (t0.Owner = v0cFrom)) [] (fun g3 => trivial) (fun g3 => op_load_p1 tyOne3 rfl rfl rfl) ?_)))
 obtain ⟨x_1, e5, h⟩ := bnd h
 refine CgT (decide (t0.Owner = v0cFrom)) [12, 13] (fun g4 => ⟨g4, g4, trivial⟩) (fun g4 => op_call0 (slices_Contains89_spec (gc e5 g4)) goes89 rfl rfl) (Oc (op_pick_and (fun e => e) rfl rfl rfl rfl) (Oc oa ?_))
 refine OpsL.nilS ⟨[(4, B ((decide (t0.Owner = v0cFrom)) && x_1))], [(1, _), (2, _)]⟩ rfl (Tri.ret ?_)
 obtain rfl := Option.some.inj h
 refine Fin.keepS ⟨[(4, _)], [(1, _), (2, _)]⟩ rfl ?_
 exact Fin.result [.one (.bool ((decide (t0.Owner = v0cFrom)) && x_1))] (.inl rfl) rfl (.cons (.tmp rfl) .nil) ⟨rfl, rfl⟩
def slices_IndexFunc96_S (F : Nat) (s0 : List Task) (f0v0Kind : Int) (f0v0Step : Int) (f0v0From : Int) (f0v0To : Int) (f0v0Sets : List (List Int)) (f0v0Bodies : List Int) (f0v0States : List Str) (f0v1 : Int) : Option Int :=
 Option.bind (iter F (fun x_1 => if (decide (x_1 < (s0.length : Int))) = true then ((idx? s0 x_1).bind fun x_2 => (owner_node_results_1_S F x_2 f0v0Kind f0v0Step f0v0From f0v0To f0v0Sets f0v0Bodies f0v0States f0v1).bind fun x_3 => if x_3 = true then (some (.inr (.inr x_1))) else (some (.inl (IntKind.i64.wrap (x_1 + 1))))) else (some (.inr (.inl ())))) 0) (alt2 (fun _ => some (-1)) (fun y => some y))
theorem slices_IndexFunc96_spec {F : Nat} {s0 : List Task} {f0v0Kind : Int} {f0v0Step : Int} {f0v0From : Int} {f0v0To : Int} {f0v0Sets : List (List Int)} {f0v0Bodies : List Int} {f0v0States : List Str} {f0v1 : Int} {r : Int} (h : slices_IndexFunc96_S F s0 f0v0Kind f0v0Step f0v0From f0v0To f0v0Sets f0v0Bodies f0v0States f0v1 = some r) : Meets Try.prog [] 96 [(1, .box 42 [.i f0v0Kind, .i f0v0Step, .i f0v0From, .i f0v0To, .sl 1 (f0v0Sets.map (eL 1 eI)), .sl 1 (f0v0Bodies.map eI), .sl 1 (f0v0States.map eS)]), (2, .box 3 [.i f0v1])] [.one (.sl 3 (s0.map eTask)), .clo 88 [] [.ptr 1 0, .ptr 2 0]] (Is [(1, .box 42 [.i f0v0Kind, .i f0v0Step, .i f0v0From, .i f0v0To, .sl 1 (f0v0Sets.map (eL 1 eI)), .sl 1 (f0v0Bodies.map eI), .sl 1 (f0v0States.map eS)]), (2, .box 3 [.i f0v1])] (.b (.one (.i r)))) := by
 unfold slices_IndexFunc96_S at h
 refine Meets.intro 19 Try.func96 Try.ntmps96 rfl (by simp) fun E => ?_
 show Tri _ E ⟨19, [1, 2], [1, 2], []⟩ _ ⟨[(0, .b (.one (.sl 3 (s0.map eTask)))), (1, .b (.clo 88 [] [.ptr 1 0, .ptr 2 0]))], [(1, .box 42 [.i f0v0Kind, .i f0v0Step, .i f0v0From, .i f0v0To, .sl 1 (f0v0Sets.map (eL 1 eI)), .sl 1 (f0v0Bodies.map eI), .sl 1 (f0v0States.map eS)]), (2, .box 3 [.i f0v1])]⟩ _
 refine Tri.seq (Tri.regionL ?_)
 refine Oc oa (OpsL.nilS ⟨[(0, .b (.one (.sl 3 (s0.map eTask)))), (1, .b (.clo 88 [] [.ptr 1 0, .ptr 2 0]))], [(1, .box 42 [.i f0v0Kind, .i f0v0Step, .i f0v0From, .i f0v0To, .sl 1 (f0v0Sets.map (eL 1 eI)), .sl 1 (f0v0Bodies.map eI), .sl 1 (f0v0States.map eS)]), (2, .box 3 [.i f0v1])]⟩ rfl ?_)
 obtain ⟨v1, h2, h⟩ := bnd h
 refine Tri.seqJ (v := v1) (fun (_ : Unit) => ⟨[], [(1, .box 42 [.i f0v0Kind, .i f0v0Step, .i f0v0From, .i f0v0To, .sl 1 (f0v0Sets.map (eL 1 eI)), .sl 1 (f0v0Bodies.map eI), .sl 1 (f0v0States.map eS)]), (2, .box 3 [.i f0v1])]⟩) (fun z => .inl z) ?_ ?_
 ·refine Tri.seq (Tri.regionL ?_)
  refine Oc om (Oc (op_len_e' und29 rfl (List.length_map _)) (Oc om ?_))
  refine OpsL.nilS ⟨[(0, _), (1, _), (7, I (s0.length : Int)), (8, I 0)], [(1, _), (2, _)]⟩ rfl (Tri.block (Tri.loopJ h2 (fun (x_1 : Int) => ⟨[(0, .b (.one (.sl 3 (s0.map eTask)))), (1, .b (.clo 88 [] [.ptr 1 0, .ptr 2 0])), (7, I (s0.length : Int)), (8, I x_1)], [(1, .box 42 [.i f0v0Kind, .i f0v0Step, .i f0v0From, .i f0v0To, .sl 1 (f0v0Sets.map (eL 1 eI)), .sl 1 (f0v0Bodies.map eI), .sl 1 (f0v0States.map eS)]), (2, .box 3 [.i f0v1])]⟩) [0, 1, 7, 8] [1, 2] rfl ?_))
  rintro x_1 o3 h4 hy5
  refine Tri.seq (Tri.regionL ?_)
  refine Oc (op_lss rfl rfl) (OpsL.nilS ⟨[(0, _), (1, _), (7, _), (8, _), (9, B (decide (x_1 < (s0.length : Int))))], [(1, _), (2, _)]⟩ rfl (Tri.seq (Tri.ite h4 rfl (fun _ h4 => ?_) (fun _ h4 => ?_))))
  ·refine Tri.skip (Fin.keepS ⟨[(0, _), (1, _), (7, _), (8, _)], [(1, _), (2, _)]⟩ rfl (Fin.then (Tri.seq (Tri.block (Tri.seq (Tri.regionL ?_))))))
   refine Oc om (Oc oa ?_)
   refine OpsL.nilS ⟨[(0, _), (1, _), (5, I x_1), (7, _), (8, _)], [(1, _), (2, _)]⟩ rfl (Tri.seq (Tri.regionL ?_))
   refine Oc om (Oc om (Oc om ?_))
   obtain ⟨x_2, e6, h4⟩ := bnd h4
   refine Oc (op_index_e tySl29 (ix_lo e6) (ix_map (e := eTask) e6) rfl rfl) (Oc (op_load_e tyAgg59 rfl rfl rfl) ?_)
   obtain ⟨x_3, e7, h4⟩ := bnd h4
   refine Oc (op_callc (own_a := [(1, _), (2, _)]) (owner_node_results_1_spec e7) goes88 rfl rfl rfl ⟨rfl, rfl, trivial⟩ rfl rfl) (OpsL.nilS ⟨[(0, _), (1, _), (5, _), (7, _), (8, _), (16, B x_3)], [(1, _), (2, _)]⟩ rfl (Tri.ite h4 rfl (fun _ h4 => ?_) (fun _ h4 => ?_)))
   ·refine Tri.seq (Tri.regionL ?_)
    refine Oc om (Oc oa ?_)
    refine OpsL.nilS ⟨[(4, I x_1)], [(1, _), (2, _)]⟩ rfl (Tri.ret (Fin.block_ret (Fin.then_ret ?_)))
    obtain rfl := hy5 _ (Option.some.inj h4).symm
    refine Fin.then_ret (Fin.block_ret (Fin.then_ret ?_))
    obtain rfl := Option.some.inj h
    refine Fin.keepS ⟨[(4, _)], [(1, _), (2, _)]⟩ rfl ?_
    exact Fin.result [.one (.i x_1)] (.inl rfl) rfl (.cons (.tmp rfl) .nil) ⟨rfl, rfl⟩
   ·refine Tri.skip (Fin.block_normal (Fin.keepS ⟨[(0, _), (1, _), (7, _), (8, _)], [(1, _), (2, _)]⟩ rfl (Fin.then (Tri.regionL ?_))))
    refine Oc (op_add rfl rfl) (Oc om ?_)
    refine OpsL.nil ?_
    exact Fin.againJ [0, 1, 7, 8] [1, 2] (IntKind.i64.wrap (x_1 + 1)) (Option.some.inj h4) rfl
  ·refine Tri.exit (Fin.then_exit ?_)
   obtain rfl := hy5 _ (Option.some.inj h4).symm
   refine Fin.then_exit (Fin.block_exit ?_)
   exact Fin.join [] [1, 2] () rfl rfl
 ·rintro _ hv
  subst v1
  refine Tri.seq (Tri.regionL ?_)
  refine Oc oa (OpsL.nilS ⟨[(4, I (-1))], [(1, _), (2, _)]⟩ rfl (Tri.ret ?_))
  obtain rfl := Option.some.inj h
  refine Fin.keepS ⟨[(4, _)], [(1, _), (2, _)]⟩ rfl ?_
  exact Fin.result [.one (.i (-1))] (.inl rfl) rfl (.cons (.tmp rfl) .nil) ⟨rfl, rfl⟩
def slices_ContainsFunc87_S (F : Nat) (s0 : List Task) (f0v0Kind : Int) (f0v0Step : Int) (f0v0From : Int) (f0v0To : Int) (f0v0Sets : List (List Int)) (f0v0Bodies : List Int) (f0v0States : List Str) (f0v1 : Int) : Option Bool :=
 (slices_IndexFunc96_S F s0 f0v0Kind f0v0Step f0v0From f0v0To f0v0Sets f0v0Bodies f0v0States f0v1).bind fun x_1 => some (decide (0 ≤ x_1))
theorem slices_ContainsFunc87_spec {F : Nat} {s0 : List Task} {f0v0Kind : Int} {f0v0Step : Int} {f0v0From : Int} {f0v0To : Int} {f0v0Sets : List (List Int)} {f0v0Bodies : List Int} {f0v0States : List Str} {f0v1 : Int} {r : Bool} (h : slices_ContainsFunc87_S F s0 f0v0Kind f0v0Step f0v0From f0v0To f0v0Sets f0v0Bodies f0v0States f0v1 = some r) : Meets Try.prog [] 87 [(1, .box 42 [.i f0v0Kind, .i f0v0Step, .i f0v0From, .i f0v0To, .sl 1 (f0v0Sets.map (eL 1 eI)), .sl 1 (f0v0Bodies.map eI), .sl 1 (f0v0States.map eS)]), (2, .box 3 [.i f0v1])] [.one (.sl 3 (s0.map eTask)), .clo 88 [] [.ptr 1 0, .ptr 2 0]] (Is [(1, .box 42 [.i f0v0Kind, .i f0v0Step, .i f0v0From, .i f0v0To, .sl 1 (f0v0Sets.map (eL 1 eI)), .sl 1 (f0v0Bodies.map eI), .sl 1 (f0v0States.map eS)]), (2, .box 3 [.i f0v1])] (.b (.one (.bool r)))) := by
 unfold slices_ContainsFunc87_S at h
 refine Meets.intro 9 Try.func87 Try.ntmps87 rfl (by simp) fun E => ?_
 show Tri _ E ⟨9, [1, 2], [1, 2], []⟩ _ ⟨[(0, .b (.one (.sl 3 (s0.map eTask)))), (1, .b (.clo 88 [] [.ptr 1 0, .ptr 2 0]))], [(1, .box 42 [.i f0v0Kind, .i f0v0Step, .i f0v0From, .i f0v0To, .sl 1 (f0v0Sets.map (eL 1 eI)), .sl 1 (f0v0Bodies.map eI), .sl 1 (f0v0States.map eS)]), (2, .box 3 [.i f0v1])]⟩ _
 refine Tri.seq (Tri.regionL ?_)
 refine Oc oa (OpsL.nilS ⟨[(0, .b (.one (.sl 3 (s0.map eTask)))), (1, .b (.clo 88 [] [.ptr 1 0, .ptr 2 0]))], [(1, .box 42 [.i f0v0Kind, .i f0v0Step, .i f0v0From, .i f0v0To, .sl 1 (f0v0Sets.map (eL 1 eI)), .sl 1 (f0v0Bodies.map eI), .sl 1 (f0v0States.map eS)]), (2, .box 3 [.i f0v1])]⟩ rfl (Tri.seq (Tri.regionL ?_)))
 refine Oc om (Oc om ?_)
 obtain ⟨x_1, e1, h⟩ := bnd h
 refine Oc (op_call (own_a := [(1, _), (2, _)]) (slices_IndexFunc96_spec e1) goes96 rfl ⟨rfl, rfl, trivial⟩ rfl rfl) (Oc (op_geq rfl rfl) (Oc oa ?_))
 refine OpsL.nilS ⟨[(4, B (decide (0 ≤ x_1)))], [(1, _), (2, _)]⟩ rfl (Tri.ret ?_)
 obtain rfl := Option.some.inj h
 refine Fin.keepS ⟨[(4, _)], [(1, _), (2, _)]⟩ rfl ?_
 exact Fin.result [.one (.bool (decide (0 ≤ x_1)))] (.inl rfl) rfl (.cons (.tmp rfl) .nil) ⟨rfl, rfl⟩
def owner_node_results_S (F : Nat) (l0 : Notice) (n0r : Round) (n0out : List Notice) : Option Round :=
 (owner_node_isFull_S F l0 n0r.Me n0r n0out).bind fun x_1 => (gcall (!(!x_1)) (slices_Contains_S F n0r.Heard false)).bind fun x_2 => if ((!x_1) || x_2) = true then (some n0r) else (Option.bind (iter F (fun x_3 => if (decide (x_3 < (l0.Bodies.length : Int))) = true then ((idx? l0.Bodies x_3).bind fun x_4 => (slices_ContainsFunc87_S F n0r.Tasks l0.Kind l0.Step l0.From l0.To l0.Sets l0.Bodies l0.States x_4).bind fun x_5 => if (!x_5) = true then (some (.inr (.inr n0r))) else (some (.inl (IntKind.i64.wrap (x_3 + 1))))) else (some (.inr (.inl ())))) 0) (alt2 (fun _ => (owner_learn_S F n0r.Results l0.Bodies l0.States).bind fun x_6 => some (⟨n0r.Me, n0r.Regions, n0r.Step, n0r.Home, n0r.Heard, n0r.Sets, n0r.States, n0r.Tasks, n0r.Done, x_6⟩ : Round)) (fun y => some y)))
theorem owner_node_results_spec {F : Nat} {l0 : Notice} {n0r : Round} {n0out : List Notice} {r : Round} (h : owner_node_results_S F l0 n0r n0out = some r) : Meets Try.prog [] 64 [(1, .xbox 95 [.one (.i n0r.Me), .one (.i n0r.Regions), .one (.i n0r.Step), .one (.sl 1 (n0r.Home.map eI)), .one (.sl 1 (n0r.Heard.map eB)), .one (.sl 1 (n0r.Sets.map (eL 1 eI))), .one (.sl 1 (n0r.States.map eS)), .one (.sl 3 (n0r.Tasks.map eTask)), .one (.sl 1 (n0r.Done.map eB)), .one (.sl 1 (n0r.Results.map eS)), .row 2]), (2, .row 42 7 (n0out.map eNotice))] [.ptr 1 0, .agg (eNotice l0)] (Is [(1, .xbox 95 [.one (.i r.Me), .one (.i r.Regions), .one (.i r.Step), .one (.sl 1 (r.Home.map eI)), .one (.sl 1 (r.Heard.map eB)), .one (.sl 1 (r.Sets.map (eL 1 eI))), .one (.sl 1 (r.States.map eS)), .one (.sl 3 (r.Tasks.map eTask)), .one (.sl 1 (r.Done.map eB)), .one (.sl 1 (r.Results.map eS)), .row 2]), (2, .row 42 7 (n0out.map eNotice))] (.tup [])) := by
 unfold owner_node_results_S at h
 refine Meets.intro 53 Try.func64 Try.ntmps64 rfl (by simp) fun E => ?_
 show Tri _ E ⟨53, [1], [1, 2], []⟩ _ ⟨[(0, Pt 1 0), (1, .b (.agg (eNotice l0)))], [(1, .xbox 95 [.one (.i n0r.Me), .one (.i n0r.Regions), .one (.i n0r.Step), .one (.sl 1 (n0r.Home.map eI)), .one (.sl 1 (n0r.Heard.map eB)), .one (.sl 1 (n0r.Sets.map (eL 1 eI))), .one (.sl 1 (n0r.States.map eS)), .one (.sl 3 (n0r.Tasks.map eTask)), .one (.sl 1 (n0r.Done.map eB)), .one (.sl 1 (n0r.Results.map eS)), .row 2]), (2, .row 42 7 (n0out.map eNotice))]⟩ _
 refine Tri.seq (Tri.regionL ?_)
 refine Oc (op_box (k := 101) rfl rfl) (OpsL.nilS ⟨[(0, Pt 1 0), (3, Pt 101 0)], [(1, .xbox 95 [.one (.i n0r.Me), .one (.i n0r.Regions), .one (.i n0r.Step), .one (.sl 1 (n0r.Home.map eI)), .one (.sl 1 (n0r.Heard.map eB)), .one (.sl 1 (n0r.Sets.map (eL 1 eI))), .one (.sl 1 (n0r.States.map eS)), .one (.sl 3 (n0r.Tasks.map eTask)), .one (.sl 1 (n0r.Done.map eB)), .one (.sl 1 (n0r.Results.map eS)), .row 2]), (2, .row 42 7 (n0out.map eNotice)), (101, .box 42 (eNotice l0))]⟩ rfl (Tri.seq (Tri.seq ?_)))
 refine Tri.keepS ⟨[(0, _), (3, _)], [(1, _), (2, _), (101, _)]⟩ rfl ?_
 obtain ⟨x_1, e1, h⟩ := bnd h
 obtain ⟨x_2, e8, h⟩ := bnd h
 refine Tri.regionY mixed 7 [Pt 1 0, .b (.agg (eNotice l0)), Pt 1 0, Pt 1 0, Pt 1 0, Pt 1 0, I n0r.Me] [0, 3, 22] [1, 2, 101] (s' := ⟨[(0, _), (3, _), (22, B ((!x_1) || x_2))], [(1, _), (2, _), (101, _)]⟩) rfl ⟨fun _ => .p om, fun _ => .p (lp tyAgg42), fun _ => .p om, fun _ => .p (op_nilCheck_p rfl), fun _ => .p (op_field_p tyFld95_0 rfl rfl), fun _ => .p (op_field_p tyFld31_0 rfl rfl), fun _ => .p (op_load_x1 tyOne3 rfl rfl rfl), trivial⟩ ⟨_, by exact .p (op_call (own_a := [(1, _), (2, _)]) (owner_node_isFull_spec e1) goes86 rfl ⟨rfl, rfl, trivial⟩ rfl rfl), ⟨_, by exact .p (op_not rfl), ⟨_, by exact .p om, ⟨_, by exact .guard (!(!x_1)) 1 [] (.plain rfl) (eq_f _) rfl rfl (fun g2 => trivial) (fun g2 => om), ⟨_, by exact .guard (!(!x_1)) 2 [16] (.plain rfl) (eq_f _) rfl rfl (fun g3 => ⟨g3, trivial⟩) (fun g3 => op_nilCheck_p rfl), ⟨_, by exact .guard (!(!x_1)) 2 [17] (.plain rfl) (eq_f _) rfl rfl (fun g4 => ⟨g4, trivial⟩) (fun g4 => op_field_p tyFld95_0 rfl rfl), ⟨_, by exact .guard (!(!x_1)) 2 [18] (.plain rfl) (eq_f _) rfl rfl (fun g5 => ⟨g5, trivial⟩) (fun g5 => op_field_p tyFld31_4 rfl rfl), ⟨_, by exact .guard (!(!x_1)) 2 [19] (.plain rfl) (eq_f _) rfl rfl (fun g6 => ⟨g6, trivial⟩) (fun g6 => op_load_x1 tyOne28 rfl rfl rfl), ⟨_, by exact .guard (!(!x_1)) 3 [20] (.plain rfl) (eq_f _) rfl rfl (fun g7 => ⟨g7, trivial⟩) (fun g7 => op_call0 (slices_Contains_spec (gc e8 g7)) goes68 rfl rfl), ⟨_, by exact .p (op_pick_or (fun e => by first | (rw [e]; rfl) | (simp only at e; rw [e]; rfl)) rfl rfl rfl rfl), rfl⟩⟩⟩⟩⟩⟩⟩⟩⟩⟩ rfl (Tri.ite h rfl (fun _ h => ?_) (fun _ h => ?_))
 ·refine Tri.ret (Fin.then_ret ?_)
  obtain rfl := Option.some.inj h
  refine Fin.keepS ⟨[], [(1, _), (2, _)]⟩ rfl ?_
  exact Fin.result [] (.inl rfl) rfl (.nil) ⟨rfl, rfl⟩
 ·refine Tri.skip (Fin.keepS ⟨[(0, _), (3, _)], [(1, _), (2, _), (101, _)]⟩ rfl (Fin.then ?_))
  obtain ⟨v9, h10, h⟩ := bnd h
  refine Tri.seqJ (v := v9) (fun (_ : Unit) => ⟨[(0, Pt 1 0), (3, Pt 101 0)], [(1, .xbox 95 [.one (.i n0r.Me), .one (.i n0r.Regions), .one (.i n0r.Step), .one (.sl 1 (n0r.Home.map eI)), .one (.sl 1 (n0r.Heard.map eB)), .one (.sl 1 (n0r.Sets.map (eL 1 eI))), .one (.sl 1 (n0r.States.map eS)), .one (.sl 3 (n0r.Tasks.map eTask)), .one (.sl 1 (n0r.Done.map eB)), .one (.sl 1 (n0r.Results.map eS)), .row 2]), (2, .row 42 7 (n0out.map eNotice)), (101, .box 42 (eNotice l0))]⟩) (fun z => .inl z) ?_ ?_
  ·refine Tri.seq (Tri.regionL ?_)
   refine Oc (op_field_p tyFld42_5 rfl rfl) (Oc (op_load_p1 tyOne22 rfl rfl rfl) (Oc (op_len_e' und22 rfl (List.length_map _)) (Oc om ?_)))
   refine OpsL.nilS ⟨[(0, _), (3, _), (24, .b (.one (.sl 1 (l0.Bodies.map eI)))), (25, I (l0.Bodies.length : Int)), (26, I 0)], [(1, _), (2, _), (101, _)]⟩ rfl (Tri.block (Tri.loopJ h10 (fun (x_3 : Int) => ⟨[(0, Pt 1 0), (3, Pt 101 0), (24, .b (.one (.sl 1 (l0.Bodies.map eI)))), (25, I (l0.Bodies.length : Int)), (26, I x_3)], [(1, .xbox 95 [.one (.i n0r.Me), .one (.i n0r.Regions), .one (.i n0r.Step), .one (.sl 1 (n0r.Home.map eI)), .one (.sl 1 (n0r.Heard.map eB)), .one (.sl 1 (n0r.Sets.map (eL 1 eI))), .one (.sl 1 (n0r.States.map eS)), .one (.sl 3 (n0r.Tasks.map eTask)), .one (.sl 1 (n0r.Done.map eB)), .one (.sl 1 (n0r.Results.map eS)), .row 2]), (2, .row 42 7 (n0out.map eNotice)), (101, .box 42 (eNotice l0))]⟩) [0, 3, 24, 25, 26] [1, 2, 101] rfl ?_))
   rintro x_3 o11 h12 hy13
   refine Tri.seq (Tri.regionL ?_)
   refine Oc (op_lss rfl rfl) (OpsL.nilS ⟨[(0, _), (3, _), (24, _), (25, _), (26, _), (27, B (decide (x_3 < (l0.Bodies.length : Int))))], [(1, _), (2, _), (101, _)]⟩ rfl (Tri.seq (Tri.ite h12 rfl (fun _ h12 => ?_) (fun _ h12 => ?_))))
   ·refine Tri.skip (Fin.keepS ⟨[(0, _), (3, _), (24, _), (25, _), (26, _)], [(1, _), (2, _), (101, _)]⟩ rfl (Fin.then (Tri.seq (Tri.block (Tri.seq (Tri.regionL ?_))))))
    obtain ⟨x_4, e14, h12⟩ := bnd h12
    refine Oc (op_index_e tySl22 (ix_lo e14) (ix_map (e := eI) e14) rfl rfl) (Oc (op_load_e1 tyOne3 rfl rfl) (Oc (op_alloc (k := 102) tyZero3 rfl) (Oc (op_store_p1 tyOne3 rfl rfl rfl (Nat.le_of_ble_eq_true rfl) rfl) ?_)))
    refine OpsL.nilS ⟨[(0, _), (3, _), (5, Pt 102 0), (24, _), (25, _), (26, _)], [(1, _), (2, _), (101, _), (102, .box 3 [.i x_4])]⟩ rfl (Tri.seq (Tri.regionL ?_))
    refine Oc om (Oc (op_nilCheck_p rfl) (Oc (op_field_p tyFld95_0 rfl rfl) (Oc (op_field_p tyFld31_7 rfl rfl) (Oc (op_load_x1 tyOne29 rfl rfl rfl) (Oc (op_makeFunc rfl rfl) ?_)))))
    obtain ⟨x_5, e15, h12⟩ := bnd h12
    refine Oc (op_call (own_a := [(101, _), (102, _)]) (((slices_ContainsFunc87_spec e15).sw 1 101).sw 2 102) goes87 rfl ⟨rfl, rfl, trivial⟩ rfl rfl) (Oc (op_not rfl) ?_)
    refine OpsL.nilS ⟨[(0, _), (3, _), (24, _), (25, _), (26, _), (37, B (!x_5))], [(1, _), (2, _), (101, _)]⟩ rfl (Tri.ite h12 rfl (fun _ h12 => ?_) (fun _ h12 => ?_))
    ·refine Tri.ret (Fin.block_ret (Fin.then_ret ?_))
     obtain rfl := hy13 _ (Option.some.inj h12).symm
     refine Fin.then_ret (Fin.block_ret (Fin.then_ret ?_))
     obtain rfl := Option.some.inj h
     refine Fin.keepS ⟨[], [(1, _), (2, _)]⟩ rfl ?_
     exact Fin.result [] (.inl rfl) rfl (.nil) ⟨rfl, rfl⟩
    ·refine Tri.skip (Fin.block_normal (Fin.keepS ⟨[(0, _), (3, _), (24, _), (25, _), (26, _)], [(1, _), (2, _), (101, _)]⟩ rfl (Fin.then (Tri.regionL ?_))))
     refine Oc (op_add rfl rfl) (Oc om ?_)
     refine OpsL.nil ?_
     exact Fin.againJ [0, 3, 24, 25, 26] [1, 2, 101] (IntKind.i64.wrap (x_3 + 1)) (Option.some.inj h12) rfl
   ·refine Tri.exit (Fin.then_exit ?_)
    obtain rfl := hy13 _ (Option.some.inj h12).symm
    refine Fin.then_exit (Fin.block_exit ?_)
    exact Fin.join [0, 3] [1, 2, 101] () rfl rfl
  ·rintro _ hv
   subst v9
   refine Tri.keepS ⟨[(0, _), (3, _)], [(1, _), (2, _), (101, _)]⟩ rfl ?_
   obtain ⟨x_6, e16, h⟩ := bnd h
   refine Tri.regionYF mixed 14 [Pt 1 0, Pt 1 0, Pt 1 0, Pt 1 0, Pt 1 9, .b (.one (.sl 1 (n0r.Results.map eS))), Pt 101 5, .b (.one (.sl 1 (l0.Bodies.map eI))), Pt 101 6, .b (.one (.sl 1 (l0.States.map eS))), .b (.one (.sl 1 (x_6.map eS))), Pt 1 0, Pt 1 0, Pt 1 9] [] [1, 2] (s' := ⟨[], [(1, .xbox 95 [.one (.i n0r.Me), .one (.i n0r.Regions), .one (.i n0r.Step), .one (.sl 1 (n0r.Home.map eI)), .one (.sl 1 (n0r.Heard.map eB)), .one (.sl 1 (n0r.Sets.map (eL 1 eI))), .one (.sl 1 (n0r.States.map eS)), .one (.sl 3 (n0r.Tasks.map eTask)), .one (.sl 1 (n0r.Done.map eB)), .one (.sl 1 (x_6.map eS)), .row 2]), (2, _)]⟩) rfl ⟨fun _ => .p om, fun _ => .p om, fun _ => .p (op_nilCheck_p rfl), fun _ => .p (op_field_p tyFld95_0 rfl rfl), fun _ => .p (op_field_p tyFld31_9 rfl rfl), fun _ => .p (op_load_x1 tyOne24 rfl rfl rfl), fun _ => .p (op_field_p tyFld42_5 rfl rfl), fun _ => .p (op_load_p1 tyOne22 rfl rfl rfl), fun _ => .p (op_field_p tyFld42_6 rfl rfl), fun _ => .p (op_load_p1 tyOne24 rfl rfl rfl), fun _ => .p (op_call0 (owner_learn_spec 0 e16).persG goes54 rfl rfl), fun _ => .p (op_nilCheck_p rfl), fun _ => .p (op_field_p tyFld95_0 rfl rfl), fun _ => .p (op_field_p tyFld31_9 rfl rfl), trivial⟩ ⟨_, by exact .p (op_store_x1 tyOne24 rfl rfl rfl rfl (Nat.le_of_ble_eq_true rfl) rfl), rfl⟩ rfl ?_
   obtain rfl := Option.some.inj h
   refine Fin.keepS ⟨[], [(1, _), (2, _)]⟩ rfl ?_
   exact Fin.result [] (.inr rfl) rfl (.nil) ⟨rfl, rfl⟩
def owner_Hear_S (F : Nat) (r0 : Round) (l0 : Notice) : Option (Round × (List Notice)) :=
 letN (((decide (l0.To ≠ r0.Me)) || (decide (l0.Step ≠ r0.Step))) || (decide (l0.From = r0.Me))) fun x_1 => letN ((x_1 || (decide (l0.From < 0))) || (decide (r0.Regions ≤ l0.From))) fun x_2 => if x_2 = true then (some (r0, [])) else (Option.bind (if decide (l0.Kind = 1) = true then (Option.bind (owner_node_sets_S F l0 r0 []) (un2 fun x_14 x_15 => some (x_14.Me, x_14.Regions, x_14.Step, x_14.Home, x_14.Heard, x_14.Sets, x_14.States, x_14.Tasks, x_14.Done, x_14.Results, x_15))) else (if decide (l0.Kind = 2) = true then ((owner_node_states_S F l0 r0 []).bind fun x_16 => some (x_16.Me, x_16.Regions, x_16.Step, x_16.Home, x_16.Heard, x_16.Sets, x_16.States, x_16.Tasks, x_16.Done, x_16.Results, [])) else (if decide (l0.Kind = 3) = true then ((owner_node_results_S F l0 r0 []).bind fun x_17 => some (x_17.Me, x_17.Regions, x_17.Step, x_17.Home, x_17.Heard, x_17.Sets, x_17.States, x_17.Tasks, x_17.Done, x_17.Results, [])) else (some (r0.Me, r0.Regions, r0.Step, r0.Home, r0.Heard, r0.Sets, r0.States, r0.Tasks, r0.Done, r0.Results, []))))) (un11 fun r_3 nf1_4 nf2_5 nf3_6 nf4_7 nf5_8 nf6_9 nf7_10 nf8_11 nf9_12 out_13 => some ((⟨r_3, nf1_4, nf2_5, nf3_6, nf4_7, nf5_8, nf6_9, nf7_10, nf8_11, nf9_12⟩ : Round), out_13)))
theorem owner_Hear_spec (kr0 : Nat) {F : Nat} {r0 : Round} {l0 : Notice} {r : Round × (List Notice)} (h : owner_Hear_S F r0 l0 = some r) : Meets Try.prog [] 17 [] [.agg (eRound r0), .agg (eNotice l0)] (Is [(kr0, .row 42 7 (r.2.map eNotice))] (.tup [.agg (eRound r.1), .row kr0])) := by
 unfold owner_Hear_S at h
 refine Meets.intro 67 Try.func17 Try.ntmps17 rfl (by simp) fun E => ?_
 show Tri _ E ⟨67, [], [], []⟩ _ ⟨[(0, .b (.agg (eRound r0))), (1, .b (.agg (eNotice l0)))], []⟩ _
 refine Tri.seq (Tri.regionL ?_)
 refine Oc (op_box (k := 101) rfl rfl) (Oc (op_box (k := 102) rfl rfl) (Oc (op_alloc (k := 103) tyZero31 rfl) (Oc oa ?_)))
 refine OpsL.nilS ⟨[(2, Pt 101 0), (3, Pt 102 0), (4, Pt 103 0)], [(101, .box 31 (eRound r0)), (102, .box 42 (eNotice l0)), (103, .box 31 [.i 0, .i 0, .i 0, .nil, .nil, .nil, .nil, .nil, .nil, .nil])]⟩ rfl (Tri.seq (Tri.seq (Tri.regionL ?_)))
 refine Oc (op_field_p tyFld42_3 rfl rfl) (Oc (op_load_p1 tyOne3 rfl rfl rfl) (Oc (op_field_p tyFld31_0 rfl rfl) (Oc (op_load_p1 tyOne3 rfl rfl rfl) (Oc (op_neq rfl rfl) (Oc om ?_)))))
 refine CgF (!(decide (l0.To ≠ r0.Me))) [] (fun g1 => trivial) (fun g1 => op_field_p tyFld42_1 rfl rfl) (OpsL.keepS ⟨[(2, _), (3, _), (4, _), (13, B (decide (l0.To ≠ r0.Me))), (14, .opt (!(decide (l0.To ≠ r0.Me))) (.ptr 102 1))], [(101, _), (102, _), (103, _)]⟩ rfl (CgF (!(decide (l0.To ≠ r0.Me))) [14] (fun g2 => ⟨g2, trivial⟩) (fun g2 => op_load_p1 tyOne3 rfl rfl rfl) (CgF (!(decide (l0.To ≠ r0.Me))) [] (fun g3 => trivial) (fun g3 => op_field_p tyFld31_2 rfl rfl) (CgF (!(decide (l0.To ≠ r0.Me))) [16] (fun g4 => ⟨g4, trivial⟩) (fun g4 => op_load_p1 tyOne3 rfl rfl rfl) (CgF (!(decide (l0.To ≠ r0.Me))) [15, 17] (fun g5 => ⟨g5, g5, trivial⟩) (fun g5 => op_neq rfl rfl) ?_)))))
 refine Oc (op_pick_or (fun e => by first | (rw [e]; rfl) | (simp only at e; rw [e]; rfl)) rfl rfl rfl rfl) (Oc om ?_)
 refine CgF (!((decide (l0.To ≠ r0.Me)) || (decide (l0.Step ≠ r0.Step)))) [] (fun g6 => trivial) (fun g6 => op_field_p tyFld42_2 rfl rfl) (CgF (!((decide (l0.To ≠ r0.Me)) || (decide (l0.Step ≠ r0.Step)))) [21] (fun g7 => ⟨g7, trivial⟩) (fun g7 => op_load_p1 tyOne3 rfl rfl rfl) (OpsL.keepS ⟨[(2, _), (3, _), (4, _), (20, B ((decide (l0.To ≠ r0.Me)) || (decide (l0.Step ≠ r0.Step)))), (22, .opt (!((decide (l0.To ≠ r0.Me)) || (decide (l0.Step ≠ r0.Step)))) (.one (.i l0.From)))], [(101, _), (102, _), (103, _)]⟩ rfl (CgF (!((decide (l0.To ≠ r0.Me)) || (decide (l0.Step ≠ r0.Step)))) [] (fun g8 => trivial) (fun g8 => op_field_p tyFld31_0 rfl rfl) (CgF (!((decide (l0.To ≠ r0.Me)) || (decide (l0.Step ≠ r0.Step)))) [23] (fun g9 => ⟨g9, trivial⟩) (fun g9 => op_load_p1 tyOne3 rfl rfl rfl) (CgF (!((decide (l0.To ≠ r0.Me)) || (decide (l0.Step ≠ r0.Step)))) [22, 24] (fun g10 => ⟨g10, g10, trivial⟩) (fun g10 => op_eql rfl rfl) ?_)))))
 refine OpsL.consB h rfl (op_pick_or (fun e => by first | (rw [e]; rfl) | (simp only at e; rw [e]; rfl)) rfl rfl rfl rfl) (fun x_1 h => ?_)
 refine Oc om (CgF (!x_1) [] (fun g11 => by exact trivial) (fun g11 => op_field_p tyFld42_2 rfl rfl) (CgF (!x_1) [28] (fun g12 => by exact ⟨g12, trivial⟩) (fun g12 => op_load_p1 tyOne3 rfl rfl rfl) (CgF (!x_1) [29] (fun g13 => by exact ⟨g13, trivial⟩) (fun g13 => op_lss rfl rfl) (OpsL.keepS ⟨[(2, _), (3, _), (4, _), (27, B x_1), (30, .opt (!x_1) (.one (.bool (decide (l0.From < 0)))))], [(101, _), (102, _), (103, _)]⟩ rfl (Oc (op_pick_or (fun e => by first | (rw [e]; rfl) | (simp only at e; rw [e]; rfl)) rfl rfl rfl rfl) (Oc om ?_))))))
 refine CgF (!(x_1 || (decide (l0.From < 0)))) [] (fun g14 => trivial) (fun g14 => op_field_p tyFld42_2 rfl rfl) (CgF (!(x_1 || (decide (l0.From < 0)))) [33] (fun g15 => ⟨g15, trivial⟩) (fun g15 => op_load_p1 tyOne3 rfl rfl rfl) (CgF (!(x_1 || (decide (l0.From < 0)))) [] (fun g16 => trivial) (fun g16 => op_field_p tyFld31_1 rfl rfl) (CgF (!(x_1 || (decide (l0.From < 0)))) [35] (fun g17 => ⟨g17, trivial⟩) (fun g17 => op_load_p1 tyOne3 rfl rfl rfl) (CgF (!(x_1 || (decide (l0.From < 0)))) [34, 36] (fun g18 => ⟨g18, g18, trivial⟩) (fun g18 => op_geq rfl rfl) (OpsL.consB h rfl (op_pick_or (fun e => by first | (rw [e]; rfl) | (simp only at e; rw [e]; rfl)) rfl rfl rfl rfl) (fun x_2 h => ?_))))))
 refine OpsL.nilS ⟨[(2, _), (3, _), (4, _), (38, B x_2)], [(101, _), (102, _), (103, _)]⟩ rfl (Tri.ite h rfl (fun _ h => ?_) (fun _ h => ?_))
 ·refine Tri.seq (Tri.regionL ?_)
  refine Oc (lp tyAgg31) (Oc (op_store_p tyAgg31 rfl rfl rfl rfl (Nat.le_of_ble_eq_true rfl) rfl) (Oc oa ?_))
  refine OpsL.nilS ⟨[(4, _), (5, .b (.one (.nil)))], [(103, .box 31 (eRound r0))]⟩ rfl (Tri.ret (Fin.then_ret ?_))
  obtain rfl := Option.some.inj h
  refine Fin.keepS ⟨[(4, _), (5, _)], [(103, _)]⟩ rfl (Fin.nilrow 5 104 7 42 rfl (by decide) rfl (Fin.resultK 104 kr0 [.agg (eRound r0), .row 104] (.inl rfl) rfl (.cons (.agg tyAgg31 rfl rfl rfl rfl) (.cons (.tmp rfl) .nil)) rfl rfl rfl rfl ⟨rfl, rfl⟩))
 ·refine Tri.skip (Fin.keepS ⟨[(2, _), (3, _), (4, _)], [(101, _), (102, _), (103, _)]⟩ rfl (Fin.then (Tri.seq (Tri.regionL ?_))))
  refine Oc (lp tyAgg31) (Oc (op_build tyBuild95 rfl rfl) (Oc (op_box (k := 105) rfl rfl) (Oc oa ?_)))
  refine OpsL.nilS ⟨[(3, _), (4, _), (6, Pt 105 0)], [(102, _), (103, _), (105, .box 95 (eRound r0 ++ ([.nil])))]⟩ rfl ?_
  obtain ⟨v19, h20, h⟩ := bnd h
  refine Tri.seqJ (v := v19) (un11 fun (r_3 : Int) (nf1_4 : Int) (nf2_5 : Int) (nf3_6 : List Int) (nf4_7 : List Bool) (nf5_8 : List (List Int)) (nf6_9 : List Str) (nf7_10 : List Task) (nf8_11 : List Bool) (nf9_12 : List Str) (out_13 : List Notice) => ⟨[(4, Pt 103 0), (6, Pt 105 0)], [(103, .box 31 [.i 0, .i 0, .i 0, .nil, .nil, .nil, .nil, .nil, .nil, .nil]), (105, .xbox 95 [.one (.i r_3), .one (.i nf1_4), .one (.i nf2_5), .one (.sl 1 (nf3_6.map eI)), .one (.sl 1 (nf4_7.map eB)), .one (.sl 1 (nf5_8.map (eL 1 eI))), .one (.sl 1 (nf6_9.map eS)), .one (.sl 3 (nf7_10.map eTask)), .one (.sl 1 (nf8_11.map eB)), .one (.sl 1 (nf9_12.map eS)), .row 107]), (107, .row 42 7 (out_13.map eNotice))]⟩) (fun z => z) ?_ ?_
  ·refine Tri.seq (Tri.regionL ?_)
   refine Oc (op_makeMap (k := 106) undm111 rfl) (Oc om (Oc (op_makeFunc rfl rfl) (Oc (op_mins (l := []) tyMap111 rfl rfl rfl rfl) (Oc om (Oc (op_makeFunc rfl rfl) ?_)))))
   refine Oc (op_mins (l := [(1, .clo 62 [.ptr 105 0] [])]) tyMap111 rfl rfl rfl rfl) (OpsL.keepS ⟨[(3, _), (4, _), (6, _), (43, .b (.row 106))], [(102, _), (103, _), (105, _), (106, .mp (eM .i64 [(1, .clo 62 [.ptr 105 0] []), (2, .clo 63 [.ptr 105 0] [])]))]⟩ rfl (Oc om (Oc (op_makeFunc rfl rfl) (Oc (op_mins (l := [(1, .clo 62 [.ptr 105 0] []), (2, .clo 63 [.ptr 105 0] [])]) tyMap111 rfl rfl rfl rfl) (Oc om (Oc (op_field_p tyFld42_0 rfl rfl) (Oc (op_load_p1 tyOne3 rfl rfl rfl) ?_)))))))
   refine OpsL.ite h20 (fun hc21 h20 => ?_) (fun hc21 h20 => ?_)
   ·refine Oc (op_mget1 (l := [(1, .clo 62 [.ptr 105 0] []), (2, .clo 63 [.ptr 105 0] []), (3, .clo 64 [.ptr 105 0] [])]) tyMap111 rfl rfl rfl (mget_hit hc21)) (Oc oa ?_)
    refine OpsL.nilS ⟨[(3, _), (4, _), (6, _), (7, .b (.clo 62 [.ptr 105 0] []))], [(102, _), (103, _), (105, _)]⟩ rfl (Tri.seq (Tri.regionL ?_))
    refine Oc om (Oc (op_neq_fn und96 rfl) ?_)
    refine OpsL.nilS ⟨[(3, _), (4, _), (6, _), (7, _), (55, B true)], [(102, _), (103, _), (105, _)]⟩ rfl (Tri.condT rfl (Tri.regionL (Oc om (Oc (lp tyAgg42) ?_))))
    refine OpsL.toX 105 rfl (OpsL.nilrowX 105 10 107 7 42 rfl rfl (by decide) (by decide) rfl ?_)
    obtain ⟨⟨x_14, x_15⟩, e22, h20⟩ := bnd h20
    refine Oc (op_callc (own_a := [(105, _), (107, _)]) (((owner_node_sets_spec e22).sw 1 105).sw 2 107) goes62 rfl rfl rfl ⟨rfl, rfl, trivial⟩ rfl rfl) (OpsL.nil ?_)
    exact Fin.join [4, 6] [103, 105, 107] (x_14.Me, x_14.Regions, x_14.Step, x_14.Home, x_14.Heard, x_14.Sets, x_14.States, x_14.Tasks, x_14.Done, x_14.Results, x_15) (Option.some.inj h20) rfl
   ·refine OpsL.ite h20 (fun hc23 h20 => ?_) (fun hc23 h20 => ?_)
    ·refine Oc (op_mget1 (l := [(1, .clo 62 [.ptr 105 0] []), (2, .clo 63 [.ptr 105 0] []), (3, .clo 64 [.ptr 105 0] [])]) tyMap111 rfl rfl rfl (mget_miss hc21 (mget_hit hc23))) (Oc oa ?_)
     refine OpsL.nilS ⟨[(3, _), (4, _), (6, _), (7, .b (.clo 63 [.ptr 105 0] []))], [(102, _), (103, _), (105, _)]⟩ rfl (Tri.seq (Tri.regionL ?_))
     refine Oc om (Oc (op_neq_fn und96 rfl) ?_)
     refine OpsL.nilS ⟨[(3, _), (4, _), (6, _), (7, _), (55, B true)], [(102, _), (103, _), (105, _)]⟩ rfl (Tri.condT rfl (Tri.regionL (Oc om (Oc (lp tyAgg42) ?_))))
     refine OpsL.toX 105 rfl (OpsL.nilrowX 105 10 108 7 42 rfl rfl (by decide) (by decide) rfl ?_)
     obtain ⟨x_16, e24, h20⟩ := bnd h20
     refine Oc (op_callc (own_a := [(105, _), (108, _)]) (((owner_node_states_spec e24).sw 1 105).sw 2 108) goes63 rfl rfl rfl ⟨rfl, rfl, trivial⟩ rfl rfl) (OpsL.nil (Fin.keepS ⟨[(4, Pt 103 0), (6, Pt 105 0)], [(103, .box 31 [.i 0, .i 0, .i 0, .nil, .nil, .nil, .nil, .nil, .nil, .nil]), (105, .xbox 95 [.one (.i x_16.Me), .one (.i x_16.Regions), .one (.i x_16.Step), .one (.sl 1 (x_16.Home.map eI)), .one (.sl 1 (x_16.Heard.map eB)), .one (.sl 1 (x_16.Sets.map (eL 1 eI))), .one (.sl 1 (x_16.States.map eS)), .one (.sl 3 (x_16.Tasks.map eTask)), .one (.sl 1 (x_16.Done.map eB)), .one (.sl 1 (x_16.Results.map eS)), .row 108]), (108, .row 42 7 ([].map eNotice))]⟩ rfl (Fin.rename 108 107 rfl (by decide) rfl ?_)))
     exact Fin.join [4, 6] [103, 105, 107] (x_16.Me, x_16.Regions, x_16.Step, x_16.Home, x_16.Heard, x_16.Sets, x_16.States, x_16.Tasks, x_16.Done, x_16.Results, []) (Option.some.inj h20) rfl
    ·refine OpsL.ite h20 (fun hc25 h20 => ?_) (fun hc25 h20 => ?_)
     ·refine Oc (op_mget1 (l := [(1, .clo 62 [.ptr 105 0] []), (2, .clo 63 [.ptr 105 0] []), (3, .clo 64 [.ptr 105 0] [])]) tyMap111 rfl rfl rfl (mget_miss hc21 (mget_miss hc23 (mget_hit hc25)))) (Oc oa ?_)
      refine OpsL.nilS ⟨[(3, _), (4, _), (6, _), (7, .b (.clo 64 [.ptr 105 0] []))], [(102, _), (103, _), (105, _)]⟩ rfl (Tri.seq (Tri.regionL ?_))
      refine Oc om (Oc (op_neq_fn und96 rfl) ?_)
      refine OpsL.nilS ⟨[(3, _), (4, _), (6, _), (7, _), (55, B true)], [(102, _), (103, _), (105, _)]⟩ rfl (Tri.condT rfl (Tri.regionL (Oc om (Oc (lp tyAgg42) ?_))))
      refine OpsL.toX 105 rfl (OpsL.nilrowX 105 10 109 7 42 rfl rfl (by decide) (by decide) rfl ?_)
      obtain ⟨x_17, e26, h20⟩ := bnd h20
      refine Oc (op_callc (own_a := [(105, _), (109, _)]) (((owner_node_results_spec e26).sw 1 105).sw 2 109) goes64 rfl rfl rfl ⟨rfl, rfl, trivial⟩ rfl rfl) (OpsL.nil (Fin.keepS ⟨[(4, Pt 103 0), (6, Pt 105 0)], [(103, .box 31 [.i 0, .i 0, .i 0, .nil, .nil, .nil, .nil, .nil, .nil, .nil]), (105, .xbox 95 [.one (.i x_17.Me), .one (.i x_17.Regions), .one (.i x_17.Step), .one (.sl 1 (x_17.Home.map eI)), .one (.sl 1 (x_17.Heard.map eB)), .one (.sl 1 (x_17.Sets.map (eL 1 eI))), .one (.sl 1 (x_17.States.map eS)), .one (.sl 3 (x_17.Tasks.map eTask)), .one (.sl 1 (x_17.Done.map eB)), .one (.sl 1 (x_17.Results.map eS)), .row 109]), (109, .row 42 7 ([].map eNotice))]⟩ rfl (Fin.rename 109 107 rfl (by decide) rfl ?_)))
      exact Fin.join [4, 6] [103, 105, 107] (x_17.Me, x_17.Regions, x_17.Step, x_17.Home, x_17.Heard, x_17.Sets, x_17.States, x_17.Tasks, x_17.Done, x_17.Results, []) (Option.some.inj h20) rfl
     ·refine Oc (op_mget1 (l := [(1, .clo 62 [.ptr 105 0] []), (2, .clo 63 [.ptr 105 0] []), (3, .clo 64 [.ptr 105 0] [])]) tyMap111 rfl rfl rfl (mget_miss hc21 (mget_miss hc23 (mget_miss hc25 rfl)))) (Oc oa ?_)
      refine OpsL.nilS ⟨[(3, _), (4, _), (6, _), (7, .b (.one (.raw .nilFunc)))], [(102, _), (103, _), (105, _)]⟩ rfl (Tri.seq (Tri.regionL ?_))
      refine Oc om (Oc (op_neq_fnil und96 rfl) ?_)
      refine OpsL.nilS ⟨[(3, Pt 102 0), (4, Pt 103 0), (6, Pt 105 0), (7, .b (.one (.raw .nilFunc))), (55, B false)], [(102, .box 42 (eNotice l0)), (103, .box 31 [.i 0, .i 0, .i 0, .nil, .nil, .nil, .nil, .nil, .nil, .nil]), (105, .box 95 (eRound r0 ++ ([.nil])))]⟩ rfl (Tri.condF rfl (Tri.skip (Fin.keepS ⟨[(4, _), (6, _)], [(103, _), (105, _)]⟩ rfl (Fin.toX 105 rfl (Fin.nilrowX 105 10 107 7 42 rfl rfl (by decide) (by decide) rfl ?_)))))
      exact Fin.join [4, 6] [103, 105, 107] (r0.Me, r0.Regions, r0.Step, r0.Home, r0.Heard, r0.Sets, r0.States, r0.Tasks, r0.Done, r0.Results, []) (Option.some.inj h20) rfl
  ·rintro ⟨r_3, nf1_4, nf2_5, nf3_6, nf4_7, nf5_8, nf6_9, nf7_10, nf8_11, nf9_12, out_13⟩ hv
   subst v19
   refine Tri.seq (Tri.keepS ⟨[(4, _), (6, _)], [(103, _), (105, _), (107, _)]⟩ rfl (Tri.regionW mixed [false, false, false, false, false, false, false, false, true, false] [Pt 105 0, Pt 105 0, Pt 105 0, .b (.agg [.i r_3, .i nf1_4, .i nf2_5, .sl 1 (nf3_6.map eI), .sl 1 (nf4_7.map eB), .sl 1 (nf5_8.map (eL 1 eI)), .sl 1 (nf6_9.map eS), .sl 3 (nf7_10.map eTask), .sl 1 (nf8_11.map eB), .sl 1 (nf9_12.map eS)]), Pt 105 0, Pt 105 0, Pt 105 10, .b (.row 107), B true, .b (.row 107)] [⟨[false, false, false, false, false, false, false, false, false, false], [(4, Pt 103 0), (6, Pt 105 0)], [(103, .box 31 [.i 0, .i 0, .i 0, .nil, .nil, .nil, .nil, .nil, .nil, .nil]), (105, .xbox 95 [.one (.i r_3), .one (.i nf1_4), .one (.i nf2_5), .one (.sl 1 (nf3_6.map eI)), .one (.sl 1 (nf4_7.map eB)), .one (.sl 1 (nf5_8.map (eL 1 eI))), .one (.sl 1 (nf6_9.map eS)), .one (.sl 3 (nf7_10.map eTask)), .one (.sl 1 (nf8_11.map eB)), .one (.sl 1 (nf9_12.map eS)), .row 107]), (107, .row 42 7 (out_13.map eNotice))], [true, true, true, true, true, true, true, true, true, true], [], [9]⟩, ⟨[false, false, false, false, false, false, false, false, true, false], [(4, Pt 103 0), (6, Pt 105 0)], [(103, .box 31 [.i r_3, .i nf1_4, .i nf2_5, .sl 1 (nf3_6.map eI), .sl 1 (nf4_7.map eB), .sl 1 (nf5_8.map (eL 1 eI)), .sl 1 (nf6_9.map eS), .sl 3 (nf7_10.map eTask), .sl 1 (nf8_11.map eB), .sl 1 (nf9_12.map eS)]), (105, .xbox 95 [.one (.i r_3), .one (.i nf1_4), .one (.i nf2_5), .one (.sl 1 (nf3_6.map eI)), .one (.sl 1 (nf4_7.map eB)), .one (.sl 1 (nf5_8.map (eL 1 eI))), .one (.sl 1 (nf6_9.map eS)), .one (.sl 3 (nf7_10.map eTask)), .one (.sl 1 (nf8_11.map eB)), .one (.sl 1 (nf9_12.map eS)), .row 107]), (107, .row 42 7 (out_13.map eNotice))], [true, true, true, true, true, true, true, true, true, true], [0, 1, 2, 3, 8], []⟩] rfl (⟨by kernel_rfl, ⟨⟨Pt 105 0, fun _ => rfl, fun _ => .p (by exact op_move rfl)⟩, ⟨Pt 105 0, fun _ => rfl, fun _ => .p (by exact op_nilCheck_p rfl)⟩, ⟨Pt 105 0, fun _ => rfl, fun _ => .p (by exact op_field_p tyFld95_0 rfl rfl)⟩, ⟨.b (.agg [.i r_3, .i nf1_4, .i nf2_5, .sl 1 (nf3_6.map eI), .sl 1 (nf4_7.map eB), .sl 1 (nf5_8.map (eL 1 eI)), .sl 1 (nf6_9.map eS), .sl 3 (nf7_10.map eTask), .sl 1 (nf8_11.map eB), .sl 1 (nf9_12.map eS)]), fun _ => rfl, fun _ => .p (by exact op_load_xp tyAgg31 rfl rfl rfl rfl)⟩, ⟨Pt 105 0, fun _ => rfl, fun _ => .p (by exact op_move rfl)⟩, ⟨Pt 105 0, fun _ => rfl, fun _ => .p (by exact op_nilCheck_p rfl)⟩, ⟨Pt 105 10, fun _ => rfl, fun _ => .p (by exact op_field_p tyFld95_1 rfl rfl)⟩, ⟨.b (.row 107), fun _ => rfl, fun _ => .p (by exact op_load_x1 tyOne32 rfl rfl rfl)⟩, ⟨_, [], .b (.one .any), rfl, (fun e => by simp at e), rfl, rfl, fun _ => .toO [103, 105, 107] (by exact .p (by exact op_store_p tyAgg31 rfl rfl rfl rfl (Nat.le_of_ble_eq_true rfl) rfl)) (by exact rfl)⟩, trivial, trivial⟩, ⟨by kernel_rfl, ⟨trivial, trivial, trivial, trivial, ⟨Pt 105 0, fun _ => rfl, fun _ => .p (by exact op_move rfl)⟩, ⟨Pt 105 0, fun _ => rfl, fun _ => .p (by exact op_nilCheck_p rfl)⟩, ⟨Pt 105 10, fun _ => rfl, fun _ => .p (by exact op_field_p tyFld95_1 rfl rfl)⟩, ⟨.b (.row 107), fun _ => rfl, fun _ => .p (by exact op_load_x1 tyOne32 rfl rfl rfl)⟩, trivial, ⟨.b (.row 107), fun _ => rfl, fun _ => .p (by exact op_assign rfl)⟩, trivial⟩, trivial⟩⟩) rfl rfl rfl [4, 5] [103, 107] (s' := ⟨[(4, _), (5, .b (.row 107))], [(103, .box 31 [.i r_3, .i nf1_4, .i nf2_5, .sl 1 (nf3_6.map eI), .sl 1 (nf4_7.map eB), .sl 1 (nf5_8.map (eL 1 eI)), .sl 1 (nf6_9.map eS), .sl 3 (nf7_10.map eTask), .sl 1 (nf8_11.map eB), .sl 1 (nf9_12.map eS)]), (107, _)]⟩) rfl ?_))
   refine Tri.ret ?_
   obtain rfl := Option.some.inj h
   refine Fin.keepS ⟨[(4, _), (5, _)], [(103, _), (107, _)]⟩ rfl (Fin.resultK 107 kr0 [.agg [.i r_3, .i nf1_4, .i nf2_5, .sl 1 (nf3_6.map eI), .sl 1 (nf4_7.map eB), .sl 1 (nf5_8.map (eL 1 eI)), .sl 1 (nf6_9.map eS), .sl 3 (nf7_10.map eTask), .sl 1 (nf8_11.map eB), .sl 1 (nf9_12.map eS)], .row 107] (.inl rfl) rfl (.cons (.agg tyAgg31 rfl rfl rfl rfl) (.cons (.tmp rfl) .nil)) rfl rfl rfl rfl ⟨rfl, rfl⟩)
def owner_isReady_S (F : Nat) (r0 : Round) (k0 : Int) : Option Bool :=
 (idx? r0.Tasks k0).bind fun x_1 => (gcall (decide (x_1.Owner = r0.Me)) (idx? r0.Done k0)).bind fun x_2 => (gcall ((decide (x_1.Owner = r0.Me)) && (!x_2)) (owner_texts_S F r0.States x_1.Bodies)).bind fun x_3 => (gcall ((decide (x_1.Owner = r0.Me)) && (!x_2)) (slices_Contains51_S F x_3 [])).bind fun x_4 => some (((decide (x_1.Owner = r0.Me)) && (!x_2)) && (!x_4))
theorem owner_isReady_spec {F : Nat} {r0 : Round} {k0 : Int} {r : Bool} (h : owner_isReady_S F r0 k0 = some r) : Meets Try.prog [] 50 [] [.agg (eRound r0), .one (.i k0)] (Is [] (.b (.one (.bool r)))) := by
 unfold owner_isReady_S at h
 refine Meets.intro 33 Try.func50 Try.ntmps50 rfl (by simp) fun E => ?_
 show Tri _ E ⟨33, [], [], []⟩ _ ⟨[(0, .b (.agg (eRound r0))), (1, I k0)], []⟩ _
 refine Tri.seq (Tri.regionL ?_)
 refine Oc (op_box (k := 101) rfl rfl) (Oc oa ?_)
 refine OpsL.nilS ⟨[(1, I k0), (2, Pt 101 0)], [(101, .box 31 (eRound r0))]⟩ rfl (Tri.seq (Tri.regionL ?_))
 refine Oc (op_field_p tyFld31_7 rfl rfl) (Oc (op_load_p1 tyOne29 rfl rfl rfl) (Oc om ?_))
 obtain ⟨x_1, e1, h⟩ := bnd h
 refine Oc (op_index_e tySl29 (ix_lo e1) (ix_map (e := eTask) e1) rfl rfl) (Oc (op_load_e tyAgg59 rfl rfl rfl) (Oc (op_alloc (k := 102) tyZero59 rfl) (Oc (op_store_p tyAgg59 rfl rfl rfl rfl (Nat.le_of_ble_eq_true rfl) rfl) ?_)))
 refine OpsL.nilS ⟨[(1, _), (2, _), (5, Pt 102 0)], [(101, _), (102, .box 59 (eTask x_1))]⟩ rfl (Tri.seq (Tri.regionL ?_))
 refine Oc (op_field_p tyFld59_0 rfl rfl) (Oc (op_load_p1 tyOne3 rfl rfl rfl) (Oc (op_field_p tyFld31_0 rfl rfl) (Oc (op_load_p1 tyOne3 rfl rfl rfl) (Oc (op_eql rfl rfl) (Oc om ?_)))))
 refine CgT (decide (x_1.Owner = r0.Me)) [] (fun g2 => trivial) (fun g2 => op_field_p tyFld31_8 rfl rfl) (OpsL.keepS ⟨[(1, _), (2, _), (5, _), (16, B (decide (x_1.Owner = r0.Me))), (17, .opt (decide (x_1.Owner = r0.Me)) (.ptr 101 8))], [(101, _), (102, _)]⟩ rfl (CgT (decide (x_1.Owner = r0.Me)) [17] (fun g3 => ⟨g3, trivial⟩) (fun g3 => op_load_p1 tyOne28 rfl rfl rfl) (CgT (decide (x_1.Owner = r0.Me)) [] (fun g4 => trivial) (fun g4 => om) ?_)))
 obtain ⟨x_2, e6, h⟩ := bnd h
 refine CgT (decide (x_1.Owner = r0.Me)) [18, 19] (fun g5 => ⟨g5, g5, trivial⟩) (fun g5 => op_index_e tySl28 (ix_lo (gc e6 g5)) (ix_map (e := eB) (gc e6 g5)) rfl rfl) (CgT (decide (x_1.Owner = r0.Me)) [20] (fun g7 => ⟨g7, trivial⟩) (fun g7 => op_load_e1 tyOne4 rfl rfl) (CgT (decide (x_1.Owner = r0.Me)) [21] (fun g8 => ⟨g8, trivial⟩) (fun g8 => op_not rfl) (Oc (op_pick_and (fun e => e) rfl rfl rfl rfl) (Oc om ?_))))
 refine CgT ((decide (x_1.Owner = r0.Me)) && (!x_2)) [] (fun g9 => trivial) (fun g9 => op_field_p tyFld31_6 rfl rfl) (OpsL.keepS ⟨[(5, _), (24, B ((decide (x_1.Owner = r0.Me)) && (!x_2))), (25, .opt ((decide (x_1.Owner = r0.Me)) && (!x_2)) (.ptr 101 6))], [(101, _), (102, _)]⟩ rfl (CgT ((decide (x_1.Owner = r0.Me)) && (!x_2)) [25] (fun g10 => ⟨g10, trivial⟩) (fun g10 => op_load_p1 tyOne24 rfl rfl rfl) (CgT ((decide (x_1.Owner = r0.Me)) && (!x_2)) [] (fun g11 => trivial) (fun g11 => op_field_p tyFld59_1 rfl rfl) (CgT ((decide (x_1.Owner = r0.Me)) && (!x_2)) [27] (fun g12 => ⟨g12, trivial⟩) (fun g12 => op_load_p1 tyOne22 rfl rfl rfl) ?_))))
 obtain ⟨x_3, e14, h⟩ := bnd h
 refine CgT ((decide (x_1.Owner = r0.Me)) && (!x_2)) [26, 28] (fun g13 => ⟨g13, g13, trivial⟩) (fun g13 => op_call0 (owner_texts_spec 0 (gc e14 g13)).persG goes56 rfl rfl) (OpsL.keepS ⟨[(24, _), (29, .opt ((decide (x_1.Owner = r0.Me)) && (!x_2)) (.one (.sl 1 (x_3.map eS))))], []⟩ rfl ?_)
 obtain ⟨x_4, e16, h⟩ := bnd h
 refine CgT ((decide (x_1.Owner = r0.Me)) && (!x_2)) [29] (fun g15 => ⟨g15, trivial⟩) (fun g15 => op_call0 (slices_Contains51_spec (gc e16 g15)) goes51 rfl rfl) (CgT ((decide (x_1.Owner = r0.Me)) && (!x_2)) [30] (fun g17 => ⟨g17, trivial⟩) (fun g17 => op_not rfl) (Oc (op_pick_and (fun e => e) rfl rfl rfl rfl) (Oc oa ?_)))
 refine OpsL.nilS ⟨[(4, B (((decide (x_1.Owner = r0.Me)) && (!x_2)) && (!x_4)))], []⟩ rfl (Tri.ret ?_)
 obtain rfl := Option.some.inj h
 refine Fin.keepS ⟨[(4, _)], []⟩ rfl (Fin.result' [.one (.bool (((decide (x_1.Owner = r0.Me)) && (!x_2)) && (!x_4)))] (.inl rfl) rfl (.cons (.tmp rfl) .nil) ⟨rfl, rfl⟩)
def owner_Ready_S (F : Nat) (r0 : Round) : Option (List Int) :=
 Option.bind (iter F (un2 fun out_2 x_3 => if (decide (x_3 < (r0.Tasks.length : Int))) = true then (Option.bind ((owner_isReady_S F r0 x_3).bind fun x_6 => if x_6 = true then ((app? out_2 [x_3]).bind fun x_7 => some x_7) else (some out_2)) (fun out_5 => some (.inl (out_5, IntKind.i64.wrap (x_3 + 1))))) else (some (.inr out_2))) ([], 0)) (fun out_1 => some out_1)
theorem owner_Ready_spec (kr0 : Nat) {F : Nat} {r0 : Round} {r : (List Int)} (h : owner_Ready_S F r0 = some r) : Meets Try.prog [] 20 [] [.agg (eRound r0)] (Is [(kr0, .row 3 1 (r.map eI))] (.b (.row kr0))) := by
 unfold owner_Ready_S at h
 refine Meets.intro 20 Try.func20 Try.ntmps20 rfl (by simp) fun E => ?_
 show Tri _ E ⟨20, [], [], []⟩ _ ⟨[(0, .b (.agg (eRound r0)))], []⟩ _
 refine Tri.seq (Tri.regionL ?_)
 refine Oc (op_box (k := 101) rfl rfl) (Oc oa ?_)
 refine OpsL.nilS ⟨[(1, Pt 101 0)], [(101, .box 31 (eRound r0))]⟩ rfl (Tri.seq (Tri.regionL ?_))
 refine Oc oa (OpsL.nilS ⟨[(1, _), (3, .b (.one (.nil)))], [(101, _)]⟩ rfl ?_)
 obtain ⟨v1, h2, h⟩ := bnd h
 refine Tri.seqJ (v := v1) (fun (out_1 : List Int) => ⟨[(3, .b (.row 103))], [(103, .row 3 1 (out_1.map eI))]⟩) (fun z => z) ?_ ?_
 ·refine Tri.seq (Tri.regionL ?_)
  refine Oc (op_field_p tyFld31_7 rfl rfl) (Oc (op_load_p1 tyOne29 rfl rfl rfl) (Oc (op_len_e' und29 rfl (List.length_map _)) (Oc om ?_)))
  refine OpsL.nilS ⟨[(1, _), (3, _), (7, I (r0.Tasks.length : Int)), (8, I 0)], [(101, _)]⟩ rfl (Tri.block (Tri.nilrow 3 103 1 3 rfl (by decide) rfl (Tri.loopJ h2 (un2 fun (out_2 : List Int) (x_3 : Int) => ⟨[(1, Pt 101 0), (3, .b (.row 103)), (7, I (r0.Tasks.length : Int)), (8, I x_3)], [(101, .box 31 (eRound r0)), (103, .row 3 1 (out_2.map eI))]⟩) [1, 3, 7, 8] [101, 103] rfl ?_)))
  rintro ⟨out_2, x_3⟩ o3 h4 hy5
  refine Tri.seq (Tri.regionL ?_)
  refine Oc (op_lss rfl rfl) (OpsL.nilS ⟨[(1, _), (3, _), (7, _), (8, _), (9, B (decide (x_3 < (r0.Tasks.length : Int))))], [(101, _), (103, _)]⟩ rfl (Tri.seq (Tri.ite h4 rfl (fun _ h4 => ?_) (fun _ h4 => ?_))))
  ·refine Tri.skip (Fin.keepS ⟨[(1, _), (3, _), (7, _), (8, _)], [(101, _), (103, _)]⟩ rfl (Fin.then ?_))
   obtain ⟨v6, h7, h4⟩ := bnd h4
   refine Tri.seqJ (v := v6) (fun (out_5 : List Int) => ⟨[(1, Pt 101 0), (3, .b (.row 103)), (7, I (r0.Tasks.length : Int)), (8, I x_3)], [(101, .box 31 (eRound r0)), (103, .row 3 1 (out_5.map eI))]⟩) (fun z => z) ?_ ?_
   ·refine Tri.block (Tri.seq (Tri.regionL ?_))
    refine Oc om (Oc oa ?_)
    refine OpsL.nilS ⟨[(1, _), (3, _), (4, I x_3), (7, _), (8, _)], [(101, _), (103, _)]⟩ rfl (Tri.seq (Tri.regionL ?_))
    refine Oc (lp tyAgg31) (Oc om ?_)
    obtain ⟨x_6, e8, h7⟩ := bnd h7
    refine Oc (op_call0 (owner_isReady_spec e8) goes50 rfl rfl) (OpsL.nilS ⟨[(1, _), (3, _), (4, _), (7, _), (8, _), (13, B x_6)], [(101, _), (103, _)]⟩ rfl (Tri.ite h7 rfl (fun _ h7 => ?_) (fun _ h7 => ?_)))
    ·refine Tri.regionL (Oc om (Oc om (Oc (op_buildSlice (k := 104) (es := [x_3].map eI) tySl22 rfl rfl (uni_map fun _ => rfl) rfl (by decide) (by decide) rfl) ?_)))
     obtain ⟨x_7, e9, h7⟩ := bnd h7
     refine Oc (op_append_r tySl22 (app_b e9) (app_m e9) rfl rfl rfl rfl (app_map e9) rfl) (Oc oa ?_)
     refine OpsL.nil (Fin.block_normal ?_)
     exact Fin.join [1, 3, 7, 8] [101, 103] x_7 (Option.some.inj h7) rfl
    ·refine Tri.skip (Fin.block_normal ?_)
     exact Fin.join [1, 3, 7, 8] [101, 103] out_2 (Option.some.inj h7) rfl
   ·rintro out_5 hv
    subst v6
    refine Tri.regionL (Oc (op_add rfl rfl) (Oc om ?_))
    refine OpsL.nil ?_
    exact Fin.againJ [1, 3, 7, 8] [101, 103] (out_5, IntKind.i64.wrap (x_3 + 1)) (Option.some.inj h4) rfl
  ·refine Tri.exit (Fin.then_exit ?_)
   obtain rfl := hy5 _ (Option.some.inj h4).symm
   refine Fin.then_exit (Fin.block_exit ?_)
   exact Fin.join [3] [103] out_2 rfl rfl
 ·rintro out_1 hv
  subst v1
  refine Tri.seq (Tri.regionL ?_)
  refine Oc om (Oc oa ?_)
  refine OpsL.nilS ⟨[(2, .b (.row 103))], [(103, _)]⟩ rfl (Tri.ret ?_)
  obtain rfl := Option.some.inj h
  refine Fin.keepS ⟨[(2, _)], [(103, _)]⟩ rfl (Fin.resultK 103 kr0 [.row 103] (.inl rfl) rfl (.cons (.tmp rfl) .nil) rfl rfl rfl rfl ⟨rfl, rfl⟩)
def slices_Clone53_S (F : Nat) (s0 : List Str) : Option (List Str) :=
 (app? [] s0).bind fun x_2 => some x_2
theorem slices_Clone53_spec (kr0 : Nat) {F : Nat} {s0 : List Str} {r : (List Str)} (h : slices_Clone53_S F s0 = some r) : Meets Try.prog [] 53 [] [.one (.sl 1 (s0.map eS))] (Is [(kr0, .row 9 1 (r.map eS))] (.b (.row kr0))) := by
 unfold slices_Clone53_S at h
 refine Meets.intro 8 Try.func53 Try.ntmps53 rfl (by simp) fun E => ?_
 show Tri _ E ⟨8, [], [], []⟩ _ ⟨[(0, .b (.one (.sl 1 (s0.map eS))))], []⟩ _
 refine Tri.seq (Tri.regionL ?_)
 refine Oc oa (OpsL.nilS ⟨[(0, .b (.one (.sl 1 (s0.map eS))))], []⟩ rfl (Tri.seq (Tri.seq (Tri.regionL ?_))))
 refine Oc om (OpsL.eqnil_e und24 rfl (fun nb_1 hnb1 => ?_))
 refine OpsL.nilS ⟨[(0, _), (4, B nb_1)], []⟩ rfl (Tri.cond rfl (fun hc2 => ?_) (fun _ => ?_))
 ·
  obtain rfl : s0 = [] := by simpa using hnb1 hc2
  refine Tri.seq (Tri.regionL ?_)
  refine Oc oa (OpsL.nilS ⟨[(2, .b (.one (.nil)))], []⟩ rfl (Tri.ret (Fin.then_ret ?_)))
  obtain rfl : [] = r := by first | (simp [app?] at h; exact h) | (simp [app?] at h; exact h.symm)
  refine Fin.keepS ⟨[(2, _)], []⟩ rfl (Fin.nilrow 2 101 1 9 rfl (by decide) rfl (Fin.resultK 101 kr0 [.row 101] (.inl rfl) rfl (.cons (.tmp rfl) .nil) rfl rfl rfl rfl ⟨rfl, rfl⟩))
 ·refine Tri.skip (Fin.keepS ⟨[(0, _)], []⟩ rfl (Fin.then (Tri.seq (Tri.regionL ?_))))
  refine Oc (op_build0 (k := 101) tySl24 rfl) (Oc om ?_)
  obtain ⟨x_2, e3, h⟩ := bnd h
  refine Oc (op_append tySl24 (app_b e3) (app_m e3) rfl rfl rfl (app_map e3) rfl) (Oc oa ?_)
  refine OpsL.nilS ⟨[(2, .b (.row 101))], [(101, .row 9 1 (x_2.map eS))]⟩ rfl (Tri.ret ?_)
  obtain rfl := Option.some.inj h
  refine Fin.keepS ⟨[(2, _)], [(101, _)]⟩ rfl (Fin.resultK 101 kr0 [.row 101] (.inl rfl) rfl (.cons (.tmp rfl) .nil) rfl rfl rfl rfl ⟨rfl, rfl⟩)
def owner_Answer_S (F : Nat) (r0 : Round) (task0 : Int) (states0 : List Str) : Option (Round × (List Notice) × Int) :=
 letN ((decide (task0 < 0)) || (decide ((r0.Tasks.length : Int) ≤ task0))) fun x_1 => if x_1 = true then (some ((⟨0, 0, 0, [], [], [], [], [], [], []⟩ : Round), [], 5)) else ((idx? r0.Tasks task0).bind fun x_2 => (idx? r0.Done task0).bind fun x_3 => if x_3 = true then (some ((⟨0, 0, 0, [], [], [], [], [], [], []⟩ : Round), [], 6)) else ((owner_isReady_S F r0 task0).bind fun x_4 => if (!x_4) = true then (some ((⟨0, 0, 0, [], [], [], [], [], [], []⟩ : Round), [], 4)) else ((gcall (!(decide ((states0.length : Int) ≠ (x_2.Bodies.length : Int)))) (slices_Contains51_S F states0 [])).bind fun x_5 => letN ((decide ((states0.length : Int) ≠ (x_2.Bodies.length : Int))) || x_5) fun x_6 => if x_6 = true then (some ((⟨0, 0, 0, [], [], [], [], [], [], []⟩ : Round), [], 1)) else ((slices_Clone_S F r0.Done).bind fun x_7 => (slices_Clone53_S F r0.Results).bind fun x_8 => (idx? x_7 task0).bind fun x_9 => Option.bind (mk? ([] : Str) (r0.Home.length : Int) (r0.Home.length : Int)) (fun x_10 => (owner_learn_S F x_10 x_2.Bodies states0).bind fun x_11 => Option.bind ((owner_node_of_v_S F x_2.Bodies r0.Me (⟨r0.Me, r0.Regions, r0.Step, r0.Home, r0.Heard, r0.Sets, r0.States, r0.Tasks, x_7.set (task0 : Int).toNat true, x_8⟩ : Round) []).bind fun x_13 => iter F (un2 fun nf9_14 x_15 => if (decide (x_15 < (x_13.length : Int))) = true then ((idx? x_13 x_15).bind fun x_17 => (idx? x_11 x_17).bind fun x_18 => (idx? nf9_14 x_17).bind fun x_19 => some (.inl (nf9_14.set (x_17 : Int).toNat x_18, IntKind.i64.wrap (x_15 + 1)))) else (some (.inr nf9_14))) (x_8, 0)) (fun nf9_12 => Option.bind (iter F (un4 fun nf8_23 nf9_24 out_25 x_26 => if (decide (x_26 < (x_2.Helpers.length : Int))) = true then ((idx? x_2.Helpers x_26).bind fun x_30 => (owner_node_of_S F x_2.Bodies x_30 (⟨r0.Me, r0.Regions, r0.Step, r0.Home, r0.Heard, r0.Sets, r0.States, r0.Tasks, nf8_23, nf9_24⟩ : Round) out_25).bind fun x_31 => (owner_texts_S F x_11 x_31).bind fun x_32 => letN (⟨3, 0, 0, x_30, [], x_31, x_32⟩ : Notice) fun x_33 => (owner_node_send_S F x_33 (⟨r0.Me, r0.Regions, r0.Step, r0.Home, r0.Heard, r0.Sets, r0.States, r0.Tasks, nf8_23, nf9_24⟩ : Round) out_25).bind fun x_34 => some (.inl (nf8_23, nf9_24, x_34, IntKind.i64.wrap (x_26 + 1)))) else (some (.inr (nf8_23, nf9_24, out_25)))) (x_7.set (task0 : Int).toNat true, nf9_12, [], 0)) (un3 fun nf8_20 nf9_21 out_22 => some ((⟨r0.Me, r0.Regions, r0.Step, r0.Home, r0.Heard, r0.Sets, r0.States, r0.Tasks, nf8_20, nf9_21⟩ : Round), out_22, 0))))))))
theorem owner_Answer_spec (kr0 : Nat) {F : Nat} {r0 : Round} {task0 : Int} {states0 : List Str} {r : Round × (List Notice) × Int} (h : owner_Answer_S F r0 task0 states0 = some r) : Meets Try.prog [] 15 [] [.agg (eRound r0), .one (.i task0), .one (.sl 1 (states0.map eS))] (Is [(kr0, .row 42 7 (r.2.1.map eNotice))] (.tup [.agg (eRound r.1), .row kr0, .one (.i r.2.2)])) := by
 unfold owner_Answer_S at h
 refine Meets.intro 141 Try.func15 Try.ntmps15 rfl (by simp) fun E => ?_
 show Tri _ E ⟨141, [], [], []⟩ _ ⟨[(0, .b (.agg (eRound r0))), (1, I task0), (2, .b (.one (.sl 1 (states0.map eS))))], []⟩ _
 refine Tri.seq (Tri.regionL ?_)
 refine Oc (op_box (k := 101) rfl rfl) (Oc (op_alloc (k := 102) tyZero31 rfl) (Oc oa (Oc oa ?_)))
 refine OpsL.nilS ⟨[(1, I task0), (2, .b (.one (.sl 1 (states0.map eS)))), (3, Pt 101 0), (6, Pt 102 0)], [(101, .box 31 (eRound r0)), (102, .box 31 [.i 0, .i 0, .i 0, .nil, .nil, .nil, .nil, .nil, .nil, .nil])]⟩ rfl (Tri.seq (Tri.seq (Tri.regionL ?_)))
 refine Oc om (Oc (op_lss rfl rfl) (Oc om ?_))
 refine CgF (!(decide (task0 < 0))) [] (fun g1 => trivial) (fun g1 => om) (CgF (!(decide (task0 < 0))) [] (fun g2 => by exact trivial) (fun g2 => op_field_p tyFld31_7 rfl rfl) (CgF (!(decide (task0 < 0))) [21] (fun g3 => by exact ⟨g3, trivial⟩) (fun g3 => op_load_p1 tyOne29 rfl rfl rfl) (OpsL.keepS ⟨[(1, _), (2, _), (3, _), (6, _), (19, B (decide (task0 < 0))), (20, .opt (!(decide (task0 < 0))) (.one (.i task0))), (22, .opt (!(decide (task0 < 0))) (.one (.sl 3 (r0.Tasks.map eTask))))], [(101, _), (102, _)]⟩ rfl (CgF (!(decide (task0 < 0))) [22] (fun g4 => by exact ⟨g4, trivial⟩) (fun g4 => op_len_e' und29 rfl (List.length_map _)) (CgF (!(decide (task0 < 0))) [20, 23] (fun g5 => by exact ⟨g5, g5, trivial⟩) (fun g5 => op_geq rfl rfl) ?_)))))
 refine OpsL.consB h rfl (op_pick_or (fun e => by first | (rw [e]; rfl) | (simp only at e; rw [e]; rfl)) rfl rfl rfl rfl) (fun x_1 h => ?_)
 refine OpsL.nilS ⟨[(1, _), (2, _), (3, _), (6, _), (25, B x_1)], [(101, _), (102, _)]⟩ rfl (Tri.ite h rfl (fun _ h => ?_) (fun _ h => ?_))
 ·refine Tri.seq (Tri.regionL ?_)
  refine Oc (Op1.nilA (.same (.same (.same (.sl (size := 1) (by decide) (.sl (size := 1) (by decide) (.sl (size := 1) (by decide) (.sl (size := 1) (by decide) (.sl (size := 3) (by decide) (.same (.same (.nil))))))))))) (op_build tyBuild31 rfl rfl)) (Oc (op_store_p tyAgg31 rfl rfl rfl rfl (Nat.le_of_ble_eq_true rfl) rfl) (Oc oa (Oc oa ?_)))
  refine OpsL.nilS ⟨[(6, _), (7, .b (.one (.nil))), (8, I 5)], [(102, .box 31 [.i 0, .i 0, .i 0, .sl 1 ([].map eI), .sl 1 ([].map eB), .sl 1 ([].map (eL 1 eI)), .sl 1 ([].map eS), .sl 3 ([].map eTask), .nil, .nil])]⟩ rfl (Tri.ret (Fin.then_ret ?_))
  obtain rfl := Option.some.inj h
  refine Fin.keepS ⟨[(6, _), (7, _), (8, _)], [(102, _)]⟩ rfl (Fin.nilbox 102 8 1 rfl rfl (by decide) (Fin.nilbox 102 9 1 rfl rfl (by decide) (Fin.nilrow 7 103 7 42 rfl (by decide) rfl (Fin.resultK 103 kr0 [.agg [.i 0, .i 0, .i 0, .sl 1 ([].map eI), .sl 1 ([].map eB), .sl 1 ([].map (eL 1 eI)), .sl 1 ([].map eS), .sl 3 ([].map eTask), .sl 1 ([].map eB), .sl 1 ([].map eS)], .row 103, .one (.i 5)] (.inl rfl) rfl (.cons (.agg tyAgg31 rfl rfl rfl rfl) (.cons (.tmp rfl) (.cons (.tmp rfl) .nil))) rfl rfl rfl rfl ⟨rfl, rfl⟩))))
 ·refine Tri.skip (Fin.keepS ⟨[(1, _), (2, _), (3, _), (6, _)], [(101, _), (102, _)]⟩ rfl (Fin.then (Tri.seq (Tri.regionL ?_))))
  refine Oc (op_field_p tyFld31_7 rfl rfl) (Oc (op_load_p1 tyOne29 rfl rfl rfl) (Oc om ?_))
  obtain ⟨x_2, e6, h⟩ := bnd h
  refine Oc (op_index_e tySl29 (ix_lo e6) (ix_map (e := eTask) e6) rfl rfl) (Oc (op_load_e tyAgg59 rfl rfl rfl) (Oc (op_alloc (k := 104) tyZero59 rfl) (Oc (op_store_p tyAgg59 rfl rfl rfl rfl (Nat.le_of_ble_eq_true rfl) rfl) ?_)))
  refine OpsL.nilS ⟨[(1, _), (2, _), (3, _), (6, _), (9, Pt 104 0)], [(101, _), (102, _), (104, .box 59 (eTask x_2))]⟩ rfl (Tri.seq (Tri.block (Tri.seq (Tri.regionL ?_))))
  refine Oc (op_field_p tyFld31_8 rfl rfl) (Oc (op_load_p1 tyOne28 rfl rfl rfl) (Oc om ?_))
  obtain ⟨x_3, e7, h⟩ := bnd h
  refine Oc (op_index_e tySl28 (ix_lo e7) (ix_map (e := eB) e7) rfl rfl) (Oc (op_load_e1 tyOne4 rfl rfl) (Oc oa ?_))
  refine OpsL.nilS ⟨[(1, _), (2, _), (3, _), (6, _), (9, _), (32, B x_3)], [(101, _), (102, _), (104, _)]⟩ rfl (Tri.ite h rfl (fun _ h => ?_) (fun _ h => ?_))
  ·refine Tri.seq (Tri.regionL ?_)
   refine Oc (Op1.nilA (.same (.same (.same (.sl (size := 1) (by decide) (.sl (size := 1) (by decide) (.sl (size := 1) (by decide) (.sl (size := 1) (by decide) (.sl (size := 3) (by decide) (.same (.same (.nil))))))))))) (op_build tyBuild31 rfl rfl)) (Oc (op_store_p tyAgg31 rfl rfl rfl rfl (Nat.le_of_ble_eq_true rfl) rfl) (Oc oa (Oc oa ?_)))
   refine OpsL.nilS ⟨[(6, _), (7, .b (.one (.nil))), (8, I 6)], [(102, .box 31 [.i 0, .i 0, .i 0, .sl 1 ([].map eI), .sl 1 ([].map eB), .sl 1 ([].map (eL 1 eI)), .sl 1 ([].map eS), .sl 3 ([].map eTask), .nil, .nil])]⟩ rfl (Tri.ret (Fin.block_ret (Fin.then_ret ?_)))
   obtain rfl := Option.some.inj h
   refine Fin.keepS ⟨[(6, _), (7, _), (8, _)], [(102, _)]⟩ rfl (Fin.nilbox 102 8 1 rfl rfl (by decide) (Fin.nilbox 102 9 1 rfl rfl (by decide) (Fin.nilrow 7 105 7 42 rfl (by decide) rfl (Fin.resultK 105 kr0 [.agg [.i 0, .i 0, .i 0, .sl 1 ([].map eI), .sl 1 ([].map eB), .sl 1 ([].map (eL 1 eI)), .sl 1 ([].map eS), .sl 3 ([].map eTask), .sl 1 ([].map eB), .sl 1 ([].map eS)], .row 105, .one (.i 6)] (.inl rfl) rfl (.cons (.agg tyAgg31 rfl rfl rfl rfl) (.cons (.tmp rfl) (.cons (.tmp rfl) .nil))) rfl rfl rfl rfl ⟨rfl, rfl⟩))))
  ·refine Tri.seq (Tri.regionL ?_)
   refine Oc (lp tyAgg31) (Oc om ?_)
   obtain ⟨x_4, e8, h⟩ := bnd h
   refine Oc (op_call0 (owner_isReady_spec e8) goes50 rfl rfl) (Oc (op_not rfl) (Oc oa ?_))
   refine OpsL.nilS ⟨[(1, _), (2, _), (3, _), (6, _), (9, _), (39, B (!x_4))], [(101, _), (102, _), (104, _)]⟩ rfl (Tri.ite h rfl (fun _ h => ?_) (fun _ h => ?_))
   ·refine Tri.seq (Tri.regionL ?_)
    refine Oc (Op1.nilA (.same (.same (.same (.sl (size := 1) (by decide) (.sl (size := 1) (by decide) (.sl (size := 1) (by decide) (.sl (size := 1) (by decide) (.sl (size := 3) (by decide) (.same (.same (.nil))))))))))) (op_build tyBuild31 rfl rfl)) (Oc (op_store_p tyAgg31 rfl rfl rfl rfl (Nat.le_of_ble_eq_true rfl) rfl) (Oc oa (Oc oa ?_)))
    refine OpsL.nilS ⟨[(6, _), (7, .b (.one (.nil))), (8, I 4)], [(102, .box 31 [.i 0, .i 0, .i 0, .sl 1 ([].map eI), .sl 1 ([].map eB), .sl 1 ([].map (eL 1 eI)), .sl 1 ([].map eS), .sl 3 ([].map eTask), .nil, .nil])]⟩ rfl (Tri.ret (Fin.block_ret (Fin.then_ret ?_)))
    obtain rfl := Option.some.inj h
    refine Fin.keepS ⟨[(6, _), (7, _), (8, _)], [(102, _)]⟩ rfl (Fin.nilbox 102 8 1 rfl rfl (by decide) (Fin.nilbox 102 9 1 rfl rfl (by decide) (Fin.nilrow 7 106 7 42 rfl (by decide) rfl (Fin.resultK 106 kr0 [.agg [.i 0, .i 0, .i 0, .sl 1 ([].map eI), .sl 1 ([].map eB), .sl 1 ([].map (eL 1 eI)), .sl 1 ([].map eS), .sl 3 ([].map eTask), .sl 1 ([].map eB), .sl 1 ([].map eS)], .row 106, .one (.i 4)] (.inl rfl) rfl (.cons (.agg tyAgg31 rfl rfl rfl rfl) (.cons (.tmp rfl) (.cons (.tmp rfl) .nil))) rfl rfl rfl rfl ⟨rfl, rfl⟩))))
   ·refine Tri.seq (Tri.regionL ?_)
    refine Oc om (Oc (op_len_e' und24 rfl (List.length_map _)) (Oc (op_field_p tyFld59_1 rfl rfl) (Oc (op_load_p1 tyOne22 rfl rfl rfl) (Oc (op_len_e' und22 rfl (List.length_map _)) ?_))))
    refine OpsL.keepS ⟨[(1, _), (2, _), (3, _), (6, _), (9, _), (47, I (states0.length : Int)), (50, I (x_2.Bodies.length : Int))], [(101, _), (102, _), (104, _)]⟩ rfl (Oc (op_neq rfl rfl) (Oc om ?_))
    refine CgF (!(decide ((states0.length : Int) ≠ (x_2.Bodies.length : Int)))) [] (fun g9 => trivial) (fun g9 => om) ?_
    obtain ⟨x_5, e11, h⟩ := bnd h
    refine CgF (!(decide ((states0.length : Int) ≠ (x_2.Bodies.length : Int)))) [53] (fun g10 => ⟨g10, trivial⟩) (fun g10 => op_call0 (slices_Contains51_spec (gc e11 g10)) goes51 rfl rfl) (OpsL.consB h rfl (op_pick_or (fun e => by first | (rw [e]; rfl) | (simp only at e; rw [e]; rfl)) rfl rfl rfl rfl) (fun x_6 h => ?_))
    refine Oc oa (OpsL.nilS ⟨[(1, _), (2, _), (3, _), (6, _), (9, _), (45, B x_6)], [(101, _), (102, _), (104, _)]⟩ rfl (Tri.ite h rfl (fun _ h => ?_) (fun _ h => ?_)))
    ·refine Tri.seq (Tri.regionL ?_)
     refine Oc (Op1.nilA (.same (.same (.same (.sl (size := 1) (by decide) (.sl (size := 1) (by decide) (.sl (size := 1) (by decide) (.sl (size := 1) (by decide) (.sl (size := 3) (by decide) (.same (.same (.nil))))))))))) (op_build tyBuild31 rfl rfl)) (Oc (op_store_p tyAgg31 rfl rfl rfl rfl (Nat.le_of_ble_eq_true rfl) rfl) (Oc oa (Oc oa ?_)))
     refine OpsL.nilS ⟨[(6, _), (7, .b (.one (.nil))), (8, I 1)], [(102, .box 31 [.i 0, .i 0, .i 0, .sl 1 ([].map eI), .sl 1 ([].map eB), .sl 1 ([].map (eL 1 eI)), .sl 1 ([].map eS), .sl 3 ([].map eTask), .nil, .nil])]⟩ rfl (Tri.ret (Fin.block_ret (Fin.then_ret ?_)))
     obtain rfl := Option.some.inj h
     refine Fin.keepS ⟨[(6, _), (7, _), (8, _)], [(102, _)]⟩ rfl (Fin.nilbox 102 8 1 rfl rfl (by decide) (Fin.nilbox 102 9 1 rfl rfl (by decide) (Fin.nilrow 7 107 7 42 rfl (by decide) rfl (Fin.resultK 107 kr0 [.agg [.i 0, .i 0, .i 0, .sl 1 ([].map eI), .sl 1 ([].map eB), .sl 1 ([].map (eL 1 eI)), .sl 1 ([].map eS), .sl 3 ([].map eTask), .sl 1 ([].map eB), .sl 1 ([].map eS)], .row 107, .one (.i 1)] (.inl rfl) rfl (.cons (.agg tyAgg31 rfl rfl rfl rfl) (.cons (.tmp rfl) (.cons (.tmp rfl) .nil))) rfl rfl rfl rfl ⟨rfl, rfl⟩))))
    ·refine Tri.skip (Fin.block_normal (Fin.keepS ⟨[(1, _), (2, _), (3, _), (6, _), (9, _)], [(101, _), (102, _), (104, _)]⟩ rfl (Fin.then (Tri.seq (Tri.regionL ?_)))))
     refine Oc (lp tyAgg31) (Oc (op_build tyBuild95 rfl rfl) (Oc (op_box (k := 108) rfl rfl) (Oc oa ?_)))
     refine OpsL.nilS ⟨[(1, _), (2, _), (3, _), (6, _), (9, _), (10, Pt 108 0)], [(101, _), (102, _), (104, _), (108, .box 95 (eRound r0 ++ ([.nil])))]⟩ rfl (Tri.seq ?_)
     obtain ⟨x_7, e12, h⟩ := bnd h
     obtain ⟨x_8, e13, h⟩ := bnd h
     refine Tri.regionW mixed [false, false, false, false, true, false, false, true, false, false, false, true, false, false, false, true] [Pt 108 0, Pt 108 0, Pt 101 8, .b (.one (.sl 1 (r0.Done.map eB))), .b (.row 109), Pt 101 9, .b (.one (.sl 1 (r0.Results.map eS))), .b (.row 110), Pt 108 0, Pt 108 0, Pt 108 8, B true, Pt 108 0, Pt 108 0, Pt 108 9, B true] [⟨[false, false, false, false, false, false, false, false, false, false, false, false, false, false, false, false], [(1, I task0), (2, .b (.one (.sl 1 (states0.map eS)))), (3, Pt 101 0), (6, Pt 102 0), (9, Pt 104 0), (10, Pt 108 0)], [(101, .box 31 (eRound r0)), (102, .box 31 [.i 0, .i 0, .i 0, .nil, .nil, .nil, .nil, .nil, .nil, .nil]), (104, .box 59 (eTask x_2)), (108, .box 95 (eRound r0 ++ ([.nil])))], [true, true, true, true, true, true, true, true, true, true, true, true, true, true, true, true], [], [7, 8, 9, 10, 11, 12, 13, 14, 15]⟩, ⟨[false, false, false, false, true, false, false, false, false, false, false, false, false, false, false, false], [(1, I task0), (2, .b (.one (.sl 1 (states0.map eS)))), (3, Pt 101 0), (6, Pt 102 0), (9, Pt 104 0), (10, Pt 108 0)], [(101, .box 31 (eRound r0)), (102, .box 31 [.i 0, .i 0, .i 0, .nil, .nil, .nil, .nil, .nil, .nil, .nil]), (104, .box 59 (eTask x_2)), (108, .box 95 (eRound r0 ++ ([.nil]))), (109, .row 4 1 (x_7.map eB))], [true, true, true, true, true, true, true, true, true, true, true, true, true, true, true, true], [2, 3, 4], [8, 9, 10, 11, 12, 13, 14, 15]⟩, ⟨[false, false, false, false, true, false, false, true, false, false, false, false, false, false, false, false], [(1, I task0), (2, .b (.one (.sl 1 (states0.map eS)))), (3, Pt 101 0), (6, Pt 102 0), (9, Pt 104 0), (10, Pt 108 0)], [(101, .box 31 (eRound r0)), (102, .box 31 [.i 0, .i 0, .i 0, .nil, .nil, .nil, .nil, .nil, .nil, .nil]), (104, .box 59 (eTask x_2)), (108, .box 95 (eRound r0 ++ ([.nil]))), (109, .row 4 1 (x_7.map eB)), (110, .row 9 1 (x_8.map eS))], [true, true, true, true, true, true, true, true, true, true, true, true, true, true, true, true], [2, 3, 4, 5, 6, 7], [12, 13, 14, 15]⟩, ⟨[false, false, false, false, true, false, false, true, false, false, false, true, false, false, false, false], [(1, I task0), (2, .b (.one (.sl 1 (states0.map eS)))), (3, Pt 101 0), (6, Pt 102 0), (9, Pt 104 0), (10, Pt 108 0)], [(101, .box 31 (eRound r0)), (102, .box 31 [.i 0, .i 0, .i 0, .nil, .nil, .nil, .nil, .nil, .nil, .nil]), (104, .box 59 (eTask x_2)), (108, .xbox 95 [.one (.i r0.Me), .one (.i r0.Regions), .one (.i r0.Step), .one (.sl 1 (r0.Home.map eI)), .one (.sl 1 (r0.Heard.map eB)), .one (.sl 1 (r0.Sets.map (eL 1 eI))), .one (.sl 1 (r0.States.map eS)), .one (.sl 3 (r0.Tasks.map eTask)), .row 109, .one (.sl 1 (r0.Results.map eS)), .one (.nil)]), (109, .row 4 1 (x_7.map eB)), (110, .row 9 1 (x_8.map eS))], [true, true, true, true, true, true, true, true, true, true, true, true, true, true, true, true], [0, 2, 3, 4, 5, 6, 7, 8, 9, 10, 11], []⟩, ⟨[false, false, false, false, true, false, false, true, false, false, false, true, false, false, false, true], [(1, I task0), (2, .b (.one (.sl 1 (states0.map eS)))), (3, Pt 101 0), (6, Pt 102 0), (9, Pt 104 0), (10, Pt 108 0)], [(101, .box 31 (eRound r0)), (102, .box 31 [.i 0, .i 0, .i 0, .nil, .nil, .nil, .nil, .nil, .nil, .nil]), (104, .box 59 (eTask x_2)), (108, .xbox 95 [.one (.i r0.Me), .one (.i r0.Regions), .one (.i r0.Step), .one (.sl 1 (r0.Home.map eI)), .one (.sl 1 (r0.Heard.map eB)), .one (.sl 1 (r0.Sets.map (eL 1 eI))), .one (.sl 1 (r0.States.map eS)), .one (.sl 3 (r0.Tasks.map eTask)), .row 109, .row 110, .one (.nil)]), (109, .row 4 1 (x_7.map eB)), (110, .row 9 1 (x_8.map eS))], [true, true, true, true, true, true, true, true, true, true, true, true, true, true, true, true], [0, 1, 2, 3, 4, 5, 6, 7, 8, 9, 10, 11, 12, 13, 14, 15], []⟩] rfl (⟨by kernel_rfl, ⟨⟨Pt 108 0, fun _ => rfl, fun _ => .p (by exact op_move rfl)⟩, ⟨Pt 108 0, fun _ => rfl, fun _ => .p (by exact op_move rfl)⟩, ⟨Pt 101 8, fun _ => rfl, fun _ => .p (by exact op_field_p tyFld31_8 rfl rfl)⟩, ⟨.b (.one (.sl 1 (r0.Done.map eB))), fun _ => rfl, fun _ => .p (by exact op_load_p1 tyOne28 rfl rfl rfl)⟩, ⟨_, [109], .b (.row 109), rfl, fun _ => rfl, rfl, rfl, fun _ => .toO [101, 102, 104, 108, 109] (by exact .p (by exact op_call (slices_Clone_spec 109 e12) goes52 rfl trivial rfl rfl)) (by exact rfl)⟩, ⟨Pt 101 9, fun _ => rfl, fun _ => .p (by exact op_field_p tyFld31_9 rfl rfl)⟩, ⟨.b (.one (.sl 1 (r0.Results.map eS))), fun _ => rfl, fun _ => .p (by exact op_load_p1 tyOne24 rfl rfl rfl)⟩, trivial, trivial, trivial, trivial, trivial, trivial, trivial, trivial, trivial, trivial⟩, ⟨by kernel_rfl, ⟨⟨Pt 108 0, fun _ => rfl, fun _ => .p (by exact op_move rfl)⟩, ⟨Pt 108 0, fun _ => rfl, fun _ => .p (by exact op_move rfl)⟩, trivial, trivial, trivial, ⟨Pt 101 9, fun _ => rfl, fun _ => .p (by exact op_field_p tyFld31_9 rfl rfl)⟩, ⟨.b (.one (.sl 1 (r0.Results.map eS))), fun _ => rfl, fun _ => .p (by exact op_load_p1 tyOne24 rfl rfl rfl)⟩, ⟨_, [110], .b (.row 110), rfl, fun _ => rfl, rfl, rfl, fun _ => .toO [101, 102, 104, 108, 109, 110] (by exact .p (by exact op_call (slices_Clone53_spec 110 e13) goes53 rfl trivial rfl rfl)) (by exact rfl)⟩, trivial, trivial, trivial, trivial, trivial, trivial, trivial, trivial, trivial⟩, ⟨by kernel_rfl, ⟨⟨Pt 108 0, fun _ => rfl, fun _ => .p (by exact op_move rfl)⟩, ⟨Pt 108 0, fun _ => rfl, fun _ => .p (by exact op_move rfl)⟩, trivial, trivial, trivial, trivial, trivial, trivial, ⟨Pt 108 0, fun _ => rfl, fun _ => .p (by exact op_nilCheck_p rfl)⟩, ⟨Pt 108 0, fun _ => rfl, fun _ => .p (by exact op_field_p tyFld95_0 rfl rfl)⟩, ⟨Pt 108 8, fun _ => rfl, fun _ => .p (by exact op_field_p tyFld31_8 rfl rfl)⟩, ⟨_, [], .b (.one .any), rfl, (fun e => by simp at e), rfl, rfl, fun _ => .toO [101, 102, 104, 108, 109, 110] (by exact .toX 108 rfl (.plain rfl (op_store_x1 tyOne28 rfl rfl rfl rfl (Nat.le_of_ble_eq_true rfl) rfl))) (by exact rfl)⟩, trivial, trivial, trivial, trivial, trivial⟩, ⟨by kernel_rfl, ⟨trivial, ⟨Pt 108 0, fun _ => rfl, fun _ => .p (by exact op_move rfl)⟩, trivial, trivial, trivial, trivial, trivial, trivial, trivial, trivial, trivial, trivial, ⟨Pt 108 0, fun _ => rfl, fun _ => .p (by exact op_nilCheck_p rfl)⟩, ⟨Pt 108 0, fun _ => rfl, fun _ => .p (by exact op_field_p tyFld95_0 rfl rfl)⟩, ⟨Pt 108 9, fun _ => rfl, fun _ => .p (by exact op_field_p tyFld31_9 rfl rfl)⟩, ⟨_, [], .b (.one .any), rfl, (fun e => by simp at e), rfl, rfl, fun _ => .toO [101, 102, 104, 108, 109, 110] (by exact .p (by exact op_store_x1 tyOne24 rfl rfl rfl rfl (Nat.le_of_ble_eq_true rfl) rfl)) (by exact rfl)⟩, trivial⟩, ⟨by kernel_rfl, ⟨trivial, trivial, trivial, trivial, trivial, trivial, trivial, trivial, trivial, trivial, trivial, trivial, trivial, trivial, trivial, trivial, trivial⟩, trivial⟩⟩⟩⟩⟩) rfl rfl rfl [1, 2, 3, 6, 9, 10] [101, 102, 104, 108, 109, 110] (s' := ⟨[(1, I task0), (2, .b (.one (.sl 1 (states0.map eS)))), (3, Pt 101 0), (6, Pt 102 0), (9, Pt 104 0), (10, Pt 108 0)], [(101, .box 31 (eRound r0)), (102, .box 31 [.i 0, .i 0, .i 0, .nil, .nil, .nil, .nil, .nil, .nil, .nil]), (104, .box 59 (eTask x_2)), (108, .xbox 95 [.one (.i r0.Me), .one (.i r0.Regions), .one (.i r0.Step), .one (.sl 1 (r0.Home.map eI)), .one (.sl 1 (r0.Heard.map eB)), .one (.sl 1 (r0.Sets.map (eL 1 eI))), .one (.sl 1 (r0.States.map eS)), .one (.sl 3 (r0.Tasks.map eTask)), .row 109, .row 110, .one (.nil)]), (109, .row 4 1 (x_7.map eB)), (110, .row 9 1 (x_8.map eS))]⟩) rfl ?_
     refine Tri.seq (Tri.regionL ?_)
     refine Oc om (Oc (op_nilCheck_p rfl) (Oc (op_field_p tyFld95_0 rfl rfl) (Oc (op_field_p tyFld31_8 rfl rfl) (Oc (op_load_x1 tyOne28 rfl rfl rfl) (Oc om ?_)))))
     obtain ⟨x_9, e14, h⟩ := bnd h
     refine Oc (op_index_r tySl28 (ix_lo e14) (ix_lt' e14) rfl rfl rfl rfl) (Oc (op_store_r1 (i := (task0 : Int).toNat) tyOne4 rfl rfl rfl rfl (ix_lt e14) (map_set _ _ _ _)) ?_)
     refine OpsL.nilS ⟨[(2, _), (3, _), (6, _), (9, _), (10, _)], [(101, _), (102, _), (104, _), (108, _), (109, .row 4 1 ((x_7.set (task0 : Int).toNat true).map eB)), (110, _)]⟩ rfl (Tri.seq ?_)
     obtain ⟨x_10, e15, h⟩ := bnd h
     obtain ⟨x_11, e16, h⟩ := bnd h
     refine Tri.regionW mixed [false, false, false, true, false, false, false, false, false] [Pt 101 3, .b (.one (.sl 1 (r0.Home.map eI))), I (r0.Home.length : Int), .b (.one (.sl 1 (x_10.map eS))), Pt 104 1, .b (.one (.sl 1 (x_2.Bodies.map eI))), .b (.one (.sl 1 (states0.map eS))), .b (.one (.sl 1 (x_11.map eS))), .b (.one (.sl 1 (x_11.map eS)))] [⟨[false, false, false, false, false, false, false, false, false], [(2, .b (.one (.sl 1 (states0.map eS)))), (3, Pt 101 0), (6, Pt 102 0), (9, Pt 104 0), (10, Pt 108 0)], [(101, .box 31 (eRound r0)), (102, .box 31 [.i 0, .i 0, .i 0, .nil, .nil, .nil, .nil, .nil, .nil, .nil]), (104, .box 59 (eTask x_2)), (108, .xbox 95 [.one (.i r0.Me), .one (.i r0.Regions), .one (.i r0.Step), .one (.sl 1 (r0.Home.map eI)), .one (.sl 1 (r0.Heard.map eB)), .one (.sl 1 (r0.Sets.map (eL 1 eI))), .one (.sl 1 (r0.States.map eS)), .one (.sl 3 (r0.Tasks.map eTask)), .row 109, .row 110, .one (.nil)]), (109, .row 4 1 ((x_7.set (task0 : Int).toNat true).map eB)), (110, .row 9 1 (x_8.map eS))], [true, true, true, true, true, true, true, true, true], [], [7, 8]⟩, ⟨[false, false, false, true, false, false, false, false, false], [(2, .b (.one (.sl 1 (states0.map eS)))), (3, Pt 101 0), (6, Pt 102 0), (9, Pt 104 0), (10, Pt 108 0)], [(101, .box 31 (eRound r0)), (102, .box 31 [.i 0, .i 0, .i 0, .nil, .nil, .nil, .nil, .nil, .nil, .nil]), (104, .box 59 (eTask x_2)), (108, .xbox 95 [.one (.i r0.Me), .one (.i r0.Regions), .one (.i r0.Step), .one (.sl 1 (r0.Home.map eI)), .one (.sl 1 (r0.Heard.map eB)), .one (.sl 1 (r0.Sets.map (eL 1 eI))), .one (.sl 1 (r0.States.map eS)), .one (.sl 3 (r0.Tasks.map eTask)), .row 109, .row 110, .one (.nil)]), (109, .row 4 1 ((x_7.set (task0 : Int).toNat true).map eB)), (110, .row 9 1 (x_8.map eS))], [true, true, true, true, true, true, true, true, true], [0, 1, 2, 3], []⟩] rfl (⟨by kernel_rfl, ⟨⟨Pt 101 3, fun _ => rfl, fun _ => .p (by exact op_field_p tyFld31_3 rfl rfl)⟩, ⟨.b (.one (.sl 1 (r0.Home.map eI))), fun _ => rfl, fun _ => .p (by exact op_load_p1 tyOne22 rfl rfl rfl)⟩, ⟨I (r0.Home.length : Int), fun _ => rfl, fun _ => .p (by exact op_len_e' und22 rfl (List.length_map _))⟩, ⟨_, [111], .b (.one (.sl 1 (x_10.map eS))), rfl, fun _ => rfl, rfl, rfl, fun _ => .toO [101, 102, 104, 108, 109, 110] (by exact .p (by exact Op1.persD 111 (op_makeSlice (k := 111) (enc := eS) tySl24 e15 (by decide) (.cons .refl .nil) rfl rfl rfl) rfl)) (by exact rfl)⟩, ⟨Pt 104 1, fun _ => rfl, fun _ => .p (by exact op_field_p tyFld59_1 rfl rfl)⟩, ⟨.b (.one (.sl 1 (x_2.Bodies.map eI))), fun _ => rfl, fun _ => .p (by exact op_load_p1 tyOne22 rfl rfl rfl)⟩, ⟨.b (.one (.sl 1 (states0.map eS))), fun _ => rfl, fun _ => .p (by exact op_move rfl)⟩, trivial, trivial, trivial⟩, ⟨by kernel_rfl, ⟨trivial, trivial, trivial, trivial, ⟨Pt 104 1, fun _ => rfl, fun _ => .p (by exact op_field_p tyFld59_1 rfl rfl)⟩, ⟨.b (.one (.sl 1 (x_2.Bodies.map eI))), fun _ => rfl, fun _ => .p (by exact op_load_p1 tyOne22 rfl rfl rfl)⟩, ⟨.b (.one (.sl 1 (states0.map eS))), fun _ => rfl, fun _ => .p (by exact op_move rfl)⟩, ⟨.b (.one (.sl 1 (x_11.map eS))), fun _ => rfl, fun _ => .p (by exact op_call0 (owner_learn_spec 0 e16).persG goes54 rfl rfl)⟩, ⟨.b (.one (.sl 1 (x_11.map eS))), fun _ => rfl, fun _ => .p (by exact op_assign rfl)⟩, trivial⟩, trivial⟩⟩) rfl rfl rfl [3, 6, 9, 10, 11] [101, 102, 104, 108, 109, 110] (s' := ⟨[(3, _), (6, _), (9, _), (10, _), (11, .b (.one (.sl 1 (x_11.map eS))))], [(101, _), (102, _), (104, _), (108, _), (109, _), (110, _)]⟩) rfl ?_
     obtain ⟨v17, h18, h⟩ := bnd h
     refine Tri.seqJ (v := v17) (fun (nf9_12 : List Str) => ⟨[(6, Pt 102 0), (9, Pt 104 0), (10, Pt 108 0), (11, .b (.one (.sl 1 (x_11.map eS))))], [(102, .box 31 [.i 0, .i 0, .i 0, .nil, .nil, .nil, .nil, .nil, .nil, .nil]), (104, .box 59 (eTask x_2)), (108, .xbox 95 [.one (.i r0.Me), .one (.i r0.Regions), .one (.i r0.Step), .one (.sl 1 (r0.Home.map eI)), .one (.sl 1 (r0.Heard.map eB)), .one (.sl 1 (r0.Sets.map (eL 1 eI))), .one (.sl 1 (r0.States.map eS)), .one (.sl 3 (r0.Tasks.map eTask)), .row 109, .row 110, .row 113]), (109, .row 4 1 ((x_7.set (task0 : Int).toNat true).map eB)), (110, .row 9 1 (nf9_12.map eS)), (113, .row 42 7 ([].map eNotice))]⟩) (fun z => z) ?_ ?_
     ·refine Tri.seq (Tri.regionL ?_)
      refine Oc om (Oc (op_field_p tyFld59_1 rfl rfl) (Oc (op_load_p1 tyOne22 rfl rfl rfl) (Oc (op_field_p tyFld31_0 rfl rfl) (Oc (op_load_p1 tyOne3 rfl rfl rfl) ?_))))
      refine OpsL.nilrowX 108 10 113 7 42 rfl rfl (by decide) (by decide) rfl (OpsL.keepS ⟨[(6, Pt 102 0), (9, Pt 104 0), (10, Pt 108 0), (11, .b (.one (.sl 1 (x_11.map eS)))), (89, Pt 108 0), (91, .b (.one (.sl 1 (x_2.Bodies.map eI)))), (93, I r0.Me)], [(102, .box 31 [.i 0, .i 0, .i 0, .nil, .nil, .nil, .nil, .nil, .nil, .nil]), (104, .box 59 (eTask x_2)), (108, .xbox 95 [.one (.i r0.Me), .one (.i r0.Regions), .one (.i r0.Step), .one (.sl 1 (r0.Home.map eI)), .one (.sl 1 (r0.Heard.map eB)), .one (.sl 1 (r0.Sets.map (eL 1 eI))), .one (.sl 1 (r0.States.map eS)), .one (.sl 3 (r0.Tasks.map eTask)), .row 109, .row 110, .row 113]), (109, .row 4 1 ((x_7.set (task0 : Int).toNat true).map eB)), (110, .row 9 1 (x_8.map eS)), (113, .row 42 7 ([].map eNotice))]⟩ rfl ?_)
      obtain ⟨x_13, e19, h18⟩ := bnd h18
      refine Oc (op_call (own_a := [(108, _), (113, _), (109, _), (110, _)]) (show Meets Try.prog [] 55 [(108, .xbox 95 [.one (.i r0.Me), .one (.i r0.Regions), .one (.i r0.Step), .one (.sl 1 (r0.Home.map eI)), .one (.sl 1 (r0.Heard.map eB)), .one (.sl 1 (r0.Sets.map (eL 1 eI))), .one (.sl 1 (r0.States.map eS)), .one (.sl 3 (r0.Tasks.map eTask)), .row 109, .row 110, .row 113]), (113, .row 42 7 ([].map eNotice)), (109, .row 4 1 ((x_7.set (task0 : Int).toNat true).map eB)), (110, .row 9 1 (x_8.map eS))] [.ptr 108 0, .one (.sl 1 (x_2.Bodies.map eI)), .one (.i r0.Me)] (Is [(108, .xbox 95 [.one (.i r0.Me), .one (.i r0.Regions), .one (.i r0.Step), .one (.sl 1 (r0.Home.map eI)), .one (.sl 1 (r0.Heard.map eB)), .one (.sl 1 (r0.Sets.map (eL 1 eI))), .one (.sl 1 (r0.States.map eS)), .one (.sl 3 (r0.Tasks.map eTask)), .row 109, .row 110, .row 113]), (113, .row 42 7 ([].map eNotice)), (109, .row 4 1 ((x_7.set (task0 : Int).toNat true).map eB)), (110, .row 9 1 (x_8.map eS)), (114, .row 3 1 (x_13.map eI))] (.b (.row 114))) from ((((((owner_node_of_v_spec e19).sw 1 108).sw 2 113).sw 3 109).sw 4 110).sw 51 114)) goes55 rfl ⟨rfl, rfl, rfl, rfl, trivial⟩ rfl rfl) (Oc (op_len_r' und22 rfl rfl (List.length_map _)) (Oc om ?_))
      refine OpsL.nilS ⟨[(6, _), (9, _), (10, _), (11, _), (94, .b (.row 114)), (95, I (x_13.length : Int)), (96, I 0)], [(102, _), (104, _), (108, _), (109, _), (110, _), (113, _), (114, .row 3 1 (x_13.map eI))]⟩ rfl (Tri.block (Tri.loopJ h18 (un2 fun (nf9_14 : List Str) (x_15 : Int) => ⟨[(6, Pt 102 0), (9, Pt 104 0), (10, Pt 108 0), (11, .b (.one (.sl 1 (x_11.map eS)))), (94, .b (.row 114)), (95, I (x_13.length : Int)), (96, I x_15)], [(102, .box 31 [.i 0, .i 0, .i 0, .nil, .nil, .nil, .nil, .nil, .nil, .nil]), (104, .box 59 (eTask x_2)), (108, .xbox 95 [.one (.i r0.Me), .one (.i r0.Regions), .one (.i r0.Step), .one (.sl 1 (r0.Home.map eI)), .one (.sl 1 (r0.Heard.map eB)), .one (.sl 1 (r0.Sets.map (eL 1 eI))), .one (.sl 1 (r0.States.map eS)), .one (.sl 3 (r0.Tasks.map eTask)), .row 109, .row 110, .row 113]), (109, .row 4 1 ((x_7.set (task0 : Int).toNat true).map eB)), (110, .row 9 1 (nf9_14.map eS)), (113, .row 42 7 ([].map eNotice)), (114, .row 3 1 (x_13.map eI))]⟩) [6, 9, 10, 11, 94, 95, 96] [102, 104, 108, 109, 110, 113, 114] rfl ?_))
      rintro ⟨nf9_14, x_15⟩ o20 h21 hy22
      refine Tri.seq (Tri.regionL ?_)
      refine Oc (op_lss rfl rfl) (OpsL.nilS ⟨[(6, _), (9, _), (10, _), (11, _), (94, _), (95, _), (96, _), (97, B (decide (x_15 < (x_13.length : Int))))], [(102, _), (104, _), (108, _), (109, _), (110, _), (113, _), (114, _)]⟩ rfl (Tri.seq (Tri.ite h21 rfl (fun _ h21 => ?_) (fun _ h21 => ?_))))
      ·refine Tri.skip (Fin.keepS ⟨[(6, _), (9, _), (10, _), (11, _), (94, _), (95, _), (96, _)], [(102, _), (104, _), (108, _), (109, _), (110, _), (113, _), (114, _)]⟩ rfl (Fin.then (Tri.seq (Tri.block (Tri.seq (Tri.regionL ?_))))))
       obtain ⟨x_17, e23, h21⟩ := bnd h21
       refine Oc (op_index_r tySl22 (ix_lo e23) (ix_lt' e23) rfl rfl rfl rfl) (Oc (op_load_r1 (i := (x_15 : Int).toNat) (f := 0) tyOne3 rfl rfl rfl (ix_map (e := eI) e23) rfl) (Oc oa ?_))
       refine OpsL.nilS ⟨[(6, _), (9, _), (10, _), (11, _), (13, I x_17), (94, _), (95, _), (96, _)], [(102, _), (104, _), (108, _), (109, _), (110, _), (113, _), (114, _)]⟩ rfl ?_
       obtain ⟨x_18, e24, h21⟩ := bnd h21
       obtain ⟨x_19, e25, h21⟩ := bnd h21
       refine Tri.regionYF mixed 11 [Pt 108 0, Pt 108 0, Pt 108 0, Pt 108 9, .b (.row 110), I x_17, .b (.one (.sl 1 (x_11.map eS))), I x_17, .b (.eptr [.str x_18]), .b (.one (.str x_18)), .b (.rptr 110 ((x_17 : Int).toNat * 1))] [6, 9, 10, 11, 94, 95, 96] [102, 104, 108, 109, 110, 113, 114] (s' := ⟨[(6, _), (9, _), (10, _), (11, _), (94, _), (95, _), (96, _)], [(102, _), (104, _), (108, _), (109, _), (110, .row 9 1 ((nf9_14.set (x_17 : Int).toNat x_18).map eS)), (113, _), (114, _)]⟩) rfl ⟨fun _ => .p om, fun _ => .p (op_nilCheck_p rfl), fun _ => .p (op_field_p tyFld95_0 rfl rfl), fun _ => .p (op_field_p tyFld31_9 rfl rfl), fun _ => .p (op_load_x1 tyOne24 rfl rfl rfl), fun _ => .p om, fun _ => .p om, fun _ => .p om, fun _ => .p (op_index_e tySl24 (ix_lo e24) (ix_map (e := eS) e24) rfl rfl), fun _ => .p (op_load_e1 tyOne9 rfl rfl), fun _ => .p (op_index_r tySl24 (ix_lo e25) (ix_lt' e25) rfl rfl rfl rfl), trivial⟩ ⟨_, by exact .p (op_store_r1 (i := (x_17 : Int).toNat) tyOne9 rfl rfl rfl rfl (ix_lt e25) (map_set _ _ _ _)), rfl⟩ rfl (Fin.block_normal (Fin.keepS ⟨[(6, _), (9, _), (10, _), (11, _), (94, _), (95, _), (96, _)], [(102, _), (104, _), (108, _), (109, _), (110, _), (113, _), (114, _)]⟩ rfl (Fin.then (Tri.regionL ?_))))
       refine Oc (op_add rfl rfl) (Oc om ?_)
       refine OpsL.nil ?_
       exact Fin.againJ [6, 9, 10, 11, 94, 95, 96] [102, 104, 108, 109, 110, 113, 114] (nf9_14.set (x_17 : Int).toNat x_18, IntKind.i64.wrap (x_15 + 1)) (Option.some.inj h21) rfl
      ·refine Tri.exit (Fin.then_exit ?_)
       obtain rfl := hy22 _ (Option.some.inj h21).symm
       refine Fin.then_exit (Fin.block_exit ?_)
       exact Fin.join [6, 9, 10, 11] [102, 104, 108, 109, 110, 113] nf9_14 rfl rfl
     ·rintro nf9_12 hv
      subst v17
      obtain ⟨v26, h27, h⟩ := bnd h
      refine Tri.seqJ (v := v26) (un3 fun (nf8_20 : List Bool) (nf9_21 : List Str) (out_22 : List Notice) => ⟨[(6, Pt 102 0), (10, Pt 108 0)], [(102, .box 31 [.i 0, .i 0, .i 0, .nil, .nil, .nil, .nil, .nil, .nil, .nil]), (108, .xbox 95 [.one (.i r0.Me), .one (.i r0.Regions), .one (.i r0.Step), .one (.sl 1 (r0.Home.map eI)), .one (.sl 1 (r0.Heard.map eB)), .one (.sl 1 (r0.Sets.map (eL 1 eI))), .one (.sl 1 (r0.States.map eS)), .one (.sl 3 (r0.Tasks.map eTask)), .one (.sl 1 (nf8_20.map eB)), .one (.sl 1 (nf9_21.map eS)), .row 113]), (113, .row 42 7 (out_22.map eNotice))]⟩) (fun z => z) ?_ ?_
      ·refine Tri.seq (Tri.regionL ?_)
       refine Oc (op_field_p tyFld59_2 rfl rfl) (Oc (op_load_p1 tyOne22 rfl rfl rfl) (Oc (op_len_e' und22 rfl (List.length_map _)) (Oc om ?_)))
       refine OpsL.nilS ⟨[(6, Pt 102 0), (9, Pt 104 0), (10, Pt 108 0), (11, .b (.one (.sl 1 (x_11.map eS)))), (113, .b (.one (.sl 1 (x_2.Helpers.map eI)))), (114, I (x_2.Helpers.length : Int)), (115, I 0)], [(102, .box 31 [.i 0, .i 0, .i 0, .nil, .nil, .nil, .nil, .nil, .nil, .nil]), (104, .box 59 (eTask x_2)), (108, .xbox 95 [.one (.i r0.Me), .one (.i r0.Regions), .one (.i r0.Step), .one (.sl 1 (r0.Home.map eI)), .one (.sl 1 (r0.Heard.map eB)), .one (.sl 1 (r0.Sets.map (eL 1 eI))), .one (.sl 1 (r0.States.map eS)), .one (.sl 3 (r0.Tasks.map eTask)), .row 109, .row 110, .row 113]), (109, .row 4 1 ((x_7.set (task0 : Int).toNat true).map eB)), (110, .row 9 1 (nf9_12.map eS)), (113, .row 42 7 ([].map eNotice))]⟩ rfl (Tri.block (Tri.persist 109 rfl (Tri.persist 110 rfl (Tri.loopJ h27 (un4 fun (nf8_23 : List Bool) (nf9_24 : List Str) (out_25 : List Notice) (x_26 : Int) => ⟨[(6, Pt 102 0), (9, Pt 104 0), (10, Pt 108 0), (11, .b (.one (.sl 1 (x_11.map eS)))), (113, .b (.one (.sl 1 (x_2.Helpers.map eI)))), (114, I (x_2.Helpers.length : Int)), (115, I x_26)], [(102, .box 31 [.i 0, .i 0, .i 0, .nil, .nil, .nil, .nil, .nil, .nil, .nil]), (104, .box 59 (eTask x_2)), (108, .xbox 95 [.one (.i r0.Me), .one (.i r0.Regions), .one (.i r0.Step), .one (.sl 1 (r0.Home.map eI)), .one (.sl 1 (r0.Heard.map eB)), .one (.sl 1 (r0.Sets.map (eL 1 eI))), .one (.sl 1 (r0.States.map eS)), .one (.sl 3 (r0.Tasks.map eTask)), .one (.sl 1 (nf8_23.map eB)), .one (.sl 1 (nf9_24.map eS)), .row 113]), (113, .row 42 7 (out_25.map eNotice))]⟩) [6, 9, 10, 11, 113, 114, 115] [102, 104, 108, 113] rfl ?_))))
       rintro ⟨nf8_23, nf9_24, out_25, x_26⟩ o28 h29 hy30
       refine Tri.seq (Tri.regionL ?_)
       refine Oc (op_lss rfl rfl) (OpsL.nilS ⟨[(6, _), (9, _), (10, _), (11, _), (113, _), (114, _), (115, _), (116, B (decide (x_26 < (x_2.Helpers.length : Int))))], [(102, _), (104, _), (108, _), (113, _)]⟩ rfl (Tri.seq (Tri.ite h29 rfl (fun _ h29 => ?_) (fun _ h29 => ?_))))
       ·refine Tri.skip (Fin.keepS ⟨[(6, _), (9, _), (10, _), (11, _), (113, _), (114, _), (115, _)], [(102, _), (104, _), (108, _), (113, _)]⟩ rfl (Fin.then (Tri.seq (Tri.block (Tri.seq (Tri.regionL ?_))))))
        obtain ⟨x_30, e31, h29⟩ := bnd h29
        refine Oc (op_index_e tySl22 (ix_lo e31) (ix_map (e := eI) e31) rfl rfl) (Oc (op_load_e1 tyOne3 rfl rfl) (Oc oa ?_))
        refine OpsL.nilS ⟨[(6, _), (9, _), (10, _), (11, _), (15, I x_30), (113, _), (114, _), (115, _)], [(102, _), (104, _), (108, _), (113, _)]⟩ rfl (Tri.seq (Tri.regionL ?_))
        refine Oc om (Oc (op_field_p tyFld59_1 rfl rfl) (Oc (op_load_p1 tyOne22 rfl rfl rfl) (Oc om ?_)))
        obtain ⟨x_31, e32, h29⟩ := bnd h29
        refine Oc (op_call (own_a := [(108, _), (113, _)]) ((((owner_node_of_spec e32).sw 1 108).sw 2 113).sw 51 115) goes55 rfl ⟨rfl, rfl, trivial⟩ rfl rfl) (Oc oa ?_)
        refine OpsL.nilS ⟨[(6, _), (9, _), (10, _), (11, _), (15, _), (16, .b (.row 115)), (113, _), (114, _), (115, _)], [(102, _), (104, _), (108, _), (113, _), (115, .row 3 1 (x_31.map eI))]⟩ rfl (Tri.regionL (Oc om (Oc om (Oc om (Oc om (Oc om ?_))))))
        refine OpsL.persist 115 rfl (OpsL.keepS ⟨[(6, Pt 102 0), (9, Pt 104 0), (10, Pt 108 0), (11, .b (.one (.sl 1 (x_11.map eS)))), (113, .b (.one (.sl 1 (x_2.Helpers.map eI)))), (114, I (x_2.Helpers.length : Int)), (115, I x_26), (124, Pt 108 0), (125, I x_30), (126, .b (.one (.sl 1 (x_31.map eI)))), (127, .b (.one (.sl 1 (x_11.map eS)))), (128, .b (.one (.sl 1 (x_31.map eI))))], [(102, .box 31 [.i 0, .i 0, .i 0, .nil, .nil, .nil, .nil, .nil, .nil, .nil]), (104, .box 59 (eTask x_2)), (108, .xbox 95 [.one (.i r0.Me), .one (.i r0.Regions), .one (.i r0.Step), .one (.sl 1 (r0.Home.map eI)), .one (.sl 1 (r0.Heard.map eB)), .one (.sl 1 (r0.Sets.map (eL 1 eI))), .one (.sl 1 (r0.States.map eS)), .one (.sl 3 (r0.Tasks.map eTask)), .one (.sl 1 (nf8_23.map eB)), .one (.sl 1 (nf9_24.map eS)), .row 113]), (113, .row 42 7 (out_25.map eNotice))]⟩ rfl ?_)
        obtain ⟨x_32, e33, h29⟩ := bnd h29
        refine Oc (op_call (owner_texts_spec 116 e33) goes56 rfl trivial rfl rfl) (OpsL.persist 116 rfl (OpsL.consA eNotice h29 rfl (Op1.nilA (.same (.same (.same (.same (.sl (size := 1) (by decide) (.same (.same (.nil)))))))) (op_build tyBuild42 rfl rfl)) (fun x_33 h29 => ?_)))
        obtain ⟨x_34, e34, h29⟩ := bnd h29
        refine Oc (op_call (own_a := [(108, _), (113, _)]) (((owner_node_send_spec e34).sw 1 108).sw 2 113) goes43 rfl ⟨rfl, rfl, trivial⟩ rfl rfl) (OpsL.nil (Fin.block_normal (Fin.keepS ⟨[(6, Pt 102 0), (9, Pt 104 0), (10, Pt 108 0), (11, .b (.one (.sl 1 (x_11.map eS)))), (113, .b (.one (.sl 1 (x_2.Helpers.map eI)))), (114, I (x_2.Helpers.length : Int)), (115, I x_26)], [(102, .box 31 [.i 0, .i 0, .i 0, .nil, .nil, .nil, .nil, .nil, .nil, .nil]), (104, .box 59 (eTask x_2)), (108, .xbox 95 [.one (.i r0.Me), .one (.i r0.Regions), .one (.i r0.Step), .one (.sl 1 (r0.Home.map eI)), .one (.sl 1 (r0.Heard.map eB)), .one (.sl 1 (r0.Sets.map (eL 1 eI))), .one (.sl 1 (r0.States.map eS)), .one (.sl 3 (r0.Tasks.map eTask)), .one (.sl 1 (nf8_23.map eB)), .one (.sl 1 (nf9_24.map eS)), .row 113]), (113, .row 42 7 (x_34.map eNotice))]⟩ rfl (Fin.then (Tri.regionL ?_)))))
        refine Oc (op_add rfl rfl) (Oc om ?_)
        refine OpsL.nil ?_
        exact Fin.againJ [6, 9, 10, 11, 113, 114, 115] [102, 104, 108, 113] (nf8_23, nf9_24, x_34, IntKind.i64.wrap (x_26 + 1)) (Option.some.inj h29) rfl
       ·refine Tri.exit (Fin.then_exit ?_)
        obtain rfl := hy30 _ (Option.some.inj h29).symm
        refine Fin.then_exit (Fin.block_exit ?_)
        exact Fin.join [6, 10] [102, 108, 113] (nf8_23, nf9_24, out_25) rfl rfl
      ·rintro ⟨nf8_20, nf9_21, out_22⟩ hv
       subst v26
       refine Tri.seq (Tri.keepS ⟨[(6, _), (10, _)], [(102, _), (108, _), (113, _)]⟩ rfl (Tri.regionW mixed [false, false, false, false, false, false, false, false, true, false, false] [Pt 108 0, Pt 108 0, Pt 108 0, .b (.agg [.i r0.Me, .i r0.Regions, .i r0.Step, .sl 1 (r0.Home.map eI), .sl 1 (r0.Heard.map eB), .sl 1 (r0.Sets.map (eL 1 eI)), .sl 1 (r0.States.map eS), .sl 3 (r0.Tasks.map eTask), .sl 1 (nf8_20.map eB), .sl 1 (nf9_21.map eS)]), Pt 108 0, Pt 108 0, Pt 108 10, .b (.row 113), B true, .b (.row 113), I 0] [⟨[false, false, false, false, false, false, false, false, false, false, false], [(6, Pt 102 0), (10, Pt 108 0)], [(102, .box 31 [.i 0, .i 0, .i 0, .nil, .nil, .nil, .nil, .nil, .nil, .nil]), (108, .xbox 95 [.one (.i r0.Me), .one (.i r0.Regions), .one (.i r0.Step), .one (.sl 1 (r0.Home.map eI)), .one (.sl 1 (r0.Heard.map eB)), .one (.sl 1 (r0.Sets.map (eL 1 eI))), .one (.sl 1 (r0.States.map eS)), .one (.sl 3 (r0.Tasks.map eTask)), .one (.sl 1 (nf8_20.map eB)), .one (.sl 1 (nf9_21.map eS)), .row 113]), (113, .row 42 7 (out_22.map eNotice))], [true, true, true, true, true, true, true, true, true, true, true], [], [9, 10]⟩, ⟨[false, false, false, false, false, false, false, false, true, false, false], [(6, Pt 102 0), (10, Pt 108 0)], [(102, .box 31 [.i r0.Me, .i r0.Regions, .i r0.Step, .sl 1 (r0.Home.map eI), .sl 1 (r0.Heard.map eB), .sl 1 (r0.Sets.map (eL 1 eI)), .sl 1 (r0.States.map eS), .sl 3 (r0.Tasks.map eTask), .sl 1 (nf8_20.map eB), .sl 1 (nf9_21.map eS)]), (108, .xbox 95 [.one (.i r0.Me), .one (.i r0.Regions), .one (.i r0.Step), .one (.sl 1 (r0.Home.map eI)), .one (.sl 1 (r0.Heard.map eB)), .one (.sl 1 (r0.Sets.map (eL 1 eI))), .one (.sl 1 (r0.States.map eS)), .one (.sl 3 (r0.Tasks.map eTask)), .one (.sl 1 (nf8_20.map eB)), .one (.sl 1 (nf9_21.map eS)), .row 113]), (113, .row 42 7 (out_22.map eNotice))], [true, true, true, true, true, true, true, true, true, true, true], [0, 1, 2, 3, 8], []⟩] rfl (⟨by kernel_rfl, ⟨⟨Pt 108 0, fun _ => rfl, fun _ => .p (by exact op_move rfl)⟩, ⟨Pt 108 0, fun _ => rfl, fun _ => .p (by exact op_nilCheck_p rfl)⟩, ⟨Pt 108 0, fun _ => rfl, fun _ => .p (by exact op_field_p tyFld95_0 rfl rfl)⟩, ⟨.b (.agg [.i r0.Me, .i r0.Regions, .i r0.Step, .sl 1 (r0.Home.map eI), .sl 1 (r0.Heard.map eB), .sl 1 (r0.Sets.map (eL 1 eI)), .sl 1 (r0.States.map eS), .sl 3 (r0.Tasks.map eTask), .sl 1 (nf8_20.map eB), .sl 1 (nf9_21.map eS)]), fun _ => rfl, fun _ => .p (by exact op_load_xp tyAgg31 rfl rfl rfl rfl)⟩, ⟨Pt 108 0, fun _ => rfl, fun _ => .p (by exact op_move rfl)⟩, ⟨Pt 108 0, fun _ => rfl, fun _ => .p (by exact op_nilCheck_p rfl)⟩, ⟨Pt 108 10, fun _ => rfl, fun _ => .p (by exact op_field_p tyFld95_1 rfl rfl)⟩, ⟨.b (.row 113), fun _ => rfl, fun _ => .p (by exact op_load_x1 tyOne32 rfl rfl rfl)⟩, ⟨_, [], .b (.one .any), rfl, (fun e => by simp at e), rfl, rfl, fun _ => .toO [102, 108, 113] (by exact .p (by exact op_store_p tyAgg31 rfl rfl rfl rfl (Nat.le_of_ble_eq_true rfl) rfl)) (by exact rfl)⟩, trivial, trivial, trivial⟩, ⟨by kernel_rfl, ⟨trivial, trivial, trivial, trivial, ⟨Pt 108 0, fun _ => rfl, fun _ => .p (by exact op_move rfl)⟩, ⟨Pt 108 0, fun _ => rfl, fun _ => .p (by exact op_nilCheck_p rfl)⟩, ⟨Pt 108 10, fun _ => rfl, fun _ => .p (by exact op_field_p tyFld95_1 rfl rfl)⟩, ⟨.b (.row 113), fun _ => rfl, fun _ => .p (by exact op_load_x1 tyOne32 rfl rfl rfl)⟩, trivial, ⟨.b (.row 113), fun _ => rfl, fun _ => .p (by exact op_assign rfl)⟩, ⟨I 0, fun _ => rfl, fun _ => .p (by exact op_assign rfl)⟩, trivial⟩, trivial⟩⟩) rfl rfl rfl [6, 7, 8] [102, 113] (s' := ⟨[(6, _), (7, .b (.row 113)), (8, I 0)], [(102, .box 31 [.i r0.Me, .i r0.Regions, .i r0.Step, .sl 1 (r0.Home.map eI), .sl 1 (r0.Heard.map eB), .sl 1 (r0.Sets.map (eL 1 eI)), .sl 1 (r0.States.map eS), .sl 3 (r0.Tasks.map eTask), .sl 1 (nf8_20.map eB), .sl 1 (nf9_21.map eS)]), (113, _)]⟩) rfl ?_))
       refine Tri.ret ?_
       obtain rfl := Option.some.inj h
       refine Fin.keepS ⟨[(6, _), (7, _), (8, _)], [(102, _), (113, _)]⟩ rfl (Fin.resultK 113 kr0 [.agg [.i r0.Me, .i r0.Regions, .i r0.Step, .sl 1 (r0.Home.map eI), .sl 1 (r0.Heard.map eB), .sl 1 (r0.Sets.map (eL 1 eI)), .sl 1 (r0.States.map eS), .sl 3 (r0.Tasks.map eTask), .sl 1 (nf8_20.map eB), .sl 1 (nf9_21.map eS)], .row 113, .one (.i 0)] (.inl rfl) rfl (.cons (.agg tyAgg31 rfl rfl rfl rfl) (.cons (.tmp rfl) (.cons (.tmp rfl) .nil))) rfl rfl rfl rfl ⟨rfl, rfl⟩)
def skewbackref35_Same_S (F : Nat) (a0 : List Int) (b0 : List Int) : Option Bool :=
 if (decide ((a0.length : Int) ≠ (b0.length : Int))) = true then (some false) else (Option.bind (iter F (fun i_1 => if (decide (i_1 < (a0.length : Int))) = true then ((idx? a0 i_1).bind fun x_2 => (idx? b0 i_1).bind fun x_3 => if (decide (x_2 ≠ x_3)) = true then (some (.inr (.inr false))) else (some (.inl (IntKind.i64.wrap (i_1 + 1))))) else (some (.inr (.inl ())))) 0) (alt2 (fun _ => some true) (fun y => some y)))
theorem skewbackref35_Same_spec {F : Nat} {a0 : List Int} {b0 : List Int} {r : Bool} (h : skewbackref35_Same_S F a0 b0 = some r) : Meets Try.prog [] 19 [] [.one (.sl 1 (a0.map eI)), .one (.sl 1 (b0.map eI))] (Is [] (.b (.one (.bool r)))) := by
 unfold skewbackref35_Same_S at h
 refine Meets.intro 26 Try.func19 Try.ntmps19 rfl (by simp) fun E => ?_
 show Tri _ E ⟨26, [], [], []⟩ _ ⟨[(0, .b (.one (.sl 1 (a0.map eI)))), (1, .b (.one (.sl 1 (b0.map eI))))], []⟩ _
 refine Tri.seq (Tri.regionL ?_)
 refine Oc oa (OpsL.nilS ⟨[(0, .b (.one (.sl 1 (a0.map eI)))), (1, .b (.one (.sl 1 (b0.map eI))))], []⟩ rfl (Tri.seq (Tri.seq (Tri.regionL ?_))))
 refine Oc om (Oc (op_len_e' und22 rfl (List.length_map _)) (Oc om (Oc (op_len_e' und22 rfl (List.length_map _)) (Oc (op_neq rfl rfl) ?_))))
 refine OpsL.nilS ⟨[(0, _), (1, _), (10, B (decide ((a0.length : Int) ≠ (b0.length : Int))))], []⟩ rfl (Tri.ite h rfl (fun _ h => ?_) (fun _ h => ?_))
 ·refine Tri.seq (Tri.regionL ?_)
  refine Oc oa (OpsL.nilS ⟨[(4, B false)], []⟩ rfl (Tri.ret (Fin.then_ret ?_)))
  obtain rfl := Option.some.inj h
  refine Fin.keepS ⟨[(4, _)], []⟩ rfl (Fin.result' [.one (.bool false)] (.inl rfl) rfl (.cons (.tmp rfl) .nil) ⟨rfl, rfl⟩)
 ·refine Tri.skip (Fin.keepS ⟨[(0, _), (1, _)], []⟩ rfl (Fin.then ?_))
  obtain ⟨v1, h2, h⟩ := bnd h
  refine Tri.seqJ (v := v1) (fun (_ : Unit) => ⟨[], []⟩) (fun z => .inl z) ?_ ?_
  ·refine Tri.seq (Tri.regionL ?_)
   refine Oc oa (OpsL.nilS ⟨[(0, _), (1, _), (5, I 0)], []⟩ rfl (Tri.block (Tri.loopJ h2 (fun (i_1 : Int) => ⟨[(0, .b (.one (.sl 1 (a0.map eI)))), (1, .b (.one (.sl 1 (b0.map eI)))), (5, I i_1)], []⟩) [0, 1, 5] [] rfl ?_)))
   rintro i_1 o3 h4 hy5
   refine Tri.seq (Tri.seq (Tri.regionL ?_))
   refine Oc om (Oc om (Oc (op_len_e' und22 rfl (List.length_map _)) (Oc (op_lss rfl rfl) ?_)))
   refine OpsL.nilS ⟨[(0, _), (1, _), (5, _), (14, B (decide (i_1 < (a0.length : Int))))], []⟩ rfl (Tri.ite h4 rfl (fun _ h4 => ?_) (fun _ h4 => ?_))
   ·refine Tri.skip (Fin.keepS ⟨[(0, _), (1, _), (5, _)], []⟩ rfl (Fin.then (Tri.seq (Tri.block (Tri.seq ?_)))))
    refine Tri.keepS ⟨[(0, _), (1, _), (5, _)], []⟩ rfl ?_
    obtain ⟨x_2, e6, h4⟩ := bnd h4
    obtain ⟨x_3, e7, h4⟩ := bnd h4
    refine Tri.regionY mixed 9 [.b (.one (.sl 1 (a0.map eI))), I i_1, .b (.eptr [.i x_2]), I x_2, .b (.one (.sl 1 (b0.map eI))), I i_1, .b (.eptr [.i x_3]), I x_3, B (decide (x_2 ≠ x_3))] [0, 1, 5, 25] [] (s' := ⟨[(0, _), (1, _), (5, _), (25, B (decide (x_2 ≠ x_3)))], []⟩) rfl ⟨fun _ => .p om, fun _ => .p om, fun _ => .p (op_index_e tySl22 (ix_lo e6) (ix_map (e := eI) e6) rfl rfl), fun _ => .p (op_load_e1 tyOne3 rfl rfl), fun _ => .p om, fun _ => .p om, fun _ => .p (op_index_e tySl22 (ix_lo e7) (ix_map (e := eI) e7) rfl rfl), fun _ => .p (op_load_e1 tyOne3 rfl rfl), fun _ => .p (op_neq rfl rfl), trivial⟩ rfl rfl (Tri.ite h4 rfl (fun _ h4 => ?_) (fun _ h4 => ?_))
    ·refine Tri.seq (Tri.regionL ?_)
     refine Oc oa (OpsL.nilS ⟨[(4, B false)], []⟩ rfl (Tri.ret (Fin.block_ret (Fin.then_ret ?_))))
     obtain rfl := hy5 _ (Option.some.inj h4).symm
     refine Fin.then_ret (Fin.block_ret (Fin.then_ret ?_))
     obtain rfl := Option.some.inj h
     refine Fin.keepS ⟨[(4, _)], []⟩ rfl (Fin.result' [.one (.bool false)] (.inl rfl) rfl (.cons (.tmp rfl) .nil) ⟨rfl, rfl⟩)
    ·refine Tri.skip (Fin.block_normal (Fin.keepS ⟨[(0, _), (1, _), (5, _)], []⟩ rfl (Fin.then (Tri.regionL ?_))))
     refine Oc om (Oc (op_add rfl rfl) (Oc oa ?_))
     refine OpsL.nil ?_
     exact Fin.againJ [0, 1, 5] [] (IntKind.i64.wrap (i_1 + 1)) (Option.some.inj h4) rfl
   ·refine Tri.exit (Fin.then_exit ?_)
    obtain rfl := hy5 _ (Option.some.inj h4).symm
    refine Fin.then_exit (Fin.block_exit ?_)
    exact Fin.join [] [] () rfl rfl
  ·rintro _ hv
   subst v1
   refine Tri.seq (Tri.regionL ?_)
   refine Oc oa (OpsL.nilS ⟨[(4, B true)], []⟩ rfl (Tri.ret ?_))
   obtain rfl := Option.some.inj h
   refine Fin.keepS ⟨[(4, _)], []⟩ rfl (Fin.result' [.one (.bool true)] (.inl rfl) rfl (.cons (.tmp rfl) .nil) ⟨rfl, rfl⟩)
def skewbackref44_SameTasks_S (F : Nat) (a0 : List Task) (b0 : List Task) : Option Bool :=
 if (decide ((a0.length : Int) ≠ (b0.length : Int))) = true then (some false) else (Option.bind (iter F (fun i_1 => if (decide (i_1 < (a0.length : Int))) = true then ((idx? a0 i_1).bind fun x_2 => (idx? b0 i_1).bind fun x_3 => (gcall (!(decide (x_2.Owner ≠ x_3.Owner))) (idx? a0 i_1)).bind fun x_4 => (gcall (!(decide (x_2.Owner ≠ x_3.Owner))) (idx? b0 i_1)).bind fun x_5 => (gcall (!(decide (x_2.Owner ≠ x_3.Owner))) (skewbackref35_Same_S F x_4.Bodies x_5.Bodies)).bind fun x_6 => (gcall (!((decide (x_2.Owner ≠ x_3.Owner)) || (!x_6))) (idx? a0 i_1)).bind fun x_7 => (gcall (!((decide (x_2.Owner ≠ x_3.Owner)) || (!x_6))) (idx? b0 i_1)).bind fun x_8 => (gcall (!((decide (x_2.Owner ≠ x_3.Owner)) || (!x_6))) (skewbackref35_Same_S F x_7.Helpers x_8.Helpers)).bind fun x_9 => if (((decide (x_2.Owner ≠ x_3.Owner)) || (!x_6)) || (!x_9)) = true then (some (.inr (.inr false))) else (some (.inl (IntKind.i64.wrap (i_1 + 1))))) else (some (.inr (.inl ())))) 0) (alt2 (fun _ => some true) (fun y => some y)))
theorem skewbackref44_SameTasks_spec {F : Nat} {a0 : List Task} {b0 : List Task} {r : Bool} (h : skewbackref44_SameTasks_S F a0 b0 = some r) : Meets Try.prog [] 32 [] [.one (.sl 3 (a0.map eTask)), .one (.sl 3 (b0.map eTask))] (Is [] (.b (.one (.bool r)))) := by
 unfold skewbackref44_SameTasks_S at h
 refine Meets.intro 56 Try.func32 Try.ntmps32 rfl (by simp) fun E => ?_
 show Tri _ E ⟨56, [], [], []⟩ _ ⟨[(0, .b (.one (.sl 3 (a0.map eTask)))), (1, .b (.one (.sl 3 (b0.map eTask))))], []⟩ _
 refine Tri.seq (Tri.regionL ?_)
 refine Oc oa (OpsL.nilS ⟨[(0, .b (.one (.sl 3 (a0.map eTask)))), (1, .b (.one (.sl 3 (b0.map eTask))))], []⟩ rfl (Tri.seq (Tri.seq (Tri.regionL ?_))))
 refine Oc om (Oc (op_len_e' und29 rfl (List.length_map _)) (Oc om (Oc (op_len_e' und29 rfl (List.length_map _)) (Oc (op_neq rfl rfl) ?_))))
 refine OpsL.nilS ⟨[(0, _), (1, _), (10, B (decide ((a0.length : Int) ≠ (b0.length : Int))))], []⟩ rfl (Tri.ite h rfl (fun _ h => ?_) (fun _ h => ?_))
 ·refine Tri.seq (Tri.regionL ?_)
  refine Oc oa (OpsL.nilS ⟨[(4, B false)], []⟩ rfl (Tri.ret (Fin.then_ret ?_)))
  obtain rfl := Option.some.inj h
  refine Fin.keepS ⟨[(4, _)], []⟩ rfl (Fin.result' [.one (.bool false)] (.inl rfl) rfl (.cons (.tmp rfl) .nil) ⟨rfl, rfl⟩)
 ·refine Tri.skip (Fin.keepS ⟨[(0, _), (1, _)], []⟩ rfl (Fin.then ?_))
  obtain ⟨v1, h2, h⟩ := bnd h
  refine Tri.seqJ (v := v1) (fun (_ : Unit) => ⟨[], []⟩) (fun z => .inl z) ?_ ?_
  ·refine Tri.seq (Tri.regionL ?_)
   refine Oc oa (OpsL.nilS ⟨[(0, _), (1, _), (5, I 0)], []⟩ rfl (Tri.block (Tri.loopJ h2 (fun (i_1 : Int) => ⟨[(0, .b (.one (.sl 3 (a0.map eTask)))), (1, .b (.one (.sl 3 (b0.map eTask)))), (5, I i_1)], []⟩) [0, 1, 5] [] rfl ?_)))
   rintro i_1 o3 h4 hy5
   refine Tri.seq (Tri.seq (Tri.regionL ?_))
   refine Oc om (Oc om (Oc (op_len_e' und29 rfl (List.length_map _)) (Oc (op_lss rfl rfl) ?_)))
   refine OpsL.nilS ⟨[(0, _), (1, _), (5, _), (14, B (decide (i_1 < (a0.length : Int))))], []⟩ rfl (Tri.ite h4 rfl (fun _ h4 => ?_) (fun _ h4 => ?_))
   ·refine Tri.skip (Fin.keepS ⟨[(0, _), (1, _), (5, _)], []⟩ rfl (Fin.then (Tri.seq (Tri.block (Tri.seq ?_)))))
    refine Tri.keepS ⟨[(0, _), (1, _), (5, _)], []⟩ rfl ?_
    obtain ⟨x_2, e6, h4⟩ := bnd h4
    obtain ⟨x_3, e7, h4⟩ := bnd h4
    obtain ⟨x_4, e11, h4⟩ := bnd h4
    obtain ⟨x_5, e17, h4⟩ := bnd h4
    obtain ⟨x_6, e21, h4⟩ := bnd h4
    obtain ⟨x_7, e26, h4⟩ := bnd h4
    obtain ⟨x_8, e32, h4⟩ := bnd h4
    obtain ⟨x_9, e36, h4⟩ := bnd h4
    refine Tri.regionY mixed 39 [.b (.one (.sl 3 (a0.map eTask))), I i_1, .b (.eptr (eTask x_2)), .b (.eptr (eTask x_2)), I x_2.Owner, .b (.one (.sl 3 (b0.map eTask))), I i_1, .b (.eptr (eTask x_3)), .b (.eptr (eTask x_3)), I x_3.Owner, B (decide (x_2.Owner ≠ x_3.Owner)), B (decide (x_2.Owner ≠ x_3.Owner)), .opt (!(decide (x_2.Owner ≠ x_3.Owner))) (.one (.sl 3 (a0.map eTask))), .opt (!(decide (x_2.Owner ≠ x_3.Owner))) (.one (.i i_1)), .opt (!(decide (x_2.Owner ≠ x_3.Owner))) (.eptr (eTask x_4)), .opt (!(decide (x_2.Owner ≠ x_3.Owner))) (.eptr [.sl 1 (x_4.Bodies.map eI), .sl 1 (x_4.Helpers.map eI)]), .opt (!(decide (x_2.Owner ≠ x_3.Owner))) (.one (.sl 1 (x_4.Bodies.map eI))), .opt (!(decide (x_2.Owner ≠ x_3.Owner))) (.one (.sl 3 (b0.map eTask))), .opt (!(decide (x_2.Owner ≠ x_3.Owner))) (.one (.i i_1)), .opt (!(decide (x_2.Owner ≠ x_3.Owner))) (.eptr (eTask x_5)), .opt (!(decide (x_2.Owner ≠ x_3.Owner))) (.eptr [.sl 1 (x_5.Bodies.map eI), .sl 1 (x_5.Helpers.map eI)]), .opt (!(decide (x_2.Owner ≠ x_3.Owner))) (.one (.sl 1 (x_5.Bodies.map eI))), .opt (!(decide (x_2.Owner ≠ x_3.Owner))) (.one (.bool x_6)), .opt (!(decide (x_2.Owner ≠ x_3.Owner))) (.one (.bool (!x_6))), B ((decide (x_2.Owner ≠ x_3.Owner)) || (!x_6)), B ((decide (x_2.Owner ≠ x_3.Owner)) || (!x_6)), .opt (!((decide (x_2.Owner ≠ x_3.Owner)) || (!x_6))) (.one (.sl 3 (a0.map eTask))), .opt (!((decide (x_2.Owner ≠ x_3.Owner)) || (!x_6))) (.one (.i i_1)), .opt (!((decide (x_2.Owner ≠ x_3.Owner)) || (!x_6))) (.eptr (eTask x_7)), .opt (!((decide (x_2.Owner ≠ x_3.Owner)) || (!x_6))) (.eptr [.sl 1 (x_7.Helpers.map eI)]), .opt (!((decide (x_2.Owner ≠ x_3.Owner)) || (!x_6))) (.one (.sl 1 (x_7.Helpers.map eI))), .opt (!((decide (x_2.Owner ≠ x_3.Owner)) || (!x_6))) (.one (.sl 3 (b0.map eTask))), .opt (!((decide (x_2.Owner ≠ x_3.Owner)) || (!x_6))) (.one (.i i_1)), .opt (!((decide (x_2.Owner ≠ x_3.Owner)) || (!x_6))) (.eptr (eTask x_8)), .opt (!((decide (x_2.Owner ≠ x_3.Owner)) || (!x_6))) (.eptr [.sl 1 (x_8.Helpers.map eI)]), .opt (!((decide (x_2.Owner ≠ x_3.Owner)) || (!x_6))) (.one (.sl 1 (x_8.Helpers.map eI))), .opt (!((decide (x_2.Owner ≠ x_3.Owner)) || (!x_6))) (.one (.bool x_9)), .opt (!((decide (x_2.Owner ≠ x_3.Owner)) || (!x_6))) (.one (.bool (!x_9))), B (((decide (x_2.Owner ≠ x_3.Owner)) || (!x_6)) || (!x_9))] [0, 1, 5, 55] [] (s' := ⟨[(0, _), (1, _), (5, _), (55, B (((decide (x_2.Owner ≠ x_3.Owner)) || (!x_6)) || (!x_9)))], []⟩) rfl ⟨fun _ => .p om, fun _ => .p om, fun _ => .p (op_index_e tySl29 (ix_lo e6) (ix_map (e := eTask) e6) rfl rfl), fun _ => by exact .p (op_field_e tyFld59_0 rfl rfl), fun _ => .p (op_load_e1 tyOne3 rfl rfl), fun _ => .p om, fun _ => .p om, fun _ => .p (op_index_e tySl29 (ix_lo e7) (ix_map (e := eTask) e7) rfl rfl), fun _ => by exact .p (op_field_e tyFld59_0 rfl rfl), fun _ => .p (op_load_e1 tyOne3 rfl rfl), fun _ => .p (op_neq rfl rfl), fun _ => .p om, fun _ => by exact .guard (!(decide (x_2.Owner ≠ x_3.Owner))) 1 [] (.plain rfl) (eq_f _) rfl rfl (fun g8 => trivial) (fun g8 => om), fun _ => by exact .guard (!(decide (x_2.Owner ≠ x_3.Owner))) 1 [] (.plain rfl) (eq_f _) rfl rfl (fun g9 => trivial) (fun g9 => om), fun _ => by exact .guard (!(decide (x_2.Owner ≠ x_3.Owner))) 3 [29, 30] (.plain rfl) (eq_f _) rfl rfl (fun g10 => ⟨g10, g10, trivial⟩) (fun g10 => op_index_e tySl29 (ix_lo (gc e11 g10)) (ix_map (e := eTask) (gc e11 g10)) rfl rfl), fun _ => by exact .guard (!(decide (x_2.Owner ≠ x_3.Owner))) 2 [31] (.plain rfl) (eq_f _) rfl rfl (fun g12 => ⟨g12, trivial⟩) (fun g12 => op_field_e tyFld59_1 rfl rfl), fun _ => by exact .guard (!(decide (x_2.Owner ≠ x_3.Owner))) 2 [32] (.plain rfl) (eq_f _) rfl rfl (fun g13 => ⟨g13, trivial⟩) (fun g13 => op_load_e1 tyOne22 rfl rfl), fun _ => by exact .guard (!(decide (x_2.Owner ≠ x_3.Owner))) 1 [] (.plain rfl) (eq_f _) rfl rfl (fun g14 => trivial) (fun g14 => om), fun _ => by exact .guard (!(decide (x_2.Owner ≠ x_3.Owner))) 1 [] (.plain rfl) (eq_f _) rfl rfl (fun g15 => trivial) (fun g15 => om), fun _ => by exact .guard (!(decide (x_2.Owner ≠ x_3.Owner))) 3 [34, 35] (.plain rfl) (eq_f _) rfl rfl (fun g16 => ⟨g16, g16, trivial⟩) (fun g16 => op_index_e tySl29 (ix_lo (gc e17 g16)) (ix_map (e := eTask) (gc e17 g16)) rfl rfl), fun _ => by exact .guard (!(decide (x_2.Owner ≠ x_3.Owner))) 2 [36] (.plain rfl) (eq_f _) rfl rfl (fun g18 => ⟨g18, trivial⟩) (fun g18 => op_field_e tyFld59_1 rfl rfl), fun _ => by exact .guard (!(decide (x_2.Owner ≠ x_3.Owner))) 2 [37] (.plain rfl) (eq_f _) rfl rfl (fun g19 => ⟨g19, trivial⟩) (fun g19 => op_load_e1 tyOne22 rfl rfl), fun _ => by exact .guard (!(decide (x_2.Owner ≠ x_3.Owner))) 4 [33, 38] (.plain rfl) (eq_f _) rfl rfl (fun g20 => ⟨g20, g20, trivial⟩) (fun g20 => op_call0 (skewbackref35_Same_spec (gc e21 g20)) goes19 rfl rfl), fun _ => by exact .guard (!(decide (x_2.Owner ≠ x_3.Owner))) 2 [39] (.plain rfl) (eq_f _) rfl rfl (fun g22 => ⟨g22, trivial⟩) (fun g22 => op_not rfl), fun _ => .p (op_pick_or (fun e => by first | (rw [e]; rfl) | (simp only at e; rw [e]; rfl)) rfl rfl rfl rfl), fun _ => .p om, fun _ => by exact .guard (!((decide (x_2.Owner ≠ x_3.Owner)) || (!x_6))) 1 [] (.plain rfl) (eq_f _) rfl rfl (fun g23 => trivial) (fun g23 => om), fun _ => by exact .guard (!((decide (x_2.Owner ≠ x_3.Owner)) || (!x_6))) 1 [] (.plain rfl) (eq_f _) rfl rfl (fun g24 => trivial) (fun g24 => om), fun _ => by exact .guard (!((decide (x_2.Owner ≠ x_3.Owner)) || (!x_6))) 3 [43, 44] (.plain rfl) (eq_f _) rfl rfl (fun g25 => ⟨g25, g25, trivial⟩) (fun g25 => op_index_e tySl29 (ix_lo (gc e26 g25)) (ix_map (e := eTask) (gc e26 g25)) rfl rfl), fun _ => by exact .guard (!((decide (x_2.Owner ≠ x_3.Owner)) || (!x_6))) 2 [45] (.plain rfl) (eq_f _) rfl rfl (fun g27 => ⟨g27, trivial⟩) (fun g27 => op_field_e tyFld59_2 rfl rfl), fun _ => by exact .guard (!((decide (x_2.Owner ≠ x_3.Owner)) || (!x_6))) 2 [46] (.plain rfl) (eq_f _) rfl rfl (fun g28 => ⟨g28, trivial⟩) (fun g28 => op_load_e1 tyOne22 rfl rfl), fun _ => by exact .guard (!((decide (x_2.Owner ≠ x_3.Owner)) || (!x_6))) 1 [] (.plain rfl) (eq_f _) rfl rfl (fun g29 => trivial) (fun g29 => om), fun _ => by exact .guard (!((decide (x_2.Owner ≠ x_3.Owner)) || (!x_6))) 1 [] (.plain rfl) (eq_f _) rfl rfl (fun g30 => trivial) (fun g30 => om), fun _ => by exact .guard (!((decide (x_2.Owner ≠ x_3.Owner)) || (!x_6))) 3 [48, 49] (.plain rfl) (eq_f _) rfl rfl (fun g31 => ⟨g31, g31, trivial⟩) (fun g31 => op_index_e tySl29 (ix_lo (gc e32 g31)) (ix_map (e := eTask) (gc e32 g31)) rfl rfl), fun _ => by exact .guard (!((decide (x_2.Owner ≠ x_3.Owner)) || (!x_6))) 2 [50] (.plain rfl) (eq_f _) rfl rfl (fun g33 => ⟨g33, trivial⟩) (fun g33 => op_field_e tyFld59_2 rfl rfl), fun _ => by exact .guard (!((decide (x_2.Owner ≠ x_3.Owner)) || (!x_6))) 2 [51] (.plain rfl) (eq_f _) rfl rfl (fun g34 => ⟨g34, trivial⟩) (fun g34 => op_load_e1 tyOne22 rfl rfl), fun _ => by exact .guard (!((decide (x_2.Owner ≠ x_3.Owner)) || (!x_6))) 4 [47, 52] (.plain rfl) (eq_f _) rfl rfl (fun g35 => ⟨g35, g35, trivial⟩) (fun g35 => op_call0 (skewbackref35_Same_spec (gc e36 g35)) goes19 rfl rfl), fun _ => by exact .guard (!((decide (x_2.Owner ≠ x_3.Owner)) || (!x_6))) 2 [53] (.plain rfl) (eq_f _) rfl rfl (fun g37 => ⟨g37, trivial⟩) (fun g37 => op_not rfl), fun _ => .p (op_pick_or (fun e => by first | (rw [e]; rfl) | (simp only at e; rw [e]; rfl)) rfl rfl rfl rfl), trivial⟩ rfl rfl ?_
    refine Tri.ite h4 rfl (fun _ h4 => ?_) (fun _ h4 => ?_)
    ·refine Tri.seq (Tri.regionL ?_)
     refine Oc oa (OpsL.nilS ⟨[(4, B false)], []⟩ rfl (Tri.ret (Fin.block_ret (Fin.then_ret ?_))))
     obtain rfl := hy5 _ (Option.some.inj h4).symm
     refine Fin.then_ret (Fin.block_ret (Fin.then_ret ?_))
     obtain rfl := Option.some.inj h
     refine Fin.keepS ⟨[(4, _)], []⟩ rfl (Fin.result' [.one (.bool false)] (.inl rfl) rfl (.cons (.tmp rfl) .nil) ⟨rfl, rfl⟩)
    ·refine Tri.skip (Fin.block_normal (Fin.keepS ⟨[(0, _), (1, _), (5, _)], []⟩ rfl (Fin.then (Tri.regionL ?_))))
     refine Oc om (Oc (op_add rfl rfl) (Oc oa ?_))
     refine OpsL.nil ?_
     exact Fin.againJ [0, 1, 5] [] (IntKind.i64.wrap (i_1 + 1)) (Option.some.inj h4) rfl
   ·refine Tri.exit (Fin.then_exit ?_)
    obtain rfl := hy5 _ (Option.some.inj h4).symm
    refine Fin.then_exit (Fin.block_exit ?_)
    exact Fin.join [] [] () rfl rfl
  ·rintro _ hv
   subst v1
   refine Tri.seq (Tri.regionL ?_)
   refine Oc oa (OpsL.nilS ⟨[(4, B true)], []⟩ rfl (Tri.ret ?_))
   obtain rfl := Option.some.inj h
   refine Fin.keepS ⟨[(4, _)], []⟩ rfl (Fin.result' [.one (.bool true)] (.inl rfl) rfl (.cons (.tmp rfl) .nil) ⟨rfl, rfl⟩)
def owner_Finished_S (F : Nat) (r0 : Round) : Option Bool :=
 Option.bind (iter F (fun x_1 => if (decide (x_1 < (r0.Tasks.length : Int))) = true then ((idx? r0.Tasks x_1).bind fun x_2 => (gcall (decide (x_2.Owner = r0.Me)) (idx? r0.Done x_1)).bind fun x_3 => if ((decide (x_2.Owner = r0.Me)) && (!x_3)) = true then (some (.inr (.inr false))) else (some (.inl (IntKind.i64.wrap (x_1 + 1))))) else (some (.inr (.inl ())))) 0) (alt2 (fun _ => Option.bind (iter F (fun x_4 => if (decide (x_4 < (r0.Home.length : Int))) = true then ((idx? r0.Home x_4).bind fun x_5 => (gcall (decide (x_5 = r0.Me)) (idx? r0.Results x_4)).bind fun x_6 => if ((decide (x_5 = r0.Me)) && (decide (x_6 = []))) = true then (some (.inr (.inr false))) else (some (.inl (IntKind.i64.wrap (x_4 + 1))))) else (some (.inr (.inl ())))) 0) (alt2 (fun _ => (slices_Contains_S F r0.Heard false).bind fun x_7 => some (!x_7)) (fun y => some y))) (fun y => some y))
theorem owner_Finished_spec {F : Nat} {r0 : Round} {r : Bool} (h : owner_Finished_S F r0 = some r) : Meets Try.prog [] 22 [] [.agg (eRound r0)] (Is [] (.b (.one (.bool r)))) := by
 unfold owner_Finished_S at h
 refine Meets.intro 54 Try.func22 Try.ntmps22 rfl (by simp) fun E => ?_
 show Tri _ E ⟨54, [], [], []⟩ _ ⟨[(0, .b (.agg (eRound r0)))], []⟩ _
 refine Tri.seq (Tri.regionL ?_)
 refine Oc (op_box (k := 101) rfl rfl) (Oc oa ?_)
 refine OpsL.nilS ⟨[(1, Pt 101 0)], [(101, .box 31 (eRound r0))]⟩ rfl ?_
 obtain ⟨v1, h2, h⟩ := bnd h
 refine Tri.seqJ (v := v1) (fun (_ : Unit) => ⟨[(1, Pt 101 0)], [(101, .box 31 (eRound r0))]⟩) (fun z => .inl z) ?_ ?_
 ·refine Tri.seq (Tri.regionL ?_)
  refine Oc (op_field_p tyFld31_7 rfl rfl) (Oc (op_load_p1 tyOne29 rfl rfl rfl) (Oc (op_len_e' und29 rfl (List.length_map _)) (Oc om ?_)))
  refine OpsL.nilS ⟨[(1, _), (8, .b (.one (.sl 3 (r0.Tasks.map eTask)))), (9, I (r0.Tasks.length : Int)), (10, I 0)], [(101, _)]⟩ rfl (Tri.block (Tri.loopJ h2 (fun (x_1 : Int) => ⟨[(1, Pt 101 0), (8, .b (.one (.sl 3 (r0.Tasks.map eTask)))), (9, I (r0.Tasks.length : Int)), (10, I x_1)], [(101, .box 31 (eRound r0))]⟩) [1, 8, 9, 10] [101] rfl ?_))
  rintro x_1 o3 h4 hy5
  refine Tri.seq (Tri.regionL ?_)
  refine Oc (op_lss rfl rfl) (OpsL.nilS ⟨[(1, _), (8, _), (9, _), (10, _), (11, B (decide (x_1 < (r0.Tasks.length : Int))))], [(101, _)]⟩ rfl (Tri.seq (Tri.ite h4 rfl (fun _ h4 => ?_) (fun _ h4 => ?_))))
  ·refine Tri.skip (Fin.keepS ⟨[(1, _), (8, _), (9, _), (10, _)], [(101, _)]⟩ rfl (Fin.then (Tri.seq (Tri.block (Tri.seq (Tri.regionL ?_))))))
   refine Oc om ?_
   obtain ⟨x_2, e6, h4⟩ := bnd h4
   refine Oc (op_index_e tySl29 (ix_lo e6) (ix_map (e := eTask) e6) rfl rfl) (Oc (op_load_e tyAgg59 rfl rfl rfl) (Oc (op_alloc (k := 102) tyZero59 rfl) (Oc oa (Oc (op_store_p tyAgg59 rfl rfl rfl rfl (Nat.le_of_ble_eq_true rfl) rfl) ?_))))
   refine OpsL.nilS ⟨[(1, _), (3, I x_1), (4, Pt 102 0), (8, _), (9, _), (10, _)], [(101, _), (102, .box 59 (eTask x_2))]⟩ rfl (Tri.seq (Tri.regionL ?_))
   refine Oc (op_field_p tyFld59_0 rfl rfl) (Oc (op_load_p1 tyOne3 rfl rfl rfl) (Oc (op_field_p tyFld31_0 rfl rfl) (Oc (op_load_p1 tyOne3 rfl rfl rfl) (Oc (op_eql rfl rfl) (Oc om ?_)))))
   refine CgT (decide (x_2.Owner = r0.Me)) [] (fun g7 => trivial) (fun g7 => op_field_p tyFld31_8 rfl rfl) (OpsL.keepS ⟨[(1, _), (3, _), (8, _), (9, _), (10, _), (20, B (decide (x_2.Owner = r0.Me))), (21, .opt (decide (x_2.Owner = r0.Me)) (.ptr 101 8))], [(101, _)]⟩ rfl (CgT (decide (x_2.Owner = r0.Me)) [21] (fun g8 => ⟨g8, trivial⟩) (fun g8 => op_load_p1 tyOne28 rfl rfl rfl) (CgT (decide (x_2.Owner = r0.Me)) [] (fun g9 => trivial) (fun g9 => om) ?_)))
   obtain ⟨x_3, e11, h4⟩ := bnd h4
   refine CgT (decide (x_2.Owner = r0.Me)) [22, 23] (fun g10 => ⟨g10, g10, trivial⟩) (fun g10 => op_index_e tySl28 (ix_lo (gc e11 g10)) (ix_map (e := eB) (gc e11 g10)) rfl rfl) (CgT (decide (x_2.Owner = r0.Me)) [24] (fun g12 => ⟨g12, trivial⟩) (fun g12 => op_load_e1 tyOne4 rfl rfl) (CgT (decide (x_2.Owner = r0.Me)) [25] (fun g13 => ⟨g13, trivial⟩) (fun g13 => op_not rfl) (Oc (op_pick_and (fun e => e) rfl rfl rfl rfl) (OpsL.nilS ⟨[(1, _), (8, _), (9, _), (10, _), (27, B ((decide (x_2.Owner = r0.Me)) && (!x_3)))], [(101, _)]⟩ rfl (Tri.ite h4 rfl (fun _ h4 => ?_) (fun _ h4 => ?_))))))
   ·refine Tri.seq (Tri.regionL ?_)
    refine Oc oa (OpsL.nilS ⟨[(2, B false)], []⟩ rfl (Tri.ret (Fin.block_ret (Fin.then_ret ?_))))
    obtain rfl := hy5 _ (Option.some.inj h4).symm
    refine Fin.then_ret (Fin.block_ret (Fin.then_ret ?_))
    obtain rfl := Option.some.inj h
    refine Fin.keepS ⟨[(2, _)], []⟩ rfl (Fin.result' [.one (.bool false)] (.inl rfl) rfl (.cons (.tmp rfl) .nil) ⟨rfl, rfl⟩)
   ·refine Tri.skip (Fin.block_normal (Fin.keepS ⟨[(1, _), (8, _), (9, _), (10, _)], [(101, _)]⟩ rfl (Fin.then (Tri.regionL ?_))))
    refine Oc (op_add rfl rfl) (Oc om ?_)
    refine OpsL.nil ?_
    exact Fin.againJ [1, 8, 9, 10] [101] (IntKind.i64.wrap (x_1 + 1)) (Option.some.inj h4) rfl
  ·refine Tri.exit (Fin.then_exit ?_)
   obtain rfl := hy5 _ (Option.some.inj h4).symm
   refine Fin.then_exit (Fin.block_exit ?_)
   exact Fin.join [1] [101] () rfl rfl
 ·rintro _ hv
  subst v1
  obtain ⟨v14, h15, h⟩ := bnd h
  refine Tri.seqJ (v := v14) (fun (_ : Unit) => ⟨[(1, Pt 101 0)], [(101, .box 31 (eRound r0))]⟩) (fun z => .inl z) ?_ ?_
  ·refine Tri.seq (Tri.regionL ?_)
   refine Oc (op_field_p tyFld31_3 rfl rfl) (Oc (op_load_p1 tyOne22 rfl rfl rfl) (Oc (op_len_e' und22 rfl (List.length_map _)) (Oc om ?_)))
   refine OpsL.nilS ⟨[(1, _), (30, .b (.one (.sl 1 (r0.Home.map eI)))), (31, I (r0.Home.length : Int)), (32, I 0)], [(101, _)]⟩ rfl (Tri.block (Tri.loopJ h15 (fun (x_4 : Int) => ⟨[(1, Pt 101 0), (30, .b (.one (.sl 1 (r0.Home.map eI)))), (31, I (r0.Home.length : Int)), (32, I x_4)], [(101, .box 31 (eRound r0))]⟩) [1, 30, 31, 32] [101] rfl ?_))
   rintro x_4 o16 h17 hy18
   refine Tri.seq (Tri.regionL ?_)
   refine Oc (op_lss rfl rfl) (OpsL.nilS ⟨[(1, _), (30, _), (31, _), (32, _), (33, B (decide (x_4 < (r0.Home.length : Int))))], [(101, _)]⟩ rfl (Tri.seq (Tri.ite h17 rfl (fun _ h17 => ?_) (fun _ h17 => ?_))))
   ·refine Tri.skip (Fin.keepS ⟨[(1, _), (30, _), (31, _), (32, _)], [(101, _)]⟩ rfl (Fin.then (Tri.seq (Tri.block (Tri.seq (Tri.regionL ?_))))))
    refine Oc om ?_
    obtain ⟨x_5, e19, h17⟩ := bnd h17
    refine Oc (op_index_e tySl22 (ix_lo e19) (ix_map (e := eI) e19) rfl rfl) (Oc (op_load_e1 tyOne3 rfl rfl) (Oc oa (Oc oa ?_)))
    refine OpsL.nilS ⟨[(1, _), (5, I x_4), (6, I x_5), (30, _), (31, _), (32, _)], [(101, _)]⟩ rfl (Tri.seq (Tri.regionL ?_))
    refine Oc om (Oc (op_field_p tyFld31_0 rfl rfl) (Oc (op_load_p1 tyOne3 rfl rfl rfl) (Oc (op_eql rfl rfl) (Oc om ?_))))
    refine CgT (decide (x_5 = r0.Me)) [] (fun g20 => trivial) (fun g20 => op_field_p tyFld31_9 rfl rfl) (CgT (decide (x_5 = r0.Me)) [42] (fun g21 => ⟨g21, trivial⟩) (fun g21 => op_load_p1 tyOne24 rfl rfl rfl) (OpsL.keepS ⟨[(1, _), (5, _), (30, _), (31, _), (32, _), (41, B (decide (x_5 = r0.Me))), (43, .opt (decide (x_5 = r0.Me)) (.one (.sl 1 (r0.Results.map eS))))], [(101, _)]⟩ rfl (CgT (decide (x_5 = r0.Me)) [] (fun g22 => trivial) (fun g22 => om) ?_)))
    obtain ⟨x_6, e24, h17⟩ := bnd h17
    refine CgT (decide (x_5 = r0.Me)) [43, 44] (fun g23 => ⟨g23, g23, trivial⟩) (fun g23 => op_index_e tySl24 (ix_lo (gc e24 g23)) (ix_map (e := eS) (gc e24 g23)) rfl rfl) (CgT (decide (x_5 = r0.Me)) [45] (fun g25 => ⟨g25, trivial⟩) (fun g25 => op_load_e1 tyOne9 rfl rfl) (CgT (decide (x_5 = r0.Me)) [46] (fun g26 => ⟨g26, trivial⟩) (fun g26 => op_eql_str rfl rfl) (Oc (op_pick_and (fun e => e) rfl rfl rfl rfl) (OpsL.nilS ⟨[(1, _), (30, _), (31, _), (32, _), (48, B ((decide (x_5 = r0.Me)) && (decide (x_6 = []))))], [(101, _)]⟩ rfl (Tri.ite h17 rfl (fun _ h17 => ?_) (fun _ h17 => ?_))))))
    ·refine Tri.seq (Tri.regionL ?_)
     refine Oc oa (OpsL.nilS ⟨[(2, B false)], []⟩ rfl (Tri.ret (Fin.block_ret (Fin.then_ret ?_))))
     obtain rfl := hy18 _ (Option.some.inj h17).symm
     refine Fin.then_ret (Fin.block_ret (Fin.then_ret ?_))
     obtain rfl := Option.some.inj h
     refine Fin.keepS ⟨[(2, _)], []⟩ rfl (Fin.result' [.one (.bool false)] (.inl rfl) rfl (.cons (.tmp rfl) .nil) ⟨rfl, rfl⟩)
    ·refine Tri.skip (Fin.block_normal (Fin.keepS ⟨[(1, _), (30, _), (31, _), (32, _)], [(101, _)]⟩ rfl (Fin.then (Tri.regionL ?_))))
     refine Oc (op_add rfl rfl) (Oc om ?_)
     refine OpsL.nil ?_
     exact Fin.againJ [1, 30, 31, 32] [101] (IntKind.i64.wrap (x_4 + 1)) (Option.some.inj h17) rfl
   ·refine Tri.exit (Fin.then_exit ?_)
    obtain rfl := hy18 _ (Option.some.inj h17).symm
    refine Fin.then_exit (Fin.block_exit ?_)
    exact Fin.join [1] [101] () rfl rfl
  ·rintro _ hv
   subst v14
   refine Tri.seq (Tri.regionL ?_)
   refine Oc (op_field_p tyFld31_4 rfl rfl) (Oc (op_load_p1 tyOne28 rfl rfl rfl) ?_)
   obtain ⟨x_7, e27, h⟩ := bnd h
   refine Oc (op_call0 (slices_Contains_spec e27) goes68 rfl rfl) (Oc (op_not rfl) (Oc oa ?_))
   refine OpsL.nilS ⟨[(2, B (!x_7))], []⟩ rfl (Tri.ret ?_)
   obtain rfl := Option.some.inj h
   refine Fin.keepS ⟨[(2, _)], []⟩ rfl (Fin.result' [.one (.bool (!x_7))] (.inl rfl) rfl (.cons (.tmp rfl) .nil) ⟨rfl, rfl⟩)
def skewbacklaw44_sanity_S (F : Nat) : Option Bool :=
 Option.bind (owner_Reach_S F [10, 20] 9 20) (un2 fun x_1 x_2 => Option.bind (owner_Tasks_S F [0, 1, 2, (-1), 1] [[1, 0]]) (un2 fun x_3 x_4 => Option.bind (owner_Begin_S F 0 2 7 [0, 1] [[0, 1]] [[97], []]) (un3 fun x_5 x_6 x_7 => Option.bind (owner_Begin_S F 1 2 7 [0, 1] [[0, 1]] [[], [98]]) (un3 fun x_8 x_9 x_10 => letN (((decide (x_7 ≠ 0)) || (decide (x_10 ≠ 0))) || (decide ((x_6.length : Int) ≠ 1))) fun x_11 => if (x_11 || (decide ((x_9.length : Int) ≠ 1))) = true then (some false) else ((idx? x_9 0).bind fun x_12 => Option.bind (owner_Hear_S F x_5 x_12) (un2 fun x_13 x_14 => (idx? x_6 0).bind fun x_15 => Option.bind (owner_Hear_S F x_8 x_15) (un2 fun x_16 x_17 => letN ((decide ((x_14.length : Int) ≠ 0)) || (decide ((x_17.length : Int) ≠ 1))) fun x_18 => (gcall (!x_18) (idx? x_17 0)).bind fun x_19 => (gcall (!(x_18 || (decide (x_19.Kind ≠ 2)))) (owner_Ready_S F x_13)).bind fun x_20 => letN ((x_18 || (decide (x_19.Kind ≠ 2))) || (decide ((x_20.length : Int) ≠ 0))) fun x_21 => (gcall (!x_21) (owner_Ready_S F x_16)).bind fun x_22 => if (x_21 || (decide ((x_22.length : Int) ≠ 0))) = true then (some false) else ((idx? x_17 0).bind fun x_23 => Option.bind (owner_Hear_S F x_13 x_23) (un2 fun x_24 x_25 => Option.bind (owner_Answer_S F x_24 0 [[99], [100]]) (un3 fun x_26 x_27 x_28 => (gcall (!((decide (x_28 ≠ 0)) || (decide ((x_27.length : Int) ≠ 1)))) (idx? x_27 0)).bind fun x_29 => letN (((decide (x_28 ≠ 0)) || (decide ((x_27.length : Int) ≠ 1))) || (decide (x_29.Kind ≠ 3))) fun x_30 => if (x_30 || (decide ((x_25.length : Int) ≠ 0))) = true then (some false) else ((idx? x_27 0).bind fun x_31 => Option.bind (owner_Hear_S F x_16 x_31) (un2 fun x_32 x_33 => letN (((decide (x_1 = 0)) && (decide (x_2 = 2))) && (decide (x_4 = 0))) fun x_34 => (gcall x_34 (skewbackref44_SameTasks_S F x_3 [(⟨0, [0, 1], [1]⟩ : Task), (⟨2, [2], []⟩ : Task), (⟨1, [4], []⟩ : Task)])).bind fun x_35 => (gcall (x_34 && x_35) (owner_Finished_S F x_26)).bind fun x_36 => (gcall ((x_34 && x_35) && x_36) (owner_Finished_S F x_32)).bind fun x_37 => (gcall (((x_34 && x_35) && x_36) && x_37) (idx? x_32.Results 1)).bind fun x_38 => letN ((((x_34 && x_35) && x_36) && x_37) && (decide (x_38 = [100]))) fun x_39 => (gcall x_39 (idx? x_26.Results 0)).bind fun x_40 => some (x_39 && (decide (x_40 = [99])))))))))))))))
theorem skewbacklaw44_sanity_spec {F : Nat} {r : Bool} (h : skewbacklaw44_sanity_S F = some r) : Meets Try.prog [] 10 [] [] (Is [] (.b (.one (.bool r)))) := by
 unfold skewbacklaw44_sanity_S at h
 refine Meets.intro 195 Try.func10 Try.ntmps10 rfl (by simp) fun E => ?_
 show Tri _ E ⟨195, [], [], []⟩ _ ⟨[], []⟩ _
 refine Tri.seq (Tri.regionL ?_)
 refine Oc oa (OpsL.nilS ⟨[], []⟩ rfl (Tri.seq (Tri.regionL ?_)))
 refine Oc (op_buildSlice (k := 101) (es := [10, 20].map eI) tySl22 rfl rfl (uni_map fun _ => rfl) rfl (by decide) (by decide) rfl) ?_
 obtain ⟨⟨x_1, x_2⟩, e1, h⟩ := bnd h
 refine Oc (op_callB (owner_Reach_spec e1) goes36 rfl (flat_tup ⟨CP.flat_int, CP.flat_int, trivial⟩)) (Oc om (Oc (op_extract rfl rfl) ?_))
 refine OpsL.keepS ⟨[(18, .tup [.one (.i x_1), .one (.i x_2)]), (21, I x_1)], []⟩ rfl (Oc (op_extract rfl rfl) (Oc oa (Oc oa ?_)))
 refine OpsL.nilS ⟨[(1, I x_1), (2, I x_2)], []⟩ rfl (Tri.seq (Tri.regionL ?_))
 refine Oc (op_buildSlice (k := 102) (es := [0, 1, 2, (-1), 1].map eI) tySl22 rfl rfl (uni_map fun _ => rfl) rfl (by decide) (by decide) rfl) (Oc (op_buildSlice (k := 103) (es := [1, 0].map eI) tySl22 rfl rfl (uni_map fun _ => rfl) rfl (by decide) (by decide) rfl) ?_)
 refine OpsL.persist 103 rfl (OpsL.keepS ⟨[(1, I x_1), (2, I x_2), (24, .b (.row 102)), (25, .b (.one (.sl 1 ([1, 0].map eI))))], [(102, .row 3 1 ([0, 1, 2, (-1), 1].map eI))]⟩ rfl (Oc (op_buildSlice (k := 104) (es := [[1, 0]].map (eL 1 eI)) tySl23 rfl rfl (uni_map fun _ => rfl) rfl (by decide) (by decide) rfl) (OpsL.persist 102 rfl (OpsL.persist 104 rfl ?_))))
 obtain ⟨⟨x_3, x_4⟩, e2, h⟩ := bnd h
 refine Oc (op_call (owner_Tasks_spec 105 e2) goes26 rfl trivial rfl rfl) (OpsL.keepS ⟨[(1, _), (2, _), (27, .tup [.row 105, .one (.i x_4)])], [(105, .row 59 3 (x_3.map eTask))]⟩ rfl (Oc om (Oc (op_extract rfl rfl) (Oc (op_extract rfl rfl) (Oc oa (Oc oa ?_))))))
 refine OpsL.nilS ⟨[(1, _), (2, _), (3, .b (.row 105)), (4, I x_4)], [(105, _)]⟩ rfl (Tri.seq (Tri.regionL ?_))
 refine Oc (op_buildSlice (k := 106) (es := [0, 1].map eI) tySl22 rfl rfl (uni_map fun _ => rfl) rfl (by decide) (by decide) rfl) (Oc (op_buildSlice (k := 107) (es := [1].map eI) tySl22 rfl rfl (uni_map fun _ => rfl) rfl (by decide) (by decide) rfl) ?_)
 refine OpsL.persist 106 rfl (OpsL.persist 107 rfl (OpsL.keepS ⟨[(1, I x_1), (2, I x_2), (3, .b (.row 105)), (4, I x_4), (30, .b (.one (.sl 1 ([0, 1].map eI)))), (31, .b (.one (.sl 1 ([1].map eI))))], [(105, .row 59 3 (x_3.map eTask))]⟩ rfl (Oc (op_build tyBuild59 rfl rfl) (Oc (op_buildSlice (k := 108) (es := [2].map eI) tySl22 rfl rfl (uni_map fun _ => rfl) rfl (by decide) (by decide) rfl) ?_))))
 refine OpsL.persist 108 rfl (Oc (Op1.nilA (.same (.same (.sl (size := 1) (by decide) (.nil)))) (op_build tyBuild59 rfl rfl)) (Oc (op_buildSlice (k := 109) (es := [4].map eI) tySl22 rfl rfl (uni_map fun _ => rfl) rfl (by decide) (by decide) rfl) ?_))
 refine OpsL.persist 109 rfl (OpsL.keepS ⟨[(1, I x_1), (2, I x_2), (3, .b (.row 105)), (4, I x_4), (32, .b (.agg [.i 0, .sl 1 ([0, 1].map eI), .sl 1 ([1].map eI)])), (34, .b (.agg [.i 2, .sl 1 ([2].map eI), .sl 1 ([].map eI)])), (35, .b (.one (.sl 1 ([4].map eI))))], [(105, .row 59 3 (x_3.map eTask))]⟩ rfl (Oc (Op1.nilA (.same (.same (.sl (size := 1) (by decide) (.nil)))) (op_build tyBuild59 rfl rfl)) (Oc (op_buildSlice (k := 110) (es := [(⟨0, [0, 1], [1]⟩ : Task), (⟨2, [2], []⟩ : Task), (⟨1, [4], []⟩ : Task)].map eTask) tySl29 rfl rfl (uni_map fun _ => rfl) rfl (by decide) (by decide) rfl) (Oc oa ?_))))
 refine OpsL.nilS ⟨[(1, _), (2, _), (3, _), (4, _), (5, .b (.row 110))], [(105, _), (110, .row 59 3 ([(⟨0, [0, 1], [1]⟩ : Task), (⟨2, [2], []⟩ : Task), (⟨1, [4], []⟩ : Task)].map eTask))]⟩ rfl (Tri.seq (Tri.regionL ?_))
 refine Oc (op_buildSlice (k := 111) (es := [0, 1].map eI) tySl22 rfl rfl (uni_map fun _ => rfl) rfl (by decide) (by decide) rfl) (Oc oa ?_)
 refine OpsL.nilS ⟨[(1, _), (2, _), (3, _), (4, _), (5, _), (6, .b (.row 111))], [(105, _), (110, _), (111, .row 3 1 ([0, 1].map eI))]⟩ rfl (Tri.seq (Tri.regionL ?_))
 refine Oc (op_buildSlice (k := 112) (es := [0, 1].map eI) tySl22 rfl rfl (uni_map fun _ => rfl) rfl (by decide) (by decide) rfl) (OpsL.persist 112 rfl (Oc (op_buildSlice (k := 113) (es := [[0, 1]].map (eL 1 eI)) tySl23 rfl rfl (uni_map fun _ => rfl) rfl (by decide) (by decide) rfl) (Oc oa ?_)))
 refine OpsL.nilS ⟨[(1, I x_1), (2, I x_2), (3, .b (.row 105)), (4, I x_4), (5, .b (.row 110)), (6, .b (.row 111)), (7, .b (.row 113))], [(105, .row 59 3 (x_3.map eTask)), (110, .row 59 3 ([(⟨0, [0, 1], [1]⟩ : Task), (⟨2, [2], []⟩ : Task), (⟨1, [4], []⟩ : Task)].map eTask)), (111, .row 3 1 ([0, 1].map eI)), (113, .row 22 1 ([[0, 1]].map (eL 1 eI)))]⟩ rfl (Tri.seq (Tri.regionL ?_))
 refine Oc om (Oc om (Oc (op_buildSlice (k := 114) (es := [[97], []].map eS) tySl24 rfl rfl (uni_map fun _ => rfl) rfl (by decide) (by decide) rfl) ?_))
 refine OpsL.persist 111 rfl (OpsL.persist 113 rfl (OpsL.persist 114 rfl (OpsL.keepS ⟨[(1, I x_1), (2, I x_2), (3, .b (.row 105)), (4, I x_4), (5, .b (.row 110)), (6, .b (.one (.sl 1 ([0, 1].map eI)))), (7, .b (.one (.sl 1 ([[0, 1]].map (eL 1 eI))))), (42, .b (.one (.sl 1 ([0, 1].map eI)))), (43, .b (.one (.sl 1 ([[0, 1]].map (eL 1 eI))))), (44, .b (.one (.sl 1 ([[97], []].map eS))))], [(105, .row 59 3 (x_3.map eTask)), (110, .row 59 3 ([(⟨0, [0, 1], [1]⟩ : Task), (⟨2, [2], []⟩ : Task), (⟨1, [4], []⟩ : Task)].map eTask))]⟩ rfl ?_)))
 obtain ⟨⟨x_5, x_6, x_7⟩, e3, h⟩ := bnd h
 refine Oc (op_call (owner_Begin_spec 115 e3) goes11 rfl trivial rfl rfl) (Oc om (Oc (op_extract rfl rfl) (Oc (op_extract rfl rfl) (Oc (op_extract rfl rfl) (Oc (op_alloc (k := 116) tyZero31 rfl) ?_)))))
 refine OpsL.keepS ⟨[(1, _), (2, _), (3, _), (4, _), (5, _), (6, _), (7, _), (8, Pt 116 0), (46, .b (.agg (eRound x_5))), (47, .b (.row 115)), (48, I x_7)], [(105, _), (110, _), (115, .row 42 7 (x_6.map eNotice)), (116, .box 31 [.i 0, .i 0, .i 0, .nil, .nil, .nil, .nil, .nil, .nil, .nil])]⟩ rfl (Oc (op_store_p tyAgg31 rfl rfl rfl rfl (Nat.le_of_ble_eq_true rfl) rfl) (Oc oa (Oc oa ?_)))
 refine OpsL.nilS ⟨[(1, _), (2, _), (3, _), (4, _), (5, _), (6, _), (7, _), (8, _), (9, .b (.row 115)), (10, I x_7)], [(105, _), (110, _), (115, _), (116, .box 31 (eRound x_5))]⟩ rfl (Tri.seq (Tri.regionL ?_))
 refine Oc om (Oc om (Oc (op_buildSlice (k := 117) (es := [[], [98]].map eS) tySl24 rfl rfl (uni_map fun _ => rfl) rfl (by decide) (by decide) rfl) ?_))
 refine OpsL.persist 117 rfl (OpsL.keepS ⟨[(1, I x_1), (2, I x_2), (3, .b (.row 105)), (4, I x_4), (5, .b (.row 110)), (8, Pt 116 0), (9, .b (.row 115)), (10, I x_7), (50, .b (.one (.sl 1 ([0, 1].map eI)))), (51, .b (.one (.sl 1 ([[0, 1]].map (eL 1 eI))))), (52, .b (.one (.sl 1 ([[], [98]].map eS))))], [(105, .row 59 3 (x_3.map eTask)), (110, .row 59 3 ([(⟨0, [0, 1], [1]⟩ : Task), (⟨2, [2], []⟩ : Task), (⟨1, [4], []⟩ : Task)].map eTask)), (115, .row 42 7 (x_6.map eNotice)), (116, .box 31 (eRound x_5))]⟩ rfl ?_)
 obtain ⟨⟨x_8, x_9, x_10⟩, e4, h⟩ := bnd h
 refine Oc (op_call (owner_Begin_spec 118 e4) goes11 rfl trivial rfl rfl) (Oc om (Oc (op_extract rfl rfl) (Oc (op_extract rfl rfl) (Oc (op_extract rfl rfl) (Oc (op_alloc (k := 119) tyZero31 rfl) ?_)))))
 refine OpsL.keepS ⟨[(1, _), (2, _), (3, _), (4, _), (5, _), (8, _), (9, _), (10, _), (11, Pt 119 0), (54, .b (.agg (eRound x_8))), (55, .b (.row 118)), (56, I x_10)], [(105, _), (110, _), (115, _), (116, _), (118, .row 42 7 (x_9.map eNotice)), (119, .box 31 [.i 0, .i 0, .i 0, .nil, .nil, .nil, .nil, .nil, .nil, .nil])]⟩ rfl (Oc (op_store_p tyAgg31 rfl rfl rfl rfl (Nat.le_of_ble_eq_true rfl) rfl) (Oc oa (Oc oa ?_)))
 refine OpsL.nilS ⟨[(1, _), (2, _), (3, _), (4, _), (5, _), (8, _), (9, _), (10, _), (11, _), (12, .b (.row 118)), (13, I x_10)], [(105, _), (110, _), (115, _), (116, _), (118, _), (119, .box 31 (eRound x_8))]⟩ rfl (Tri.seq (Tri.seq (Tri.regionL ?_)))
 refine Oc om (Oc (op_neq rfl rfl) (Oc om ?_))
 refine CgF (!(decide (x_7 ≠ 0))) [] (fun g5 => trivial) (fun g5 => om) (CgF (!(decide (x_7 ≠ 0))) [60] (fun g6 => by exact ⟨g6, trivial⟩) (fun g6 => op_neq rfl rfl) (Oc (op_pick_or (fun e => by first | (rw [e]; rfl) | (simp only at e; rw [e]; rfl)) rfl rfl rfl rfl) (Oc om ?_)))
 refine OpsL.keepS ⟨[(1, _), (2, _), (3, _), (4, _), (5, _), (8, _), (9, _), (11, _), (12, _), (63, B ((decide (x_7 ≠ 0)) || (decide (x_10 ≠ 0))))], [(105, _), (110, _), (115, _), (116, _), (118, _), (119, _)]⟩ rfl (CgF (!((decide (x_7 ≠ 0)) || (decide (x_10 ≠ 0)))) [] (fun g7 => trivial) (fun g7 => om) (CgF (!((decide (x_7 ≠ 0)) || (decide (x_10 ≠ 0)))) [64] (fun g8 => by exact ⟨g8, trivial⟩) (fun g8 => op_len_r' und32 rfl rfl (List.length_map _)) (CgF (!((decide (x_7 ≠ 0)) || (decide (x_10 ≠ 0)))) [65] (fun g9 => by exact ⟨g9, trivial⟩) (fun g9 => op_neq rfl rfl) (OpsL.consB h rfl (op_pick_or (fun e => by first | (rw [e]; rfl) | (simp only at e; rw [e]; rfl)) rfl rfl rfl rfl) (fun x_11 h => ?_)))))
 refine Oc om (CgF (!x_11) [] (fun g10 => by exact trivial) (fun g10 => om) (OpsL.keepS ⟨[(1, _), (2, _), (3, _), (4, _), (5, _), (8, _), (9, _), (11, _), (12, _), (68, B x_11), (69, .opt (!x_11) (.row 118))], [(105, _), (110, _), (115, _), (116, _), (118, _), (119, _)]⟩ rfl (CgF (!x_11) [69] (fun g11 => by exact ⟨g11, trivial⟩) (fun g11 => op_len_r' und32 rfl rfl (List.length_map _)) (CgF (!x_11) [70] (fun g12 => by exact ⟨g12, trivial⟩) (fun g12 => op_neq rfl rfl) (Oc (op_pick_or (fun e => by first | (rw [e]; rfl) | (simp only at e; rw [e]; rfl)) rfl rfl rfl rfl) ?_)))))
 refine OpsL.nilS ⟨[(1, _), (2, _), (3, _), (4, _), (5, _), (8, _), (9, _), (11, _), (12, _), (72, B (x_11 || (decide ((x_9.length : Int) ≠ 1))))], [(105, _), (110, _), (115, _), (116, _), (118, _), (119, _)]⟩ rfl (Tri.ite h rfl (fun _ h => ?_) (fun _ h => ?_))
 ·refine Tri.seq (Tri.regionL ?_)
  refine Oc oa (OpsL.nilS ⟨[(0, B false)], []⟩ rfl (Tri.ret (Fin.then_ret ?_)))
  obtain rfl := Option.some.inj h
  refine Fin.keepS ⟨[(0, _)], []⟩ rfl (Fin.result' [.one (.bool false)] (.inl rfl) rfl (.cons (.tmp rfl) .nil) ⟨rfl, rfl⟩)
 ·refine Tri.skip (Fin.keepS ⟨[(1, _), (2, _), (3, _), (4, _), (5, _), (8, _), (9, _), (11, _), (12, _)], [(105, _), (110, _), (115, _), (116, _), (118, _), (119, _)]⟩ rfl (Fin.then (Tri.seq ?_)))
  refine Tri.keepS ⟨[(1, _), (2, _), (3, _), (4, _), (5, _), (8, _), (9, _), (11, _), (12, _)], [(105, _), (110, _), (115, _), (116, _), (118, _), (119, _)]⟩ rfl ?_
  obtain ⟨x_12, e13, h⟩ := bnd h
  obtain ⟨⟨x_13, x_14⟩, e14, h⟩ := bnd h
  refine Tri.regionW mixed [false, false, false, false, false, false, false, false, true, false] [.b (.agg (eRound x_5)), .b (.row 118), .b (.rptr 118 ((0 : Int).toNat * 7)), .b (.agg (eNotice x_12)), .tup [.agg (eRound x_13), .one (.sl 7 (x_14.map eNotice))], .tup [.agg (eRound x_13), .one (.sl 7 (x_14.map eNotice))], .b (.agg (eRound x_13)), .b (.one (.sl 7 (x_14.map eNotice))), B true, .b (.one (.sl 7 (x_14.map eNotice)))] [⟨[false, false, false, false, false, false, false, false, false, false], [(1, I x_1), (2, I x_2), (3, .b (.row 105)), (4, I x_4), (5, .b (.row 110)), (8, Pt 116 0), (9, .b (.row 115)), (11, Pt 119 0), (12, .b (.row 118))], [(105, .row 59 3 (x_3.map eTask)), (110, .row 59 3 ([(⟨0, [0, 1], [1]⟩ : Task), (⟨2, [2], []⟩ : Task), (⟨1, [4], []⟩ : Task)].map eTask)), (115, .row 42 7 (x_6.map eNotice)), (116, .box 31 (eRound x_5)), (118, .row 42 7 (x_9.map eNotice)), (119, .box 31 (eRound x_8))], [true, true, true, true, true, true, true, true, true, true], [], [9]⟩, ⟨[false, false, false, false, false, false, false, false, true, false], [(1, I x_1), (2, I x_2), (3, .b (.row 105)), (4, I x_4), (5, .b (.row 110)), (8, Pt 116 0), (9, .b (.row 115)), (11, Pt 119 0), (12, .b (.row 118))], [(105, .row 59 3 (x_3.map eTask)), (110, .row 59 3 ([(⟨0, [0, 1], [1]⟩ : Task), (⟨2, [2], []⟩ : Task), (⟨1, [4], []⟩ : Task)].map eTask)), (115, .row 42 7 (x_6.map eNotice)), (116, .box 31 (eRound x_13)), (118, .row 42 7 (x_9.map eNotice)), (119, .box 31 (eRound x_8))], [true, true, true, true, true, true, true, true, true, true], [0, 1, 2, 3, 4, 5, 6, 8], []⟩] rfl (⟨by kernel_rfl, ⟨⟨.b (.agg (eRound x_5)), fun _ => rfl, fun _ => .p (by exact op_load_p tyAgg31 rfl rfl rfl rfl)⟩, ⟨.b (.row 118), fun _ => rfl, fun _ => .p (by exact op_move rfl)⟩, ⟨.b (.rptr 118 ((0 : Int).toNat * 7)), fun _ => rfl, fun _ => .p (by exact op_index_r tySl32 (ix_lo e13) (ix_lt' e13) rfl rfl rfl rfl)⟩, ⟨.b (.agg (eNotice x_12)), fun _ => rfl, fun _ => .p (by exact op_load_r (i := (0 : Int).toNat) (f := 0) tyAgg42 rfl rfl rfl (ix_map (e := eNotice) e13) rfl rfl)⟩, ⟨.tup [.agg (eRound x_13), .one (.sl 7 (x_14.map eNotice))], fun _ => rfl, fun _ => .p (by exact op_call0 (owner_Hear_spec 0 e14).persG goes17 rfl rfl)⟩, ⟨.tup [.agg (eRound x_13), .one (.sl 7 (x_14.map eNotice))], fun _ => rfl, fun _ => .p (by exact op_move rfl)⟩, ⟨.b (.agg (eRound x_13)), fun _ => rfl, fun _ => .p (by exact op_extract rfl rfl)⟩, ⟨.b (.one (.sl 7 (x_14.map eNotice))), fun _ => rfl, fun _ => .p (by exact op_extract rfl rfl)⟩, ⟨_, [], .b (.one .any), rfl, (fun e => by simp at e), rfl, rfl, fun _ => .toO [105, 110, 115, 116, 118, 119] (by exact .p (by exact op_store_p tyAgg31 rfl rfl rfl rfl (Nat.le_of_ble_eq_true rfl) rfl)) (by exact rfl)⟩, trivial, trivial⟩, ⟨by kernel_rfl, ⟨trivial, trivial, trivial, trivial, trivial, trivial, trivial, ⟨.b (.one (.sl 7 (x_14.map eNotice))), fun _ => rfl, fun _ => .p (by exact op_extract rfl rfl)⟩, trivial, ⟨.b (.one (.sl 7 (x_14.map eNotice))), fun _ => rfl, fun _ => .p (by exact op_assign rfl)⟩, trivial⟩, trivial⟩⟩) rfl rfl rfl [1, 2, 3, 4, 5, 8, 9, 11, 14] [105, 110, 115, 116, 119] (s' := ⟨[(1, _), (2, _), (3, _), (4, _), (5, _), (8, _), (9, _), (11, _), (14, .b (.one (.sl 7 (x_14.map eNotice))))], [(105, _), (110, _), (115, _), (116, .box 31 (eRound x_13)), (119, _)]⟩) rfl ?_
  refine Tri.seq (Tri.keepS ⟨[(1, _), (2, _), (3, _), (4, _), (5, _), (8, _), (9, _), (11, _), (14, _)], [(105, _), (110, _), (115, _), (116, _), (119, _)]⟩ rfl ?_)
  obtain ⟨x_15, e15, h⟩ := bnd h
  obtain ⟨⟨x_16, x_17⟩, e16, h⟩ := bnd h
  refine Tri.regionW mixed [false, false, false, false, false, false, false, false, true, false] [.b (.agg (eRound x_8)), .b (.row 115), .b (.rptr 115 ((0 : Int).toNat * 7)), .b (.agg (eNotice x_15)), .tup [.agg (eRound x_16), .one (.sl 7 (x_17.map eNotice))], .tup [.agg (eRound x_16), .one (.sl 7 (x_17.map eNotice))], .b (.agg (eRound x_16)), .b (.one (.sl 7 (x_17.map eNotice))), B true, .b (.one (.sl 7 (x_17.map eNotice)))] [⟨[false, false, false, false, false, false, false, false, false, false], [(1, I x_1), (2, I x_2), (3, .b (.row 105)), (4, I x_4), (5, .b (.row 110)), (8, Pt 116 0), (9, .b (.row 115)), (11, Pt 119 0), (14, .b (.one (.sl 7 (x_14.map eNotice))))], [(105, .row 59 3 (x_3.map eTask)), (110, .row 59 3 ([(⟨0, [0, 1], [1]⟩ : Task), (⟨2, [2], []⟩ : Task), (⟨1, [4], []⟩ : Task)].map eTask)), (115, .row 42 7 (x_6.map eNotice)), (116, .box 31 (eRound x_13)), (119, .box 31 (eRound x_8))], [true, true, true, true, true, true, true, true, true, true], [], [9]⟩, ⟨[false, false, false, false, false, false, false, false, true, false], [(1, I x_1), (2, I x_2), (3, .b (.row 105)), (4, I x_4), (5, .b (.row 110)), (8, Pt 116 0), (9, .b (.row 115)), (11, Pt 119 0), (14, .b (.one (.sl 7 (x_14.map eNotice))))], [(105, .row 59 3 (x_3.map eTask)), (110, .row 59 3 ([(⟨0, [0, 1], [1]⟩ : Task), (⟨2, [2], []⟩ : Task), (⟨1, [4], []⟩ : Task)].map eTask)), (115, .row 42 7 (x_6.map eNotice)), (116, .box 31 (eRound x_13)), (119, .box 31 (eRound x_16))], [true, true, true, true, true, true, true, true, true, true], [0, 1, 2, 3, 4, 5, 6, 8], []⟩] rfl (⟨by kernel_rfl, ⟨⟨.b (.agg (eRound x_8)), fun _ => rfl, fun _ => .p (by exact op_load_p tyAgg31 rfl rfl rfl rfl)⟩, ⟨.b (.row 115), fun _ => rfl, fun _ => .p (by exact op_move rfl)⟩, ⟨.b (.rptr 115 ((0 : Int).toNat * 7)), fun _ => rfl, fun _ => .p (by exact op_index_r tySl32 (ix_lo e15) (ix_lt' e15) rfl rfl rfl rfl)⟩, ⟨.b (.agg (eNotice x_15)), fun _ => rfl, fun _ => .p (by exact op_load_r (i := (0 : Int).toNat) (f := 0) tyAgg42 rfl rfl rfl (ix_map (e := eNotice) e15) rfl rfl)⟩, ⟨.tup [.agg (eRound x_16), .one (.sl 7 (x_17.map eNotice))], fun _ => rfl, fun _ => .p (by exact op_call0 (owner_Hear_spec 0 e16).persG goes17 rfl rfl)⟩, ⟨.tup [.agg (eRound x_16), .one (.sl 7 (x_17.map eNotice))], fun _ => rfl, fun _ => .p (by exact op_move rfl)⟩, ⟨.b (.agg (eRound x_16)), fun _ => rfl, fun _ => .p (by exact op_extract rfl rfl)⟩, ⟨.b (.one (.sl 7 (x_17.map eNotice))), fun _ => rfl, fun _ => .p (by exact op_extract rfl rfl)⟩, ⟨_, [], .b (.one .any), rfl, (fun e => by simp at e), rfl, rfl, fun _ => .toO [105, 110, 115, 116, 119] (by exact .p (by exact op_store_p tyAgg31 rfl rfl rfl rfl (Nat.le_of_ble_eq_true rfl) rfl)) (by exact rfl)⟩, trivial, trivial⟩, ⟨by kernel_rfl, ⟨trivial, trivial, trivial, trivial, trivial, trivial, trivial, ⟨.b (.one (.sl 7 (x_17.map eNotice))), fun _ => rfl, fun _ => .p (by exact op_extract rfl rfl)⟩, trivial, ⟨.b (.one (.sl 7 (x_17.map eNotice))), fun _ => rfl, fun _ => .p (by exact op_assign rfl)⟩, trivial⟩, trivial⟩⟩) rfl rfl rfl [1, 2, 3, 4, 5, 8, 11, 14, 15] [105, 110, 116, 119] (s' := ⟨[(1, _), (2, _), (3, _), (4, _), (5, _), (8, _), (11, _), (14, _), (15, .b (.one (.sl 7 (x_17.map eNotice))))], [(105, _), (110, _), (116, _), (119, .box 31 (eRound x_16))]⟩) rfl ?_
  refine Tri.seq (Tri.seq (Tri.regionL ?_))
  refine Oc om (Oc (op_len_e' und32 rfl (List.length_map _)) (Oc (op_neq rfl rfl) (Oc om ?_)))
  refine CgF (!(decide ((x_14.length : Int) ≠ 0))) [] (fun g17 => trivial) (fun g17 => om) (OpsL.keepS ⟨[(1, _), (2, _), (3, _), (4, _), (5, _), (8, _), (11, _), (15, _), (92, B (decide ((x_14.length : Int) ≠ 0))), (93, .opt (!(decide ((x_14.length : Int) ≠ 0))) (.one (.sl 7 (x_17.map eNotice))))], [(105, _), (110, _), (116, _), (119, _)]⟩ rfl (CgF (!(decide ((x_14.length : Int) ≠ 0))) [93] (fun g18 => by exact ⟨g18, trivial⟩) (fun g18 => op_len_e' und32 rfl (List.length_map _)) (CgF (!(decide ((x_14.length : Int) ≠ 0))) [94] (fun g19 => by exact ⟨g19, trivial⟩) (fun g19 => op_neq rfl rfl) (OpsL.consB h rfl (op_pick_or (fun e => by first | (rw [e]; rfl) | (simp only at e; rw [e]; rfl)) rfl rfl rfl rfl) (fun x_18 h => ?_)))))
  refine Oc om (CgF (!x_18) [] (fun g20 => by exact trivial) (fun g20 => om) ?_)
  obtain ⟨x_19, e22, h⟩ := bnd h
  refine CgF (!x_18) [98] (fun g21 => ⟨g21, trivial⟩) (fun g21 => op_index_e tySl32 (ix_lo (gc e22 g21)) (ix_map (e := eNotice) (gc e22 g21)) rfl rfl) (CgF (!x_18) [99] (fun g23 => ⟨g23, trivial⟩) (fun g23 => op_field_e tyFld42_0 rfl rfl) (CgF (!x_18) [100] (fun g24 => ⟨g24, trivial⟩) (fun g24 => op_load_e1 tyOne3 rfl rfl) (OpsL.keepS ⟨[(1, _), (2, _), (3, _), (4, _), (5, _), (8, _), (11, _), (15, _), (97, B x_18), (101, .opt (!x_18) (.one (.i x_19.Kind)))], [(105, _), (110, _), (116, _), (119, _)]⟩ rfl (CgF (!x_18) [101] (fun g25 => ⟨g25, trivial⟩) (fun g25 => op_neq rfl rfl) (Oc (op_pick_or (fun e => by first | (rw [e]; rfl) | (simp only at e; rw [e]; rfl)) rfl rfl rfl rfl) (Oc om ?_))))))
  refine CgF (!(x_18 || (decide (x_19.Kind ≠ 2)))) [] (fun g26 => trivial) (fun g26 => lp tyAgg31) ?_
  obtain ⟨x_20, e28, h⟩ := bnd h
  refine CgF (!(x_18 || (decide (x_19.Kind ≠ 2)))) [105] (fun g27 => ⟨g27, trivial⟩) (fun g27 => op_call0 (owner_Ready_spec 0 (gc e28 g27)).persG goes20 rfl rfl) (OpsL.keepS ⟨[(1, _), (2, _), (3, _), (4, _), (5, _), (8, _), (11, _), (15, _), (104, B (x_18 || (decide (x_19.Kind ≠ 2)))), (106, .opt (!(x_18 || (decide (x_19.Kind ≠ 2)))) (.one (.sl 1 (x_20.map eI))))], [(105, _), (110, _), (116, _), (119, _)]⟩ rfl (CgF (!(x_18 || (decide (x_19.Kind ≠ 2)))) [106] (fun g29 => ⟨g29, trivial⟩) (fun g29 => op_len_e' und22 rfl (List.length_map _)) (CgF (!(x_18 || (decide (x_19.Kind ≠ 2)))) [107] (fun g30 => ⟨g30, trivial⟩) (fun g30 => op_neq rfl rfl) (OpsL.consB h rfl (op_pick_or (fun e => by first | (rw [e]; rfl) | (simp only at e; rw [e]; rfl)) rfl rfl rfl rfl) (fun x_21 h => ?_)))))
  refine Oc om (CgF (!x_21) [] (fun g31 => by exact trivial) (fun g31 => lp tyAgg31) ?_)
  obtain ⟨x_22, e33, h⟩ := bnd h
  refine CgF (!x_21) [111] (fun g32 => ⟨g32, trivial⟩) (fun g32 => op_call0 (owner_Ready_spec 0 (gc e33 g32)).persG goes20 rfl rfl) (OpsL.keepS ⟨[(1, _), (2, _), (3, _), (4, _), (5, _), (8, _), (11, _), (15, _), (110, B x_21), (112, .opt (!x_21) (.one (.sl 1 (x_22.map eI))))], [(105, _), (110, _), (116, _), (119, _)]⟩ rfl (CgF (!x_21) [112] (fun g34 => ⟨g34, trivial⟩) (fun g34 => op_len_e' und22 rfl (List.length_map _)) (CgF (!x_21) [113] (fun g35 => ⟨g35, trivial⟩) (fun g35 => op_neq rfl rfl) (Oc (op_pick_or (fun e => by first | (rw [e]; rfl) | (simp only at e; rw [e]; rfl)) rfl rfl rfl rfl) (OpsL.nilS ⟨[(1, _), (2, _), (3, _), (4, _), (5, _), (8, _), (11, _), (15, _), (115, B (x_21 || (decide ((x_22.length : Int) ≠ 0))))], [(105, _), (110, _), (116, _), (119, _)]⟩ rfl ?_)))))
  refine Tri.ite h rfl (fun _ h => ?_) (fun _ h => ?_)
  ·refine Tri.seq (Tri.regionL ?_)
   refine Oc oa (OpsL.nilS ⟨[(0, B false)], []⟩ rfl (Tri.ret (Fin.then_ret ?_)))
   obtain rfl := Option.some.inj h
   refine Fin.keepS ⟨[(0, _)], []⟩ rfl (Fin.result' [.one (.bool false)] (.inl rfl) rfl (.cons (.tmp rfl) .nil) ⟨rfl, rfl⟩)
  ·refine Tri.skip (Fin.keepS ⟨[(1, _), (2, _), (3, _), (4, _), (5, _), (8, _), (11, _), (15, _)], [(105, _), (110, _), (116, _), (119, _)]⟩ rfl (Fin.then (Tri.seq ?_)))
   refine Tri.keepS ⟨[(1, _), (2, _), (3, _), (4, _), (5, _), (8, _), (11, _), (15, _)], [(105, _), (110, _), (116, _), (119, _)]⟩ rfl ?_
   obtain ⟨x_23, e36, h⟩ := bnd h
   obtain ⟨⟨x_24, x_25⟩, e37, h⟩ := bnd h
   refine Tri.regionW mixed [false, false, false, false, false, false, false, false, true, false] [.b (.agg (eRound x_13)), .b (.one (.sl 7 (x_17.map eNotice))), .b (.eptr (eNotice x_23)), .b (.agg (eNotice x_23)), .tup [.agg (eRound x_24), .one (.sl 7 (x_25.map eNotice))], .tup [.agg (eRound x_24), .one (.sl 7 (x_25.map eNotice))], .b (.agg (eRound x_24)), .b (.one (.sl 7 (x_25.map eNotice))), B true, .b (.one (.sl 7 (x_25.map eNotice)))] [⟨[false, false, false, false, false, false, false, false, false, false], [(1, I x_1), (2, I x_2), (3, .b (.row 105)), (4, I x_4), (5, .b (.row 110)), (8, Pt 116 0), (11, Pt 119 0), (15, .b (.one (.sl 7 (x_17.map eNotice))))], [(105, .row 59 3 (x_3.map eTask)), (110, .row 59 3 ([(⟨0, [0, 1], [1]⟩ : Task), (⟨2, [2], []⟩ : Task), (⟨1, [4], []⟩ : Task)].map eTask)), (116, .box 31 (eRound x_13)), (119, .box 31 (eRound x_16))], [true, true, true, true, true, true, true, true, true, true], [], [9]⟩, ⟨[false, false, false, false, false, false, false, false, true, false], [(1, I x_1), (2, I x_2), (3, .b (.row 105)), (4, I x_4), (5, .b (.row 110)), (8, Pt 116 0), (11, Pt 119 0), (15, .b (.one (.sl 7 (x_17.map eNotice))))], [(105, .row 59 3 (x_3.map eTask)), (110, .row 59 3 ([(⟨0, [0, 1], [1]⟩ : Task), (⟨2, [2], []⟩ : Task), (⟨1, [4], []⟩ : Task)].map eTask)), (116, .box 31 (eRound x_24)), (119, .box 31 (eRound x_16))], [true, true, true, true, true, true, true, true, true, true], [0, 1, 2, 3, 4, 5, 6, 8], []⟩] rfl (⟨by kernel_rfl, ⟨⟨.b (.agg (eRound x_13)), fun _ => rfl, fun _ => .p (by exact op_load_p tyAgg31 rfl rfl rfl rfl)⟩, ⟨.b (.one (.sl 7 (x_17.map eNotice))), fun _ => rfl, fun _ => .p (by exact op_move rfl)⟩, ⟨.b (.eptr (eNotice x_23)), fun _ => rfl, fun _ => .p (by exact op_index_e tySl32 (ix_lo e36) (ix_map (e := eNotice) e36) rfl rfl)⟩, ⟨.b (.agg (eNotice x_23)), fun _ => rfl, fun _ => .p (by exact op_load_e tyAgg42 rfl rfl rfl)⟩, ⟨.tup [.agg (eRound x_24), .one (.sl 7 (x_25.map eNotice))], fun _ => rfl, fun _ => .p (by exact op_call0 (owner_Hear_spec 0 e37).persG goes17 rfl rfl)⟩, ⟨.tup [.agg (eRound x_24), .one (.sl 7 (x_25.map eNotice))], fun _ => rfl, fun _ => .p (by exact op_move rfl)⟩, ⟨.b (.agg (eRound x_24)), fun _ => rfl, fun _ => .p (by exact op_extract rfl rfl)⟩, ⟨.b (.one (.sl 7 (x_25.map eNotice))), fun _ => rfl, fun _ => .p (by exact op_extract rfl rfl)⟩, ⟨_, [], .b (.one .any), rfl, (fun e => by simp at e), rfl, rfl, fun _ => .toO [105, 110, 116, 119] (by exact .p (by exact op_store_p tyAgg31 rfl rfl rfl rfl (Nat.le_of_ble_eq_true rfl) rfl)) (by exact rfl)⟩, trivial, trivial⟩, ⟨by kernel_rfl, ⟨trivial, trivial, trivial, trivial, trivial, trivial, trivial, ⟨.b (.one (.sl 7 (x_25.map eNotice))), fun _ => rfl, fun _ => .p (by exact op_extract rfl rfl)⟩, trivial, ⟨.b (.one (.sl 7 (x_25.map eNotice))), fun _ => rfl, fun _ => .p (by exact op_assign rfl)⟩, trivial⟩, trivial⟩⟩) rfl rfl rfl [1, 2, 3, 4, 5, 8, 11, 14] [105, 110, 116, 119] (s' := ⟨[(1, _), (2, _), (3, _), (4, _), (5, _), (8, _), (11, _), (14, .b (.one (.sl 7 (x_25.map eNotice))))], [(105, _), (110, _), (116, .box 31 (eRound x_24)), (119, _)]⟩) rfl ?_
   refine Tri.seq (Tri.regionL ?_)
   refine Oc (lp tyAgg31) (Oc (op_buildSlice (k := 125) (es := [[99], [100]].map eS) tySl24 rfl rfl (uni_map fun _ => rfl) rfl (by decide) (by decide) rfl) ?_)
   refine OpsL.persist 125 rfl (OpsL.keepS ⟨[(1, I x_1), (2, I x_2), (3, .b (.row 105)), (4, I x_4), (5, .b (.row 110)), (8, Pt 116 0), (11, Pt 119 0), (14, .b (.one (.sl 7 (x_25.map eNotice)))), (125, .b (.agg (eRound x_24))), (126, .b (.one (.sl 1 ([[99], [100]].map eS))))], [(105, .row 59 3 (x_3.map eTask)), (110, .row 59 3 ([(⟨0, [0, 1], [1]⟩ : Task), (⟨2, [2], []⟩ : Task), (⟨1, [4], []⟩ : Task)].map eTask)), (116, .box 31 (eRound x_24)), (119, .box 31 (eRound x_16))]⟩ rfl ?_)
   obtain ⟨⟨x_26, x_27, x_28⟩, e38, h⟩ := bnd h
   refine Oc (op_call (owner_Answer_spec 126 e38) goes15 rfl trivial rfl rfl) (Oc om (Oc (op_extract rfl rfl) (Oc (op_extract rfl rfl) (Oc (op_extract rfl rfl) (Oc (op_store_p tyAgg31 rfl rfl rfl rfl (Nat.le_of_ble_eq_true rfl) rfl) ?_)))))
   refine Oc oa (Oc oa ?_)
   refine OpsL.nilS ⟨[(1, _), (2, _), (3, _), (4, _), (5, _), (8, _), (11, _), (14, _), (16, .b (.row 126)), (17, I x_28)], [(105, _), (110, _), (116, .box 31 (eRound x_26)), (119, _), (126, .row 42 7 (x_27.map eNotice))]⟩ rfl (Tri.seq (Tri.seq (Tri.regionL ?_)))
   refine Oc om (Oc (op_neq rfl rfl) (Oc om ?_))
   refine CgF (!(decide (x_28 ≠ 0))) [] (fun g39 => trivial) (fun g39 => om) (CgF (!(decide (x_28 ≠ 0))) [134] (fun g40 => by exact ⟨g40, trivial⟩) (fun g40 => op_len_r' und32 rfl rfl (List.length_map _)) (CgF (!(decide (x_28 ≠ 0))) [135] (fun g41 => by exact ⟨g41, trivial⟩) (fun g41 => op_neq rfl rfl) (OpsL.keepS ⟨[(1, _), (2, _), (3, _), (4, _), (5, _), (8, _), (11, _), (14, _), (16, _), (133, B (decide (x_28 ≠ 0))), (136, .opt (!(decide (x_28 ≠ 0))) (.one (.bool (decide ((x_27.length : Int) ≠ 1)))))], [(105, _), (110, _), (116, _), (119, _), (126, _)]⟩ rfl (Oc (op_pick_or (fun e => by first | (rw [e]; rfl) | (simp only at e; rw [e]; rfl)) rfl rfl rfl rfl) (Oc om ?_)))))
   refine CgF (!((decide (x_28 ≠ 0)) || (decide ((x_27.length : Int) ≠ 1)))) [] (fun g42 => trivial) (fun g42 => om) ?_
   obtain ⟨x_29, e44, h⟩ := bnd h
   refine CgF (!((decide (x_28 ≠ 0)) || (decide ((x_27.length : Int) ≠ 1)))) [139] (fun g43 => ⟨g43, trivial⟩) (fun g43 => op_index_r tySl32 (ix_lo (gc e44 g43)) (ix_lt' (gc e44 g43)) rfl rfl rfl rfl) (CgF (!((decide (x_28 ≠ 0)) || (decide ((x_27.length : Int) ≠ 1)))) [140] (fun g45 => ⟨g45, trivial⟩) (fun g45 => op_field_r tyFld42_0 rfl rfl) (CgF (!((decide (x_28 ≠ 0)) || (decide ((x_27.length : Int) ≠ 1)))) [141] (fun g46 => ⟨g46, trivial⟩) (fun g46 => op_load_r1 (i := (0 : Int).toNat) (f := 0) tyOne3 rfl rfl rfl (ix_map (e := eNotice) (gc e44 g46)) rfl) (CgF (!((decide (x_28 ≠ 0)) || (decide ((x_27.length : Int) ≠ 1)))) [142] (fun g47 => ⟨g47, trivial⟩) (fun g47 => op_neq rfl rfl) (OpsL.consB h rfl (op_pick_or (fun e => by first | (rw [e]; rfl) | (simp only at e; rw [e]; rfl)) rfl rfl rfl rfl) (fun x_30 h => ?_)))))
   refine OpsL.keepS ⟨[(1, _), (2, _), (3, _), (4, _), (5, _), (8, _), (11, _), (14, _), (16, _), (144, B x_30)], [(105, _), (110, _), (116, _), (119, _), (126, _)]⟩ rfl (Oc om (CgF (!x_30) [] (fun g48 => by exact trivial) (fun g48 => om) (CgF (!x_30) [146] (fun g49 => by exact ⟨g49, trivial⟩) (fun g49 => op_len_e' und32 rfl (List.length_map _)) (CgF (!x_30) [147] (fun g50 => by exact ⟨g50, trivial⟩) (fun g50 => op_neq rfl rfl) (Oc (op_pick_or (fun e => by first | (rw [e]; rfl) | (simp only at e; rw [e]; rfl)) rfl rfl rfl rfl) ?_)))))
   refine OpsL.nilS ⟨[(1, _), (2, _), (3, _), (4, _), (5, _), (8, _), (11, _), (16, _), (149, B (x_30 || (decide ((x_25.length : Int) ≠ 0))))], [(105, _), (110, _), (116, _), (119, _), (126, _)]⟩ rfl (Tri.ite h rfl (fun _ h => ?_) (fun _ h => ?_))
   ·refine Tri.seq (Tri.regionL ?_)
    refine Oc oa (OpsL.nilS ⟨[(0, B false)], []⟩ rfl (Tri.ret (Fin.then_ret ?_)))
    obtain rfl := Option.some.inj h
    refine Fin.keepS ⟨[(0, _)], []⟩ rfl (Fin.result' [.one (.bool false)] (.inl rfl) rfl (.cons (.tmp rfl) .nil) ⟨rfl, rfl⟩)
   ·refine Tri.skip (Fin.keepS ⟨[(1, _), (2, _), (3, _), (4, _), (5, _), (8, _), (11, _), (16, _)], [(105, _), (110, _), (116, _), (119, _), (126, _)]⟩ rfl (Fin.then (Tri.seq ?_)))
    refine Tri.keepS ⟨[(1, _), (2, _), (3, _), (4, _), (5, _), (8, _), (11, _), (16, _)], [(105, _), (110, _), (116, _), (119, _), (126, _)]⟩ rfl ?_
    obtain ⟨x_31, e51, h⟩ := bnd h
    obtain ⟨⟨x_32, x_33⟩, e52, h⟩ := bnd h
    refine Tri.regionW mixed [false, false, false, false, false, false, false, false, true] [.b (.agg (eRound x_16)), .b (.row 126), .b (.rptr 126 ((0 : Int).toNat * 7)), .b (.agg (eNotice x_31)), .tup [.agg (eRound x_32), .one (.sl 7 (x_33.map eNotice))], .tup [.agg (eRound x_32), .one (.sl 7 (x_33.map eNotice))], .b (.agg (eRound x_32)), .b (.one (.sl 7 (x_33.map eNotice))), B true] [⟨[false, false, false, false, false, false, false, false, false], [(1, I x_1), (2, I x_2), (3, .b (.row 105)), (4, I x_4), (5, .b (.row 110)), (8, Pt 116 0), (11, Pt 119 0), (16, .b (.row 126))], [(105, .row 59 3 (x_3.map eTask)), (110, .row 59 3 ([(⟨0, [0, 1], [1]⟩ : Task), (⟨2, [2], []⟩ : Task), (⟨1, [4], []⟩ : Task)].map eTask)), (116, .box 31 (eRound x_26)), (119, .box 31 (eRound x_16)), (126, .row 42 7 (x_27.map eNotice))], [true, true, true, true, true, true, true, true, true], [], []⟩, ⟨[false, false, false, false, false, false, false, false, true], [(1, I x_1), (2, I x_2), (3, .b (.row 105)), (4, I x_4), (5, .b (.row 110)), (8, Pt 116 0), (11, Pt 119 0), (16, .b (.row 126))], [(105, .row 59 3 (x_3.map eTask)), (110, .row 59 3 ([(⟨0, [0, 1], [1]⟩ : Task), (⟨2, [2], []⟩ : Task), (⟨1, [4], []⟩ : Task)].map eTask)), (116, .box 31 (eRound x_26)), (119, .box 31 (eRound x_32)), (126, .row 42 7 (x_27.map eNotice))], [true, true, true, true, true, true, true, true, true], [0, 1, 2, 3, 4, 5, 6, 8], []⟩] rfl (⟨by kernel_rfl, ⟨⟨.b (.agg (eRound x_16)), fun _ => rfl, fun _ => .p (by exact op_load_p tyAgg31 rfl rfl rfl rfl)⟩, ⟨.b (.row 126), fun _ => rfl, fun _ => .p (by exact op_move rfl)⟩, ⟨.b (.rptr 126 ((0 : Int).toNat * 7)), fun _ => rfl, fun _ => .p (by exact op_index_r tySl32 (ix_lo e51) (ix_lt' e51) rfl rfl rfl rfl)⟩, ⟨.b (.agg (eNotice x_31)), fun _ => rfl, fun _ => .p (by exact op_load_r (i := (0 : Int).toNat) (f := 0) tyAgg42 rfl rfl rfl (ix_map (e := eNotice) e51) rfl rfl)⟩, ⟨.tup [.agg (eRound x_32), .one (.sl 7 (x_33.map eNotice))], fun _ => rfl, fun _ => .p (by exact op_call0 (owner_Hear_spec 0 e52).persG goes17 rfl rfl)⟩, ⟨.tup [.agg (eRound x_32), .one (.sl 7 (x_33.map eNotice))], fun _ => rfl, fun _ => .p (by exact op_move rfl)⟩, ⟨.b (.agg (eRound x_32)), fun _ => rfl, fun _ => .p (by exact op_extract rfl rfl)⟩, ⟨.b (.one (.sl 7 (x_33.map eNotice))), fun _ => rfl, fun _ => .p (by exact op_extract rfl rfl)⟩, ⟨_, [], .b (.one .any), rfl, (fun e => by simp at e), rfl, rfl, fun _ => .toO [105, 110, 116, 119, 126] (by exact .p (by exact op_store_p tyAgg31 rfl rfl rfl rfl (Nat.le_of_ble_eq_true rfl) rfl)) (by exact rfl)⟩, trivial⟩, ⟨by kernel_rfl, ⟨trivial, trivial, trivial, trivial, trivial, trivial, trivial, ⟨.b (.one (.sl 7 (x_33.map eNotice))), fun _ => rfl, fun _ => .p (by exact op_extract rfl rfl)⟩, trivial, trivial⟩, trivial⟩⟩) rfl rfl rfl [1, 2, 3, 4, 5, 8, 11] [105, 110, 116, 119] (s' := ⟨[(1, _), (2, _), (3, _), (4, _), (5, _), (8, _), (11, _)], [(105, _), (110, _), (116, _), (119, .box 31 (eRound x_32))]⟩) rfl ?_
    refine Tri.seq (Tri.regionL ?_)
    refine Oc om (Oc (op_eql rfl rfl) (Oc om ?_))
    refine CgT (decide (x_1 = 0)) [] (fun g53 => trivial) (fun g53 => om) (CgT (decide (x_1 = 0)) [161] (fun g54 => by exact ⟨g54, trivial⟩) (fun g54 => op_eql rfl rfl) (Oc (op_pick_and (fun e => e) rfl rfl rfl rfl) (Oc om ?_)))
    refine OpsL.keepS ⟨[(3, _), (4, _), (5, _), (8, _), (11, _), (164, B ((decide (x_1 = 0)) && (decide (x_2 = 2))))], [(105, _), (110, _), (116, _), (119, _)]⟩ rfl (CgT ((decide (x_1 = 0)) && (decide (x_2 = 2))) [] (fun g55 => trivial) (fun g55 => om) (CgT ((decide (x_1 = 0)) && (decide (x_2 = 2))) [165] (fun g56 => by exact ⟨g56, trivial⟩) (fun g56 => op_eql rfl rfl) (OpsL.consB h rfl (op_pick_and (fun e => e) rfl rfl rfl rfl) (fun x_34 h => ?_))))
    refine Oc om (CgT x_34 [] (fun g57 => by exact trivial) (fun g57 => om) (CgT x_34 [] (fun g58 => by exact trivial) (fun g58 => om) (OpsL.keepS ⟨[(8, _), (11, _), (168, B x_34), (169, .opt x_34 (.row 105)), (170, .opt x_34 (.row 110))], [(105, _), (110, _), (116, _), (119, _)]⟩ rfl ?_)))
    obtain ⟨x_35, e60, h⟩ := bnd h
    refine CgT x_34 [169, 170] (fun g59 => ⟨g59, g59, trivial⟩) (fun g59 => op_callB (skewbackref44_SameTasks_spec (gc e60 g59)) goes32 rfl CP.flat_bool) (Oc (op_pick_and (fun e => e) rfl rfl rfl rfl) (Oc om ?_))
    refine CgT (x_34 && x_35) [] (fun g61 => trivial) (fun g61 => lp tyAgg31) ?_
    obtain ⟨x_36, e63, h⟩ := bnd h
    refine CgT (x_34 && x_35) [174] (fun g62 => ⟨g62, trivial⟩) (fun g62 => op_call0 (owner_Finished_spec (gc e63 g62)) goes22 rfl rfl) (Oc (op_pick_and (fun e => e) rfl rfl rfl rfl) (OpsL.keepS ⟨[(8, _), (11, _), (176, B ((x_34 && x_35) && x_36))], [(116, _), (119, _)]⟩ rfl (Oc om (CgT ((x_34 && x_35) && x_36) [] (fun g64 => by exact trivial) (fun g64 => lp tyAgg31) ?_))))
    obtain ⟨x_37, e66, h⟩ := bnd h
    refine CgT ((x_34 && x_35) && x_36) [178] (fun g65 => ⟨g65, trivial⟩) (fun g65 => op_call0 (owner_Finished_spec (gc e66 g65)) goes22 rfl rfl) (Oc (op_pick_and (fun e => e) rfl rfl rfl rfl) (Oc om ?_))
    refine CgT (((x_34 && x_35) && x_36) && x_37) [] (fun g67 => trivial) (fun g67 => op_field_p tyFld31_9 rfl rfl) (OpsL.keepS ⟨[(8, _), (181, B (((x_34 && x_35) && x_36) && x_37)), (182, .opt (((x_34 && x_35) && x_36) && x_37) (.ptr 119 9))], [(116, _), (119, _)]⟩ rfl (CgT (((x_34 && x_35) && x_36) && x_37) [182] (fun g68 => ⟨g68, trivial⟩) (fun g68 => op_load_p1 tyOne24 rfl rfl rfl) ?_))
    obtain ⟨x_38, e70, h⟩ := bnd h
    refine CgT (((x_34 && x_35) && x_36) && x_37) [183] (fun g69 => ⟨g69, trivial⟩) (fun g69 => op_index_e tySl24 (ix_lo (gc e70 g69)) (ix_map (e := eS) (gc e70 g69)) rfl rfl) (CgT (((x_34 && x_35) && x_36) && x_37) [184] (fun g71 => ⟨g71, trivial⟩) (fun g71 => op_load_e1 tyOne9 rfl rfl) (CgT (((x_34 && x_35) && x_36) && x_37) [185] (fun g72 => ⟨g72, trivial⟩) (fun g72 => op_eql_str rfl rfl) (OpsL.consB h rfl (op_pick_and (fun e => e) rfl rfl rfl rfl) (fun x_39 h => ?_))))
    refine Oc om (CgT x_39 [] (fun g73 => by exact trivial) (fun g73 => op_field_p tyFld31_9 rfl rfl) (CgT x_39 [189] (fun g74 => by exact ⟨g74, trivial⟩) (fun g74 => op_load_p1 tyOne24 rfl rfl rfl) (OpsL.keepS ⟨[(188, B x_39), (190, .opt x_39 (.one (.sl 1 (x_26.Results.map eS))))], []⟩ rfl ?_)))
    obtain ⟨x_40, e76, h⟩ := bnd h
    refine CgT x_39 [190] (fun g75 => ⟨g75, trivial⟩) (fun g75 => op_index_e tySl24 (ix_lo (gc e76 g75)) (ix_map (e := eS) (gc e76 g75)) rfl rfl) (CgT x_39 [191] (fun g77 => ⟨g77, trivial⟩) (fun g77 => op_load_e1 tyOne9 rfl rfl) (CgT x_39 [192] (fun g78 => ⟨g78, trivial⟩) (fun g78 => op_eql_str rfl rfl) (Oc (op_pick_and (fun e => e) rfl rfl rfl rfl) (Oc oa ?_))))
    refine OpsL.nilS ⟨[(0, B (x_39 && (decide (x_40 = [99]))))], []⟩ rfl (Tri.ret ?_)
    obtain rfl := Option.some.inj h
    refine Fin.keepS ⟨[(0, _)], []⟩ rfl (Fin.result' [.one (.bool (x_39 && (decide (x_40 = [99]))))] (.inl rfl) rfl (.cons (.tmp rfl) .nil) ⟨rfl, rfl⟩)
def skewbackref44_Homely_S (F : Nat) (home0 : List Int) (regions0 : Int) : Option Bool :=
 if (decide (401 < (home0.length : Int))) = true then (some false) else (Option.bind (iter F (fun i_1 => if (decide (i_1 < (home0.length : Int))) = true then ((idx? home0 i_1).bind fun x_2 => (gcall (!(decide (x_2 < (-1)))) (idx? home0 i_1)).bind fun x_3 => if ((decide (x_2 < (-1))) || (decide (regions0 ≤ x_3))) = true then (some (.inr (.inr false))) else (some (.inl (IntKind.i64.wrap (i_1 + 1))))) else (some (.inr (.inl ())))) 0) (alt2 (fun _ => some true) (fun y => some y)))
theorem skewbackref44_Homely_spec {F : Nat} {home0 : List Int} {regions0 : Int} {r : Bool} (h : skewbackref44_Homely_S F home0 regions0 = some r) : Meets Try.prog [] 24 [] [.one (.sl 1 (home0.map eI)), .one (.i regions0)] (Is [] (.b (.one (.bool r)))) := by
 unfold skewbackref44_Homely_S at h
 refine Meets.intro 28 Try.func24 Try.ntmps24 rfl (by simp) fun E => ?_
 show Tri _ E ⟨28, [], [], []⟩ _ ⟨[(0, .b (.one (.sl 1 (home0.map eI)))), (1, I regions0)], []⟩ _
 refine Tri.seq (Tri.regionL ?_)
 refine Oc oa (OpsL.nilS ⟨[(0, .b (.one (.sl 1 (home0.map eI)))), (1, I regions0)], []⟩ rfl (Tri.seq (Tri.seq (Tri.regionL ?_))))
 refine Oc om (Oc (op_len_e' und22 rfl (List.length_map _)) (Oc (op_gtr rfl rfl) ?_))
 refine OpsL.nilS ⟨[(0, _), (1, _), (8, B (decide (401 < (home0.length : Int))))], []⟩ rfl (Tri.ite h rfl (fun _ h => ?_) (fun _ h => ?_))
 ·refine Tri.seq (Tri.regionL ?_)
  refine Oc oa (OpsL.nilS ⟨[(4, B false)], []⟩ rfl (Tri.ret (Fin.then_ret ?_)))
  obtain rfl := Option.some.inj h
  refine Fin.keepS ⟨[(4, _)], []⟩ rfl (Fin.result' [.one (.bool false)] (.inl rfl) rfl (.cons (.tmp rfl) .nil) ⟨rfl, rfl⟩)
 ·refine Tri.skip (Fin.keepS ⟨[(0, _), (1, _)], []⟩ rfl (Fin.then ?_))
  obtain ⟨v1, h2, h⟩ := bnd h
  refine Tri.seqJ (v := v1) (fun (_ : Unit) => ⟨[], []⟩) (fun z => .inl z) ?_ ?_
  ·refine Tri.seq (Tri.regionL ?_)
   refine Oc oa (OpsL.nilS ⟨[(0, _), (1, _), (5, I 0)], []⟩ rfl (Tri.block (Tri.loopJ h2 (fun (i_1 : Int) => ⟨[(0, .b (.one (.sl 1 (home0.map eI)))), (1, I regions0), (5, I i_1)], []⟩) [0, 1, 5] [] rfl ?_)))
   rintro i_1 o3 h4 hy5
   refine Tri.seq (Tri.seq (Tri.regionL ?_))
   refine Oc om (Oc om (Oc (op_len_e' und22 rfl (List.length_map _)) (Oc (op_lss rfl rfl) ?_)))
   refine OpsL.nilS ⟨[(0, _), (1, _), (5, _), (12, B (decide (i_1 < (home0.length : Int))))], []⟩ rfl (Tri.ite h4 rfl (fun _ h4 => ?_) (fun _ h4 => ?_))
   ·refine Tri.skip (Fin.keepS ⟨[(0, _), (1, _), (5, _)], []⟩ rfl (Fin.then (Tri.seq (Tri.block (Tri.seq (Tri.regionL ?_))))))
    refine Oc om (Oc om ?_)
    obtain ⟨x_2, e6, h4⟩ := bnd h4
    refine Oc (op_index_e tySl22 (ix_lo e6) (ix_map (e := eI) e6) rfl rfl) (Oc (op_load_e1 tyOne3 rfl rfl) (Oc (op_lss rfl rfl) (Oc om ?_)))
    refine CgF (!(decide (x_2 < (-1)))) [] (fun g7 => trivial) (fun g7 => om) (OpsL.keepS ⟨[(0, _), (1, _), (5, _), (20, B (decide (x_2 < (-1)))), (21, .opt (!(decide (x_2 < (-1)))) (.one (.sl 1 (home0.map eI))))], []⟩ rfl (CgF (!(decide (x_2 < (-1)))) [] (fun g8 => by exact trivial) (fun g8 => om) ?_))
    obtain ⟨x_3, e10, h4⟩ := bnd h4
    refine CgF (!(decide (x_2 < (-1)))) [21, 22] (fun g9 => ⟨g9, g9, trivial⟩) (fun g9 => op_index_e tySl22 (ix_lo (gc e10 g9)) (ix_map (e := eI) (gc e10 g9)) rfl rfl) (CgF (!(decide (x_2 < (-1)))) [23] (fun g11 => ⟨g11, trivial⟩) (fun g11 => op_load_e1 tyOne3 rfl rfl) (CgF (!(decide (x_2 < (-1)))) [] (fun g12 => trivial) (fun g12 => om) (CgF (!(decide (x_2 < (-1)))) [24, 25] (fun g13 => by exact ⟨g13, g13, trivial⟩) (fun g13 => op_geq rfl rfl) (Oc (op_pick_or (fun e => by first | (rw [e]; rfl) | (simp only at e; rw [e]; rfl)) rfl rfl rfl rfl) (OpsL.nilS ⟨[(0, _), (1, _), (5, _), (27, B ((decide (x_2 < (-1))) || (decide (regions0 ≤ x_3))))], []⟩ rfl ?_)))))
    refine Tri.ite h4 rfl (fun _ h4 => ?_) (fun _ h4 => ?_)
    ·refine Tri.seq (Tri.regionL ?_)
     refine Oc oa (OpsL.nilS ⟨[(4, B false)], []⟩ rfl (Tri.ret (Fin.block_ret (Fin.then_ret ?_))))
     obtain rfl := hy5 _ (Option.some.inj h4).symm
     refine Fin.then_ret (Fin.block_ret (Fin.then_ret ?_))
     obtain rfl := Option.some.inj h
     refine Fin.keepS ⟨[(4, _)], []⟩ rfl (Fin.result' [.one (.bool false)] (.inl rfl) rfl (.cons (.tmp rfl) .nil) ⟨rfl, rfl⟩)
    ·refine Tri.skip (Fin.block_normal (Fin.keepS ⟨[(0, _), (1, _), (5, _)], []⟩ rfl (Fin.then (Tri.regionL ?_))))
     refine Oc om (Oc (op_add rfl rfl) (Oc oa ?_))
     refine OpsL.nil ?_
     exact Fin.againJ [0, 1, 5] [] (IntKind.i64.wrap (i_1 + 1)) (Option.some.inj h4) rfl
   ·refine Tri.exit (Fin.then_exit ?_)
    obtain rfl := hy5 _ (Option.some.inj h4).symm
    refine Fin.then_exit (Fin.block_exit ?_)
    exact Fin.join [] [] () rfl rfl
  ·rintro _ hv
   subst v1
   refine Tri.seq (Tri.regionL ?_)
   refine Oc oa (OpsL.nilS ⟨[(4, B true)], []⟩ rfl (Tri.ret ?_))
   obtain rfl := Option.some.inj h
   refine Fin.keepS ⟨[(4, _)], []⟩ rfl (Fin.result' [.one (.bool true)] (.inl rfl) rfl (.cons (.tmp rfl) .nil) ⟨rfl, rfl⟩)
def skewbackref44_Housed_S (F : Nat) (home0 : List Int) (l0 : List Int) : Option Bool :=
 Option.bind (iter F (fun i_1 => if (decide (i_1 < (l0.length : Int))) = true then ((idx? l0 i_1).bind fun x_2 => (gcall (!(decide (x_2 < 0))) (idx? l0 i_1)).bind fun x_3 => (gcall (!((decide (x_2 < 0)) || (decide ((home0.length : Int) ≤ x_3)))) (idx? l0 i_1)).bind fun x_4 => (gcall (!((decide (x_2 < 0)) || (decide ((home0.length : Int) ≤ x_3)))) (idx? home0 x_4)).bind fun x_5 => letN (((decide (x_2 < 0)) || (decide ((home0.length : Int) ≤ x_3))) || (decide (x_5 < 0))) fun x_6 => if x_6 = true then (some (.inr (.inr false))) else (some (.inl (IntKind.i64.wrap (i_1 + 1))))) else (some (.inr (.inl ())))) 0) (alt2 (fun _ => some true) (fun y => some y))
theorem skewbackref44_Housed_spec {F : Nat} {home0 : List Int} {l0 : List Int} {r : Bool} (h : skewbackref44_Housed_S F home0 l0 = some r) : Meets Try.prog [] 69 [] [.one (.sl 1 (home0.map eI)), .one (.sl 1 (l0.map eI))] (Is [] (.b (.one (.bool r)))) := by
 unfold skewbackref44_Housed_S at h
 refine Meets.intro 36 Try.func69 Try.ntmps69 rfl (by simp) fun E => ?_
 show Tri _ E ⟨36, [], [], []⟩ _ ⟨[(0, .b (.one (.sl 1 (home0.map eI)))), (1, .b (.one (.sl 1 (l0.map eI))))], []⟩ _
 refine Tri.seq (Tri.regionL ?_)
 refine Oc oa (OpsL.nilS ⟨[(0, .b (.one (.sl 1 (home0.map eI)))), (1, .b (.one (.sl 1 (l0.map eI))))], []⟩ rfl ?_)
 obtain ⟨v1, h2, h⟩ := bnd h
 refine Tri.seqJ (v := v1) (fun (_ : Unit) => ⟨[], []⟩) (fun z => .inl z) ?_ ?_
 ·refine Tri.seq (Tri.regionL ?_)
  refine Oc oa (OpsL.nilS ⟨[(0, _), (1, _), (5, I 0)], []⟩ rfl (Tri.block (Tri.loopJ h2 (fun (i_1 : Int) => ⟨[(0, .b (.one (.sl 1 (home0.map eI)))), (1, .b (.one (.sl 1 (l0.map eI)))), (5, I i_1)], []⟩) [0, 1, 5] [] rfl ?_)))
  rintro i_1 o3 h4 hy5
  refine Tri.seq (Tri.seq (Tri.regionL ?_))
  refine Oc om (Oc om (Oc (op_len_e' und22 rfl (List.length_map _)) (Oc (op_lss rfl rfl) ?_)))
  refine OpsL.nilS ⟨[(0, _), (1, _), (5, _), (9, B (decide (i_1 < (l0.length : Int))))], []⟩ rfl (Tri.ite h4 rfl (fun _ h4 => ?_) (fun _ h4 => ?_))
  ·refine Tri.skip (Fin.keepS ⟨[(0, _), (1, _), (5, _)], []⟩ rfl (Fin.then (Tri.seq (Tri.block (Tri.seq (Tri.regionL ?_))))))
   refine Oc om (Oc om ?_)
   obtain ⟨x_2, e6, h4⟩ := bnd h4
   refine Oc (op_index_e tySl22 (ix_lo e6) (ix_map (e := eI) e6) rfl rfl) (Oc (op_load_e1 tyOne3 rfl rfl) (Oc (op_lss rfl rfl) (Oc om ?_)))
   refine CgF (!(decide (x_2 < 0))) [] (fun g7 => trivial) (fun g7 => om) (OpsL.keepS ⟨[(0, _), (1, _), (5, _), (17, B (decide (x_2 < 0))), (18, .opt (!(decide (x_2 < 0))) (.one (.sl 1 (l0.map eI))))], []⟩ rfl (CgF (!(decide (x_2 < 0))) [] (fun g8 => by exact trivial) (fun g8 => om) ?_))
   obtain ⟨x_3, e10, h4⟩ := bnd h4
   refine CgF (!(decide (x_2 < 0))) [18, 19] (fun g9 => ⟨g9, g9, trivial⟩) (fun g9 => op_index_e tySl22 (ix_lo (gc e10 g9)) (ix_map (e := eI) (gc e10 g9)) rfl rfl) (CgF (!(decide (x_2 < 0))) [20] (fun g11 => ⟨g11, trivial⟩) (fun g11 => op_load_e1 tyOne3 rfl rfl) (CgF (!(decide (x_2 < 0))) [] (fun g12 => trivial) (fun g12 => om) (CgF (!(decide (x_2 < 0))) [22] (fun g13 => by exact ⟨g13, trivial⟩) (fun g13 => op_len_e' und22 rfl (List.length_map _)) (CgF (!(decide (x_2 < 0))) [21, 23] (fun g14 => by exact ⟨g14, g14, trivial⟩) (fun g14 => op_geq rfl rfl) (Oc (op_pick_or (fun e => by first | (rw [e]; rfl) | (simp only at e; rw [e]; rfl)) rfl rfl rfl rfl) ?_)))))
   refine OpsL.keepS ⟨[(0, _), (1, _), (5, _), (25, B ((decide (x_2 < 0)) || (decide ((home0.length : Int) ≤ x_3))))], []⟩ rfl (Oc om (CgF (!((decide (x_2 < 0)) || (decide ((home0.length : Int) ≤ x_3)))) [] (fun g15 => by exact trivial) (fun g15 => om) (CgF (!((decide (x_2 < 0)) || (decide ((home0.length : Int) ≤ x_3)))) [] (fun g16 => by exact trivial) (fun g16 => om) (CgF (!((decide (x_2 < 0)) || (decide ((home0.length : Int) ≤ x_3)))) [] (fun g17 => by exact trivial) (fun g17 => om) ?_))))
   obtain ⟨x_4, e19, h4⟩ := bnd h4
   refine CgF (!((decide (x_2 < 0)) || (decide ((home0.length : Int) ≤ x_3)))) [28, 29] (fun g18 => ⟨g18, g18, trivial⟩) (fun g18 => op_index_e tySl22 (ix_lo (gc e19 g18)) (ix_map (e := eI) (gc e19 g18)) rfl rfl) (CgF (!((decide (x_2 < 0)) || (decide ((home0.length : Int) ≤ x_3)))) [30] (fun g20 => ⟨g20, trivial⟩) (fun g20 => op_load_e1 tyOne3 rfl rfl) ?_)
   obtain ⟨x_5, e22, h4⟩ := bnd h4
   refine CgF (!((decide (x_2 < 0)) || (decide ((home0.length : Int) ≤ x_3)))) [27, 31] (fun g21 => ⟨g21, g21, trivial⟩) (fun g21 => op_index_e tySl22 (ix_lo (gc e22 g21)) (ix_map (e := eI) (gc e22 g21)) rfl rfl) (CgF (!((decide (x_2 < 0)) || (decide ((home0.length : Int) ≤ x_3)))) [32] (fun g23 => ⟨g23, trivial⟩) (fun g23 => op_load_e1 tyOne3 rfl rfl) (CgF (!((decide (x_2 < 0)) || (decide ((home0.length : Int) ≤ x_3)))) [33] (fun g24 => ⟨g24, trivial⟩) (fun g24 => op_lss rfl rfl) (OpsL.consB h4 rfl (op_pick_or (fun e => by first | (rw [e]; rfl) | (simp only at e; rw [e]; rfl)) rfl rfl rfl rfl) (fun x_6 h4 => ?_))))
   refine OpsL.nilS ⟨[(0, _), (1, _), (5, _), (35, B x_6)], []⟩ rfl (Tri.ite h4 rfl (fun _ h4 => ?_) (fun _ h4 => ?_))
   ·refine Tri.seq (Tri.regionL ?_)
    refine Oc oa (OpsL.nilS ⟨[(4, B false)], []⟩ rfl (Tri.ret (Fin.block_ret (Fin.then_ret ?_))))
    obtain rfl := hy5 _ (Option.some.inj h4).symm
    refine Fin.then_ret (Fin.block_ret (Fin.then_ret ?_))
    obtain rfl := Option.some.inj h
    refine Fin.keepS ⟨[(4, _)], []⟩ rfl (Fin.result' [.one (.bool false)] (.inl rfl) rfl (.cons (.tmp rfl) .nil) ⟨rfl, rfl⟩)
   ·refine Tri.skip (Fin.block_normal (Fin.keepS ⟨[(0, _), (1, _), (5, _)], []⟩ rfl (Fin.then (Tri.regionL ?_))))
    refine Oc om (Oc (op_add rfl rfl) (Oc oa ?_))
    refine OpsL.nil ?_
    exact Fin.againJ [0, 1, 5] [] (IntKind.i64.wrap (i_1 + 1)) (Option.some.inj h4) rfl
  ·refine Tri.exit (Fin.then_exit ?_)
   obtain rfl := hy5 _ (Option.some.inj h4).symm
   refine Fin.then_exit (Fin.block_exit ?_)
   exact Fin.join [] [] () rfl rfl
 ·rintro _ hv
  subst v1
  refine Tri.seq (Tri.regionL ?_)
  refine Oc oa (OpsL.nilS ⟨[(4, B true)], []⟩ rfl (Tri.ret ?_))
  obtain rfl := Option.some.inj h
  refine Fin.keepS ⟨[(4, _)], []⟩ rfl (Fin.result' [.one (.bool true)] (.inl rfl) rfl (.cons (.tmp rfl) .nil) ⟨rfl, rfl⟩)
def skewbackref44_Proper_S (F : Nat) (home0 : List Int) (sets0 : List (List Int)) : Option Bool :=
 Option.bind (iter F (fun i_1 => if (decide (i_1 < (sets0.length : Int))) = true then ((idx? sets0 i_1).bind fun x_2 => (skewbackref44_Housed_S F home0 x_2).bind fun x_3 => if (!x_3) = true then (some (.inr (.inr false))) else (some (.inl (IntKind.i64.wrap (i_1 + 1))))) else (some (.inr (.inl ())))) 0) (alt2 (fun _ => some true) (fun y => some y))
theorem skewbackref44_Proper_spec {F : Nat} {home0 : List Int} {sets0 : List (List Int)} {r : Bool} (h : skewbackref44_Proper_S F home0 sets0 = some r) : Meets Try.prog [] 25 [] [.one (.sl 1 (home0.map eI)), .one (.sl 1 (sets0.map (eL 1 eI)))] (Is [] (.b (.one (.bool r)))) := by
 unfold skewbackref44_Proper_S at h
 refine Meets.intro 19 Try.func25 Try.ntmps25 rfl (by simp) fun E => ?_
 show Tri _ E ⟨19, [], [], []⟩ _ ⟨[(0, .b (.one (.sl 1 (home0.map eI)))), (1, .b (.one (.sl 1 (sets0.map (eL 1 eI)))))], []⟩ _
 refine Tri.seq (Tri.regionL ?_)
 refine Oc oa (OpsL.nilS ⟨[(0, .b (.one (.sl 1 (home0.map eI)))), (1, .b (.one (.sl 1 (sets0.map (eL 1 eI)))))], []⟩ rfl ?_)
 obtain ⟨v1, h2, h⟩ := bnd h
 refine Tri.seqJ (v := v1) (fun (_ : Unit) => ⟨[], []⟩) (fun z => .inl z) ?_ ?_
 ·refine Tri.seq (Tri.regionL ?_)
  refine Oc oa (OpsL.nilS ⟨[(0, _), (1, _), (5, I 0)], []⟩ rfl (Tri.block (Tri.loopJ h2 (fun (i_1 : Int) => ⟨[(0, .b (.one (.sl 1 (home0.map eI)))), (1, .b (.one (.sl 1 (sets0.map (eL 1 eI))))), (5, I i_1)], []⟩) [0, 1, 5] [] rfl ?_)))
  rintro i_1 o3 h4 hy5
  refine Tri.seq (Tri.seq (Tri.regionL ?_))
  refine Oc om (Oc om (Oc (op_len_e' und23 rfl (List.length_map _)) (Oc (op_lss rfl rfl) ?_)))
  refine OpsL.nilS ⟨[(0, _), (1, _), (5, _), (9, B (decide (i_1 < (sets0.length : Int))))], []⟩ rfl (Tri.ite h4 rfl (fun _ h4 => ?_) (fun _ h4 => ?_))
  ·refine Tri.skip (Fin.keepS ⟨[(0, _), (1, _), (5, _)], []⟩ rfl (Fin.then (Tri.seq (Tri.block (Tri.seq (Tri.regionL ?_))))))
   refine Oc om (Oc om (Oc om ?_))
   obtain ⟨x_2, e6, h4⟩ := bnd h4
   refine Oc (op_index_e tySl23 (ix_lo e6) (ix_map (e := (eL 1 eI)) e6) rfl rfl) (Oc (op_load_e1 tyOne22 rfl rfl) ?_)
   obtain ⟨x_3, e7, h4⟩ := bnd h4
   refine Oc (op_call0 (skewbackref44_Housed_spec e7) goes69 rfl rfl) (Oc (op_not rfl) ?_)
   refine OpsL.nilS ⟨[(0, _), (1, _), (5, _), (18, B (!x_3))], []⟩ rfl (Tri.ite h4 rfl (fun _ h4 => ?_) (fun _ h4 => ?_))
   ·refine Tri.seq (Tri.regionL ?_)
    refine Oc oa (OpsL.nilS ⟨[(4, B false)], []⟩ rfl (Tri.ret (Fin.block_ret (Fin.then_ret ?_))))
    obtain rfl := hy5 _ (Option.some.inj h4).symm
    refine Fin.then_ret (Fin.block_ret (Fin.then_ret ?_))
    obtain rfl := Option.some.inj h
    refine Fin.keepS ⟨[(4, _)], []⟩ rfl (Fin.result' [.one (.bool false)] (.inl rfl) rfl (.cons (.tmp rfl) .nil) ⟨rfl, rfl⟩)
   ·refine Tri.skip (Fin.block_normal (Fin.keepS ⟨[(0, _), (1, _), (5, _)], []⟩ rfl (Fin.then (Tri.regionL ?_))))
    refine Oc om (Oc (op_add rfl rfl) (Oc oa ?_))
    refine OpsL.nil ?_
    exact Fin.againJ [0, 1, 5] [] (IntKind.i64.wrap (i_1 + 1)) (Option.some.inj h4) rfl
  ·refine Tri.exit (Fin.then_exit ?_)
   obtain rfl := hy5 _ (Option.some.inj h4).symm
   refine Fin.then_exit (Fin.block_exit ?_)
   exact Fin.join [] [] () rfl rfl
 ·rintro _ hv
  subst v1
  refine Tri.seq (Tri.regionL ?_)
  refine Oc oa (OpsL.nilS ⟨[(4, B true)], []⟩ rfl (Tri.ret ?_))
  obtain rfl := Option.some.inj h
  refine Fin.keepS ⟨[(4, _)], []⟩ rfl (Fin.result' [.one (.bool true)] (.inl rfl) rfl (.cons (.tmp rfl) .nil) ⟨rfl, rfl⟩)
def skewbackref35_Has_S (F : Nat) (l0 : List Int) (n0 : Int) : Option Bool :=
 Option.bind (iter F (fun i_1 => if (decide (i_1 < (l0.length : Int))) = true then ((idx? l0 i_1).bind fun x_2 => if (decide (x_2 = n0)) = true then (some (.inr (.inr true))) else (some (.inl (IntKind.i64.wrap (i_1 + 1))))) else (some (.inr (.inl ())))) 0) (alt2 (fun _ => some false) (fun y => some y))
theorem skewbackref35_Has_spec {F : Nat} {l0 : List Int} {n0 : Int} {r : Bool} (h : skewbackref35_Has_S F l0 n0 = some r) : Meets Try.prog [] 27 [] [.one (.sl 1 (l0.map eI)), .one (.i n0)] (Is [] (.b (.one (.bool r)))) := by
 unfold skewbackref35_Has_S at h
 refine Meets.intro 18 Try.func27 Try.ntmps27 rfl (by simp) fun E => ?_
 show Tri _ E ⟨18, [], [], []⟩ _ ⟨[(0, .b (.one (.sl 1 (l0.map eI)))), (1, I n0)], []⟩ _
 refine Tri.seq (Tri.regionL ?_)
 refine Oc oa (OpsL.nilS ⟨[(0, .b (.one (.sl 1 (l0.map eI)))), (1, I n0)], []⟩ rfl ?_)
 obtain ⟨v1, h2, h⟩ := bnd h
 refine Tri.seqJ (v := v1) (fun (_ : Unit) => ⟨[], []⟩) (fun z => .inl z) ?_ ?_
 ·refine Tri.seq (Tri.regionL ?_)
  refine Oc oa (OpsL.nilS ⟨[(0, _), (1, _), (5, I 0)], []⟩ rfl (Tri.block (Tri.loopJ h2 (fun (i_1 : Int) => ⟨[(0, .b (.one (.sl 1 (l0.map eI)))), (1, I n0), (5, I i_1)], []⟩) [0, 1, 5] [] rfl ?_)))
  rintro i_1 o3 h4 hy5
  refine Tri.seq (Tri.seq (Tri.regionL ?_))
  refine Oc om (Oc om (Oc (op_len_e' und22 rfl (List.length_map _)) (Oc (op_lss rfl rfl) ?_)))
  refine OpsL.nilS ⟨[(0, _), (1, _), (5, _), (9, B (decide (i_1 < (l0.length : Int))))], []⟩ rfl (Tri.ite h4 rfl (fun _ h4 => ?_) (fun _ h4 => ?_))
  ·refine Tri.skip (Fin.keepS ⟨[(0, _), (1, _), (5, _)], []⟩ rfl (Fin.then (Tri.seq (Tri.block (Tri.seq (Tri.regionL ?_))))))
   refine Oc om (Oc om ?_)
   obtain ⟨x_2, e6, h4⟩ := bnd h4
   refine Oc (op_index_e tySl22 (ix_lo e6) (ix_map (e := eI) e6) rfl rfl) (Oc (op_load_e1 tyOne3 rfl rfl) (Oc om (Oc (op_eql rfl rfl) ?_)))
   refine OpsL.nilS ⟨[(0, _), (1, _), (5, _), (17, B (decide (x_2 = n0)))], []⟩ rfl (Tri.ite h4 rfl (fun _ h4 => ?_) (fun _ h4 => ?_))
   ·refine Tri.seq (Tri.regionL ?_)
    refine Oc oa (OpsL.nilS ⟨[(4, B true)], []⟩ rfl (Tri.ret (Fin.block_ret (Fin.then_ret ?_))))
    obtain rfl := hy5 _ (Option.some.inj h4).symm
    refine Fin.then_ret (Fin.block_ret (Fin.then_ret ?_))
    obtain rfl := Option.some.inj h
    refine Fin.keepS ⟨[(4, _)], []⟩ rfl (Fin.result' [.one (.bool true)] (.inl rfl) rfl (.cons (.tmp rfl) .nil) ⟨rfl, rfl⟩)
   ·refine Tri.skip (Fin.block_normal (Fin.keepS ⟨[(0, _), (1, _), (5, _)], []⟩ rfl (Fin.then (Tri.regionL ?_))))
    refine Oc om (Oc (op_add rfl rfl) (Oc oa ?_))
    refine OpsL.nil ?_
    exact Fin.againJ [0, 1, 5] [] (IntKind.i64.wrap (i_1 + 1)) (Option.some.inj h4) rfl
  ·refine Tri.exit (Fin.then_exit ?_)
   obtain rfl := hy5 _ (Option.some.inj h4).symm
   refine Fin.then_exit (Fin.block_exit ?_)
   exact Fin.join [] [] () rfl rfl
 ·rintro _ hv
  subst v1
  refine Tri.seq (Tri.regionL ?_)
  refine Oc oa (OpsL.nilS ⟨[(4, B false)], []⟩ rfl (Tri.ret ?_))
  obtain rfl := Option.some.inj h
  refine Fin.keepS ⟨[(4, _)], []⟩ rfl (Fin.result' [.one (.bool false)] (.inl rfl) rfl (.cons (.tmp rfl) .nil) ⟨rfl, rfl⟩)
def skewbackref35_with_S (F : Nat) (l0 : List Int) (n0 : Int) : Option (List Int) :=
 (skewbackref35_Has_S F l0 n0).bind fun x_1 => if x_1 = true then (some l0) else (Option.bind (iter F (un3 fun out_4 placed_5 i_6 => if (decide (i_6 < (l0.length : Int))) = true then (Option.bind (Option.bind ((gcall (!placed_5) (idx? l0 i_6)).bind fun x_13 => if ((!placed_5) && (decide (n0 < x_13))) = true then ((app? out_4 [n0]).bind fun x_14 => some (x_14, true)) else (some (out_4, placed_5))) (un2 fun out_11 placed_12 => (idx? l0 i_6).bind fun x_15 => (app? out_11 [x_15]).bind fun x_16 => some (x_16, placed_12))) (un2 fun out_9 placed_10 => some (.inl (out_9, placed_10, IntKind.i64.wrap (i_6 + 1))))) else (some (.inr (out_4, placed_5)))) ([], false, 0)) (un2 fun out_2 placed_3 => Option.bind (if (!placed_3) = true then ((app? out_2 [n0]).bind fun x_18 => some x_18) else (some out_2)) (fun out_17 => some out_17)))
def skewbackref35_union_S (F : Nat) (a0 : List Int) (b0 : List Int) : Option (List Int) :=
 Option.bind (iter F (un2 fun out_2 i_3 => if (decide (i_3 < (b0.length : Int))) = true then ((idx? b0 i_3).bind fun x_5 => (skewbackref35_with_S F out_2 x_5).bind fun x_6 => some (.inl (x_6, IntKind.i64.wrap (i_3 + 1)))) else (some (.inr out_2))) (a0, 0)) (fun out_1 => some out_1)
def skewbackref35_meets_S (F : Nat) (a0 : List Int) (b0 : List Int) : Option Bool :=
 Option.bind (iter F (fun i_1 => if (decide (i_1 < (a0.length : Int))) = true then ((idx? a0 i_1).bind fun x_2 => (skewbackref35_Has_S F b0 x_2).bind fun x_3 => if x_3 = true then (some (.inr (.inr true))) else (some (.inl (IntKind.i64.wrap (i_1 + 1))))) else (some (.inr (.inl ())))) 0) (alt2 (fun _ => some false) (fun y => some y))
def skewbackref35_put_S (F : Nat) (l0 : List (List Int)) (x0 : List Int) : Option (List (List Int)) :=
 Option.bind (iter F (un3 fun out_3 placed_4 i_5 => if (decide (i_5 < (l0.length : Int))) = true then (Option.bind (Option.bind ((gcall (!placed_4) (idx? l0 i_5)).bind fun x_12 => (gcall (!placed_4) (idx? x_12 0)).bind fun x_13 => (gcall (!placed_4) (idx? x0 0)).bind fun x_14 => if ((!placed_4) && (decide (x_14 < x_13))) = true then ((app? out_3 [x0]).bind fun x_15 => some (x_15, true)) else (some (out_3, placed_4))) (un2 fun out_10 placed_11 => (idx? l0 i_5).bind fun x_16 => (app? out_10 [x_16]).bind fun x_17 => some (x_17, placed_11))) (un2 fun out_8 placed_9 => some (.inl (out_8, placed_9, IntKind.i64.wrap (i_5 + 1))))) else (some (.inr (out_3, placed_4)))) ([], false, 0)) (un2 fun out_1 placed_2 => Option.bind (if (!placed_2) = true then ((app? out_1 [x0]).bind fun x_19 => some x_19) else (some out_1)) (fun out_18 => some out_18))
def skewbackref35_Merge_S (F : Nat) (l0 : List (List Int)) : Option (List (List Int)) :=
 Option.bind (iter F (un2 fun sets_2 i_3 => if (decide (i_3 < (l0.length : Int))) = true then (Option.bind ((idx? l0 i_3).bind fun x_6 => (skewbackref35_union_S F [] x_6).bind fun x_7 => if (decide ((x_7.length : Int) = 0)) = true then (some sets_2) else (Option.bind (iter F (un3 fun x_10 rest_11 k_12 => if (decide (k_12 < (sets_2.length : Int))) = true then (Option.bind ((idx? sets_2 k_12).bind fun x_17 => (skewbackref35_meets_S F x_17 x_10).bind fun x_18 => if x_18 = true then ((idx? sets_2 k_12).bind fun x_19 => (skewbackref35_union_S F x_10 x_19).bind fun x_20 => some (x_20, rest_11)) else ((idx? sets_2 k_12).bind fun x_21 => (app? rest_11 [x_21]).bind fun x_22 => some (x_10, x_22))) (un2 fun x_15 rest_16 => some (.inl (x_15, rest_16, IntKind.i64.wrap (k_12 + 1))))) else (some (.inr (x_10, rest_11)))) (x_7, [], 0)) (un2 fun x_8 rest_9 => (app? rest_9 [x_8]).bind fun x_23 => some x_23))) (fun sets_5 => some (.inl (sets_5, IntKind.i64.wrap (i_3 + 1))))) else (some (.inr sets_2))) ([], 0)) (fun sets_1 => Option.bind (iter F (un2 fun out_25 i_26 => if (decide (i_26 < (sets_1.length : Int))) = true then ((idx? sets_1 i_26).bind fun x_28 => (skewbackref35_put_S F out_25 x_28).bind fun x_29 => some (.inl (x_29, IntKind.i64.wrap (i_26 + 1)))) else (some (.inr out_25))) ([], 0)) (fun out_24 => some out_24))
end Go.Proofs.Ytnpddoaeoefcnaa

