/- printed walks -/
import Derived.Test.YtnpddoaeoefcnaaW1
namespace Go.Proofs.Ytnpddoaeoefcnaa
open Go.Sk Go
set_option maxHeartbeats 4000000
set_option maxRecDepth 4000
set_option linter.unusedSimpArgs false
set_option linter.unusedVariables false
def bO (F:Nat) (s0:List Task) (f0v0Kind:Int) (f0v0Step:Int) (f0v0From:Int) (f0v0To:Int) (f0v0Sets:List (List Int)) (f0v0Bodies:List Int) (f0v0States:List Str) (f0v1:Int):Option Bool :=
 (cz F s0 f0v0Kind f0v0Step f0v0From f0v0To f0v0Sets f0v0Bodies f0v0States f0v1).bind fun x_1=>some (decide (0 ≤ x_1))
theorem kf {F:Nat} {s0:List Task} {f0v0Kind:Int} {f0v0Step:Int} {f0v0From:Int} {f0v0To:Int} {f0v0Sets:List (List Int)} {f0v0Bodies:List Int} {f0v0States:List Str} {f0v1:Int} {r:Bool} (h:bO F s0 f0v0Kind f0v0Step f0v0From f0v0To f0v0Sets f0v0Bodies f0v0States f0v1 = some r):aC Try.prog [] 87 [(1,.box 42 [.i f0v0Kind,.i f0v0Step,.i f0v0From,.i f0v0To,.sl 1 (f0v0Sets.map (eL 1 eI)),.sl 1 (f0v0Bodies.map eI),.sl 1 (f0v0States.map eS)]),(2,.box 3 [.i f0v1])] [.one (.sl 3 (s0.map an)),.gr 88 [] [.ptr 1 0,.ptr 2 0]] (Is [(1,.box 42 [.i f0v0Kind,.i f0v0Step,.i f0v0From,.i f0v0To,.sl 1 (f0v0Sets.map (eL 1 eI)),.sl 1 (f0v0Bodies.map eI),.sl 1 (f0v0States.map eS)]),(2,.box 3 [.i f0v1])] (.b (.one (.bool r)))):=by
 unfold bO at h
 refine aC.intro 9 Try.func87 Try.ntmps87 rfl (by simp) fun E=>?_
 show ab _ E ⟨9,[1,2],[1,2],[]⟩ _ ⟨[(0,.b (.one (.sl 3 (s0.map an)))),(1,.b (.gr 88 [] [.ptr 1 0,.ptr 2 0]))],[(1,.box 42 [.i f0v0Kind,.i f0v0Step,.i f0v0From,.i f0v0To,.sl 1 (f0v0Sets.map (eL 1 eI)),.sl 1 (f0v0Bodies.map eI),.sl 1 (f0v0States.map eS)]),(2,.box 3 [.i f0v1])]⟩ _
 refine ab.seq (ab.aa ?_)
 refine Oc oa (ae.ak ⟨[(0,.b (.one (.sl 3 (s0.map an)))),(1,.b (.gr 88 [] [.ptr 1 0,.ptr 2 0]))],[(1,.box 42 [.i f0v0Kind,.i f0v0Step,.i f0v0From,.i f0v0To,.sl 1 (f0v0Sets.map (eL 1 eI)),.sl 1 (f0v0Bodies.map eI),.sl 1 (f0v0States.map eS)]),(2,.box 3 [.i f0v1])]⟩ rfl (ab.seq (ab.aa ?_)))
 refine Oc om (Oc om ?_)
 obtain ⟨x_1,e1,h⟩:=aR h
 refine Oc (bJ (own_a:=[(1,_),(2,_)]) (lD e1) goes96 rfl ⟨rfl,rfl,trivial⟩ rfl rfl) (Oc (fN rfl rfl) (Oc oa ?_))
 refine ae.ak ⟨[(4,B (decide (0 ≤ x_1)))],[(1,_),(2,_)]⟩ rfl (ab.ret ?_)
 obtain rfl:=Option.some.inj h
 refine Fin.ah ⟨[(4,_)],[(1,_),(2,_)]⟩ rfl ?_
 exact Fin.result [.one (.bool (decide (0 ≤ x_1)))] (.inl rfl) rfl (.cons (.tmp rfl) .nil) ⟨rfl,rfl⟩
def ca (F:Nat) (l0:au) (n0r:Round) (n0out:List au):Option Round :=
 (bZ F l0 n0r.Me n0r n0out).bind fun x_1=>(aM (!(!x_1)) (b6 F n0r.Heard false)).bind fun x_2=>if ((!x_1) || x_2) = true then (some n0r) else (Option.bind (iter F (fun x_3=>if (decide (x_3 < (l0.Bodies.length:Int))) = true then ((aT l0.Bodies x_3).bind fun x_4=>(bO F n0r.Tasks l0.Kind l0.Step l0.From l0.To l0.Sets l0.Bodies l0.States x_4).bind fun x_5=>if (!x_5) = true then (some (.inr (.inr n0r))) else (some (.inl (IntKind.i64.wrap (x_3 + 1))))) else (some (.inr (.inl ())))) 0) (bH (fun _=>(cX F n0r.Results l0.Bodies l0.States).bind fun x_6=>some (⟨n0r.Me,n0r.Regions,n0r.Step,n0r.Home,n0r.Heard,n0r.Sets,n0r.States,n0r.Tasks,n0r.Done,x_6⟩:Round)) (fun y=>some y)))
theorem lF {F:Nat} {l0:au} {n0r:Round} {n0out:List au} {r:Round} (h:ca F l0 n0r n0out = some r):aC Try.prog [] 64 [(1,.aO 95 [.one (.i n0r.Me),.one (.i n0r.Regions),.one (.i n0r.Step),.one (.sl 1 (n0r.Home.map eI)),.one (.sl 1 (n0r.Heard.map eB)),.one (.sl 1 (n0r.Sets.map (eL 1 eI))),.one (.sl 1 (n0r.States.map eS)),.one (.sl 3 (n0r.Tasks.map an)),.one (.sl 1 (n0r.Done.map eB)),.one (.sl 1 (n0r.Results.map eS)),.row 2]),(2,.row 42 7 (n0out.map af))] [.ptr 1 0,.agg (af l0)] (Is [(1,.aO 95 [.one (.i r.Me),.one (.i r.Regions),.one (.i r.Step),.one (.sl 1 (r.Home.map eI)),.one (.sl 1 (r.Heard.map eB)),.one (.sl 1 (r.Sets.map (eL 1 eI))),.one (.sl 1 (r.States.map eS)),.one (.sl 3 (r.Tasks.map an)),.one (.sl 1 (r.Done.map eB)),.one (.sl 1 (r.Results.map eS)),.row 2]),(2,.row 42 7 (n0out.map af))] (.fa [])):=by
 unfold ca at h
 refine aC.intro 53 Try.func64 Try.ntmps64 rfl (by simp) fun E=>?_
 show ab _ E ⟨53,[1],[1,2],[]⟩ _ ⟨[(0,Pt 1 0),(1,.b (.agg (af l0)))],[(1,.aO 95 [.one (.i n0r.Me),.one (.i n0r.Regions),.one (.i n0r.Step),.one (.sl 1 (n0r.Home.map eI)),.one (.sl 1 (n0r.Heard.map eB)),.one (.sl 1 (n0r.Sets.map (eL 1 eI))),.one (.sl 1 (n0r.States.map eS)),.one (.sl 3 (n0r.Tasks.map an)),.one (.sl 1 (n0r.Done.map eB)),.one (.sl 1 (n0r.Results.map eS)),.row 2]),(2,.row 42 7 (n0out.map af))]⟩ _
 refine ab.seq (ab.aa ?_)
 refine Oc (gK (k:=101) rfl rfl) (ae.ak ⟨[(0,Pt 1 0),(3,Pt 101 0)],[(1,.aO 95 [.one (.i n0r.Me),.one (.i n0r.Regions),.one (.i n0r.Step),.one (.sl 1 (n0r.Home.map eI)),.one (.sl 1 (n0r.Heard.map eB)),.one (.sl 1 (n0r.Sets.map (eL 1 eI))),.one (.sl 1 (n0r.States.map eS)),.one (.sl 3 (n0r.Tasks.map an)),.one (.sl 1 (n0r.Done.map eB)),.one (.sl 1 (n0r.Results.map eS)),.row 2]),(2,.row 42 7 (n0out.map af)),(101,.box 42 (af l0))]⟩ rfl (ab.seq (ab.seq ?_)))
 refine ab.ah ⟨[(0,_),(3,_)],[(1,_),(2,_),(101,_)]⟩ rfl ?_
 obtain ⟨x_1,e1,h⟩:=aR h
 obtain ⟨x_2,e8,h⟩:=aR h
 refine ab.fe mixed 7 [Pt 1 0,.b (.agg (af l0)),Pt 1 0,Pt 1 0,Pt 1 0,Pt 1 0,I n0r.Me] [0,3,22] [1,2,101] (s':=⟨[(0,_),(3,_),(22,B ((!x_1) || x_2))],[(1,_),(2,_),(101,_)]⟩) rfl ⟨fun _=>.p om,fun _=>.p (lp fH),fun _=>.p om,fun _=>.p (aA rfl),fun _=>.p (ag aY rfl rfl),fun _=>.p (ag eV rfl rfl),fun _=>.p (aS aP rfl rfl rfl),trivial⟩ ⟨_,by exact .p (bJ (own_a:=[(1,_),(2,_)]) (iz e1) xK rfl ⟨rfl,rfl,trivial⟩ rfl rfl),⟨_,by exact .p (dv rfl),⟨_,by exact .p om,⟨_,by exact .guard (!(!x_1)) 1 [] (.plain rfl) (cE _) rfl rfl (fun g2=>trivial) (fun g2=>om),⟨_,by exact .guard (!(!x_1)) 2 [16] (.plain rfl) (cE _) rfl rfl (fun g3=>⟨g3,trivial⟩) (fun g3=>aA rfl),⟨_,by exact .guard (!(!x_1)) 2 [17] (.plain rfl) (cE _) rfl rfl (fun g4=>⟨g4,trivial⟩) (fun g4=>ag aY rfl rfl),⟨_,by exact .guard (!(!x_1)) 2 [18] (.plain rfl) (cE _) rfl rfl (fun g5=>⟨g5,trivial⟩) (fun g5=>ag gX rfl rfl),⟨_,by exact .guard (!(!x_1)) 2 [19] (.plain rfl) (cE _) rfl rfl (fun g6=>⟨g6,trivial⟩) (fun g6=>aS fc rfl rfl rfl),⟨_,by exact .guard (!(!x_1)) 3 [20] (.plain rfl) (cE _) rfl rfl (fun g7=>⟨g7,trivial⟩) (fun g7=>aH (fT (gc e8 g7)) ux rfl rfl),⟨_,by exact .p (aL (fun e=>by first | (rw [e]; rfl) | (simp only at e; rw [e]; rfl)) rfl rfl rfl rfl),rfl⟩⟩⟩⟩⟩⟩⟩⟩⟩⟩ rfl (ab.ite h rfl (fun _ h=>?_) (fun _ h=>?_))
 ·refine ab.ret (Fin.aq ?_)
  obtain rfl:=Option.some.inj h
  refine Fin.ah ⟨[],[(1,_),(2,_)]⟩ rfl ?_
  exact Fin.result [] (.inl rfl) rfl (.nil) ⟨rfl,rfl⟩
 ·refine ab.skip (Fin.ah ⟨[(0,_),(3,_)],[(1,_),(2,_),(101,_)]⟩ rfl (Fin.then ?_))
  obtain ⟨v9,h10,h⟩:=aR h
  refine ab.cJ (v:=v9) (fun (_:Unit)=>⟨[(0,Pt 1 0),(3,Pt 101 0)],[(1,.aO 95 [.one (.i n0r.Me),.one (.i n0r.Regions),.one (.i n0r.Step),.one (.sl 1 (n0r.Home.map eI)),.one (.sl 1 (n0r.Heard.map eB)),.one (.sl 1 (n0r.Sets.map (eL 1 eI))),.one (.sl 1 (n0r.States.map eS)),.one (.sl 3 (n0r.Tasks.map an)),.one (.sl 1 (n0r.Done.map eB)),.one (.sl 1 (n0r.Results.map eS)),.row 2]),(2,.row 42 7 (n0out.map af)),(101,.box 42 (af l0))]⟩) (fun z=>.inl z) ?_ ?_
  ·refine ab.seq (ab.aa ?_)
   refine Oc (ag gi rfl rfl) (Oc (av bx rfl rfl rfl) (Oc (ay cc rfl (List.length_map _)) (Oc om ?_)))
   refine ae.ak ⟨[(0,_),(3,_),(24,.b (.one (.sl 1 (l0.Bodies.map eI)))),(25,I (l0.Bodies.length:Int)),(26,I 0)],[(1,_),(2,_),(101,_)]⟩ rfl (ab.block (ab.ct h10 (fun (x_3:Int)=>⟨[(0,Pt 1 0),(3,Pt 101 0),(24,.b (.one (.sl 1 (l0.Bodies.map eI)))),(25,I (l0.Bodies.length:Int)),(26,I x_3)],[(1,.aO 95 [.one (.i n0r.Me),.one (.i n0r.Regions),.one (.i n0r.Step),.one (.sl 1 (n0r.Home.map eI)),.one (.sl 1 (n0r.Heard.map eB)),.one (.sl 1 (n0r.Sets.map (eL 1 eI))),.one (.sl 1 (n0r.States.map eS)),.one (.sl 3 (n0r.Tasks.map an)),.one (.sl 1 (n0r.Done.map eB)),.one (.sl 1 (n0r.Results.map eS)),.row 2]),(2,.row 42 7 (n0out.map af)),(101,.box 42 (af l0))]⟩) [0,3,24,25,26] [1,2,101] rfl ?_))
   rintro x_3 o11 h12 hy13
   refine ab.seq (ab.aa ?_)
   refine Oc (bm rfl rfl) (ae.ak ⟨[(0,_),(3,_),(24,_),(25,_),(26,_),(27,B (decide (x_3 < (l0.Bodies.length:Int))))],[(1,_),(2,_),(101,_)]⟩ rfl (ab.seq (ab.ite h12 rfl (fun _ h12=>?_) (fun _ h12=>?_))))
   ·refine ab.skip (Fin.ah ⟨[(0,_),(3,_),(24,_),(25,_),(26,_)],[(1,_),(2,_),(101,_)]⟩ rfl (Fin.then (ab.seq (ab.block (ab.seq (ab.aa ?_))))))
    obtain ⟨x_4,e14,h12⟩:=aR h12
    refine Oc (ar ba (aK e14) (aE (e:=eI) e14) rfl rfl) (Oc (aw aP rfl rfl) (Oc (dN (k:=102) tyZero3 rfl) (Oc (mK aP rfl rfl rfl (Nat.le_of_ble_eq_true rfl) rfl) ?_)))
    refine ae.ak ⟨[(0,_),(3,_),(5,Pt 102 0),(24,_),(25,_),(26,_)],[(1,_),(2,_),(101,_),(102,.box 3 [.i x_4])]⟩ rfl (ab.seq (ab.aa ?_))
    refine Oc om (Oc (aA rfl) (Oc (ag aY rfl rfl) (Oc (ag dB rfl rfl) (Oc (aS fG rfl rfl rfl) (Oc (fR rfl rfl) ?_)))))
    obtain ⟨x_5,e15,h12⟩:=aR h12
    refine Oc (bJ (own_a:=[(101,_),(102,_)]) (((kf e15).sw 1 101).sw 2 102) goes87 rfl ⟨rfl,rfl,trivial⟩ rfl rfl) (Oc (dv rfl) ?_)
    refine ae.ak ⟨[(0,_),(3,_),(24,_),(25,_),(26,_),(37,B (!x_5))],[(1,_),(2,_),(101,_)]⟩ rfl (ab.ite h12 rfl (fun _ h12=>?_) (fun _ h12=>?_))
    ·refine ab.ret (Fin.aD (Fin.aq ?_))
     obtain rfl:=hy13 _ (Option.some.inj h12).symm
     refine Fin.aq (Fin.aD (Fin.aq ?_))
     obtain rfl:=Option.some.inj h
     refine Fin.ah ⟨[],[(1,_),(2,_)]⟩ rfl ?_
     exact Fin.result [] (.inl rfl) rfl (.nil) ⟨rfl,rfl⟩
    ·refine ab.skip (Fin.ax (Fin.ah ⟨[(0,_),(3,_),(24,_),(25,_),(26,_)],[(1,_),(2,_),(101,_)]⟩ rfl (Fin.then (ab.aa ?_))))
     refine Oc (bq rfl rfl) (Oc om ?_)
     refine ae.nil ?_
     exact Fin.bK [0,3,24,25,26] [1,2,101] (IntKind.i64.wrap (x_3 + 1)) (Option.some.inj h12) rfl
   ·refine ab.exit (Fin.ao ?_)
    obtain rfl:=hy13 _ (Option.some.inj h12).symm
    refine Fin.ao (Fin.aI ?_)
    exact Fin.join [0,3] [1,2,101] () rfl rfl
  ·rintro _ hv
   subst v9
   refine ab.ah ⟨[(0,_),(3,_)],[(1,_),(2,_),(101,_)]⟩ rfl ?_
   obtain ⟨x_6,e16,h⟩:=aR h
   refine ab.jk mixed 14 [Pt 1 0,Pt 1 0,Pt 1 0,Pt 1 0,Pt 1 9,.b (.one (.sl 1 (n0r.Results.map eS))),Pt 101 5,.b (.one (.sl 1 (l0.Bodies.map eI))),Pt 101 6,.b (.one (.sl 1 (l0.States.map eS))),.b (.one (.sl 1 (x_6.map eS))),Pt 1 0,Pt 1 0,Pt 1 9] [] [1,2] (s':=⟨[],[(1,.aO 95 [.one (.i n0r.Me),.one (.i n0r.Regions),.one (.i n0r.Step),.one (.sl 1 (n0r.Home.map eI)),.one (.sl 1 (n0r.Heard.map eB)),.one (.sl 1 (n0r.Sets.map (eL 1 eI))),.one (.sl 1 (n0r.States.map eS)),.one (.sl 3 (n0r.Tasks.map an)),.one (.sl 1 (n0r.Done.map eB)),.one (.sl 1 (x_6.map eS)),.row 2]),(2,_)]⟩) rfl ⟨fun _=>.p om,fun _=>.p om,fun _=>.p (aA rfl),fun _=>.p (ag aY rfl rfl),fun _=>.p (ag fy rfl rfl),fun _=>.p (aS dz rfl rfl rfl),fun _=>.p (ag gi rfl rfl),fun _=>.p (av bx rfl rfl rfl),fun _=>.p (ag lh rfl rfl),fun _=>.p (av dz rfl rfl rfl),fun _=>.p (aH (iQ 0 e16).iB uz rfl rfl),fun _=>.p (aA rfl),fun _=>.p (ag aY rfl rfl),fun _=>.p (ag fy rfl rfl),trivial⟩ ⟨_,by exact .p (ed dz rfl rfl rfl rfl (Nat.le_of_ble_eq_true rfl) rfl),rfl⟩ rfl ?_
   obtain rfl:=Option.some.inj h
   refine Fin.ah ⟨[],[(1,_),(2,_)]⟩ rfl ?_
   exact Fin.result [] (.inr rfl) rfl (.nil) ⟨rfl,rfl⟩
def cD (F:Nat) (r0:Round) (l0:au):Option (Round × (List au)) :=
 bR (((decide (l0.To ≠ r0.Me)) || (decide (l0.Step ≠ r0.Step))) || (decide (l0.From = r0.Me))) fun x_1=>bR ((x_1 || (decide (l0.From < 0))) || (decide (r0.Regions ≤ l0.From))) fun x_2=>if x_2 = true then (some (r0,[])) else (Option.bind (if decide (l0.Kind = 1) = true then (Option.bind (cn F l0 r0 []) (eD fun x_14 x_15=>some (x_14.Me,x_14.Regions,x_14.Step,x_14.Home,x_14.Heard,x_14.Sets,x_14.States,x_14.Tasks,x_14.Done,x_14.Results,x_15))) else (if decide (l0.Kind = 2) = true then ((cg F l0 r0 []).bind fun x_16=>some (x_16.Me,x_16.Regions,x_16.Step,x_16.Home,x_16.Heard,x_16.Sets,x_16.States,x_16.Tasks,x_16.Done,x_16.Results,[])) else (if decide (l0.Kind = 3) = true then ((ca F l0 r0 []).bind fun x_17=>some (x_17.Me,x_17.Regions,x_17.Step,x_17.Home,x_17.Heard,x_17.Sets,x_17.States,x_17.Tasks,x_17.Done,x_17.Results,[])) else (some (r0.Me,r0.Regions,r0.Step,r0.Home,r0.Heard,r0.Sets,r0.States,r0.Tasks,r0.Done,r0.Results,[]))))) (un11 fun r_3 nf1_4 nf2_5 nf3_6 nf4_7 nf5_8 nf6_9 nf7_10 nf8_11 nf9_12 out_13=>some ((⟨r_3,nf1_4,nf2_5,nf3_6,nf4_7,nf5_8,nf6_9,nf7_10,nf8_11,nf9_12⟩:Round),out_13)))
theorem dY (kr0:Nat) {F:Nat} {r0:Round} {l0:au} {r:Round × (List au)} (h:cD F r0 l0 = some r):aC Try.prog [] 17 [] [.agg (aj r0),.agg (af l0)] (Is [(kr0,.row 42 7 (r.2.map af))] (.fa [.agg (aj r.1),.row kr0])):=by
 unfold cD at h
 refine aC.intro 67 Try.func17 Try.ntmps17 rfl (by simp) fun E=>?_
 show ab _ E ⟨67,[],[],[]⟩ _ ⟨[(0,.b (.agg (aj r0))),(1,.b (.agg (af l0)))],[]⟩ _
 refine ab.seq (ab.aa ?_)
 refine Oc (gK (k:=101) rfl rfl) (Oc (gK (k:=102) rfl rfl) (Oc (dN (k:=103) ji rfl) (Oc oa ?_)))
 refine ae.ak ⟨[(2,Pt 101 0),(3,Pt 102 0),(4,Pt 103 0)],[(101,.box 31 (aj r0)),(102,.box 42 (af l0)),(103,.box 31 [.i 0,.i 0,.i 0,.nil,.nil,.nil,.nil,.nil,.nil,.nil])]⟩ rfl (ab.seq (ab.seq (ab.aa ?_)))
 refine Oc (ag na rfl rfl) (Oc (av aP rfl rfl rfl) (Oc (ag eV rfl rfl) (Oc (av aP rfl rfl rfl) (Oc (dg rfl rfl) (Oc om ?_)))))
 refine cr (!(decide (l0.To ≠ r0.Me))) [] (fun g1=>trivial) (fun g1=>ag rQ rfl rfl) (ae.ah ⟨[(2,_),(3,_),(4,_),(13,B (decide (l0.To ≠ r0.Me))),(14,.opt (!(decide (l0.To ≠ r0.Me))) (.ptr 102 1))],[(101,_),(102,_),(103,_)]⟩ rfl (cr (!(decide (l0.To ≠ r0.Me))) [14] (fun g2=>⟨g2,trivial⟩) (fun g2=>av aP rfl rfl rfl) (cr (!(decide (l0.To ≠ r0.Me))) [] (fun g3=>trivial) (fun g3=>ag rR rfl rfl) (cr (!(decide (l0.To ≠ r0.Me))) [16] (fun g4=>⟨g4,trivial⟩) (fun g4=>av aP rfl rfl rfl) (cr (!(decide (l0.To ≠ r0.Me))) [15,17] (fun g5=>⟨g5,g5,trivial⟩) (fun g5=>dg rfl rfl) ?_)))))
 refine Oc (aL (fun e=>by first | (rw [e]; rfl) | (simp only at e; rw [e]; rfl)) rfl rfl rfl rfl) (Oc om ?_)
 refine cr (!((decide (l0.To ≠ r0.Me)) || (decide (l0.Step ≠ r0.Step)))) [] (fun g6=>trivial) (fun g6=>ag gW rfl rfl) (cr (!((decide (l0.To ≠ r0.Me)) || (decide (l0.Step ≠ r0.Step)))) [21] (fun g7=>⟨g7,trivial⟩) (fun g7=>av aP rfl rfl rfl) (ae.ah ⟨[(2,_),(3,_),(4,_),(20,B ((decide (l0.To ≠ r0.Me)) || (decide (l0.Step ≠ r0.Step)))),(22,.opt (!((decide (l0.To ≠ r0.Me)) || (decide (l0.Step ≠ r0.Step)))) (.one (.i l0.From)))],[(101,_),(102,_),(103,_)]⟩ rfl (cr (!((decide (l0.To ≠ r0.Me)) || (decide (l0.Step ≠ r0.Step)))) [] (fun g8=>trivial) (fun g8=>ag eV rfl rfl) (cr (!((decide (l0.To ≠ r0.Me)) || (decide (l0.Step ≠ r0.Step)))) [23] (fun g9=>⟨g9,trivial⟩) (fun g9=>av aP rfl rfl rfl) (cr (!((decide (l0.To ≠ r0.Me)) || (decide (l0.Step ≠ r0.Step)))) [22,24] (fun g10=>⟨g10,g10,trivial⟩) (fun g10=>dT rfl rfl) ?_)))))
 refine ae.iC h rfl (aL (fun e=>by first | (rw [e]; rfl) | (simp only at e; rw [e]; rfl)) rfl rfl rfl rfl) (fun x_1 h=>?_)
 refine Oc om (cr (!x_1) [] (fun g11=>by exact trivial) (fun g11=>ag gW rfl rfl) (cr (!x_1) [28] (fun g12=>by exact ⟨g12,trivial⟩) (fun g12=>av aP rfl rfl rfl) (cr (!x_1) [29] (fun g13=>by exact ⟨g13,trivial⟩) (fun g13=>bm rfl rfl) (ae.ah ⟨[(2,_),(3,_),(4,_),(27,B x_1),(30,.opt (!x_1) (.one (.bool (decide (l0.From < 0)))))],[(101,_),(102,_),(103,_)]⟩ rfl (Oc (aL (fun e=>by first | (rw [e]; rfl) | (simp only at e; rw [e]; rfl)) rfl rfl rfl rfl) (Oc om ?_))))))
 refine cr (!(x_1 || (decide (l0.From < 0)))) [] (fun g14=>trivial) (fun g14=>ag gW rfl rfl) (cr (!(x_1 || (decide (l0.From < 0)))) [33] (fun g15=>⟨g15,trivial⟩) (fun g15=>av aP rfl rfl rfl) (cr (!(x_1 || (decide (l0.From < 0)))) [] (fun g16=>trivial) (fun g16=>ag wg rfl rfl) (cr (!(x_1 || (decide (l0.From < 0)))) [35] (fun g17=>⟨g17,trivial⟩) (fun g17=>av aP rfl rfl rfl) (cr (!(x_1 || (decide (l0.From < 0)))) [34,36] (fun g18=>⟨g18,g18,trivial⟩) (fun g18=>fN rfl rfl) (ae.iC h rfl (aL (fun e=>by first | (rw [e]; rfl) | (simp only at e; rw [e]; rfl)) rfl rfl rfl rfl) (fun x_2 h=>?_))))))
 refine ae.ak ⟨[(2,_),(3,_),(4,_),(38,B x_2)],[(101,_),(102,_),(103,_)]⟩ rfl (ab.ite h rfl (fun _ h=>?_) (fun _ h=>?_))
 ·refine ab.seq (ab.aa ?_)
  refine Oc (lp aV) (Oc (bD aV rfl rfl rfl rfl (Nat.le_of_ble_eq_true rfl) rfl) (Oc oa ?_))
  refine ae.ak ⟨[(4,_),(5,.b (.one (.nil)))],[(103,.box 31 (aj r0))]⟩ rfl (ab.ret (Fin.aq ?_))
  obtain rfl:=Option.some.inj h
  refine Fin.ah ⟨[(4,_),(5,_)],[(103,_)]⟩ rfl (Fin.cT 5 104 7 42 rfl (by decide) rfl (Fin.dr 104 kr0 [.agg (aj r0),.row 104] (.inl rfl) rfl (.cons (.agg aV rfl rfl rfl rfl) (.cons (.tmp rfl) .nil)) rfl rfl rfl rfl ⟨rfl,rfl⟩))
 ·refine ab.skip (Fin.ah ⟨[(2,_),(3,_),(4,_)],[(101,_),(102,_),(103,_)]⟩ rfl (Fin.then (ab.seq (ab.aa ?_))))
  refine Oc (lp aV) (Oc (dM pv rfl rfl) (Oc (gK (k:=105) rfl rfl) (Oc oa ?_)))
  refine ae.ak ⟨[(3,_),(4,_),(6,Pt 105 0)],[(102,_),(103,_),(105,.box 95 (aj r0 ++ ([.nil])))]⟩ rfl ?_
  obtain ⟨v19,h20,h⟩:=aR h
  refine ab.cJ (v:=v19) (un11 fun (r_3:Int) (nf1_4:Int) (nf2_5:Int) (nf3_6:List Int) (nf4_7:List Bool) (nf5_8:List (List Int)) (nf6_9:List Str) (nf7_10:List Task) (nf8_11:List Bool) (nf9_12:List Str) (out_13:List au)=>⟨[(4,Pt 103 0),(6,Pt 105 0)],[(103,.box 31 [.i 0,.i 0,.i 0,.nil,.nil,.nil,.nil,.nil,.nil,.nil]),(105,.aO 95 [.one (.i r_3),.one (.i nf1_4),.one (.i nf2_5),.one (.sl 1 (nf3_6.map eI)),.one (.sl 1 (nf4_7.map eB)),.one (.sl 1 (nf5_8.map (eL 1 eI))),.one (.sl 1 (nf6_9.map eS)),.one (.sl 3 (nf7_10.map an)),.one (.sl 1 (nf8_11.map eB)),.one (.sl 1 (nf9_12.map eS)),.row 107]),(107,.row 42 7 (out_13.map af))]⟩) (fun z=>z) ?_ ?_
  ·refine ab.seq (ab.aa ?_)
   refine Oc (u3 (k:=106) undm111 rfl) (Oc om (Oc (fR rfl rfl) (Oc (sI (l:=[]) jS rfl rfl rfl rfl) (Oc om (Oc (fR rfl rfl) ?_)))))
   refine Oc (sI (l:=[(1,.gr 62 [.ptr 105 0] [])]) jS rfl rfl rfl rfl) (ae.ah ⟨[(3,_),(4,_),(6,_),(43,.b (.row 106))],[(102,_),(103,_),(105,_),(106,.mp (eM .i64 [(1,.gr 62 [.ptr 105 0] []),(2,.gr 63 [.ptr 105 0] [])]))]⟩ rfl (Oc om (Oc (fR rfl rfl) (Oc (sI (l:=[(1,.gr 62 [.ptr 105 0] []),(2,.gr 63 [.ptr 105 0] [])]) jS rfl rfl rfl rfl) (Oc om (Oc (ag pq rfl rfl) (Oc (av aP rfl rfl rfl) ?_)))))))
   refine ae.ite h20 (fun hc21 h20=>?_) (fun hc21 h20=>?_)
   ·refine Oc (oN (l:=[(1,.gr 62 [.ptr 105 0] []),(2,.gr 63 [.ptr 105 0] []),(3,.gr 64 [.ptr 105 0] [])]) jS rfl rfl rfl (qF hc21)) (Oc oa ?_)
    refine ae.ak ⟨[(3,_),(4,_),(6,_),(7,.b (.gr 62 [.ptr 105 0] []))],[(102,_),(103,_),(105,_)]⟩ rfl (ab.seq (ab.aa ?_))
    refine Oc om (Oc (pD vr rfl) ?_)
    refine ae.ak ⟨[(3,_),(4,_),(6,_),(7,_),(55,B true)],[(102,_),(103,_),(105,_)]⟩ rfl (ab.tj rfl (ab.aa (Oc om (Oc (lp fH) ?_))))
    refine ae.vo 105 rfl (ae.gG 105 10 107 7 42 rfl rfl (by decide) (by decide) rfl ?_)
    obtain ⟨⟨x_14,x_15⟩,e22,h20⟩:=aR h20
    refine Oc (jl (own_a:=[(105,_),(107,_)]) (((mW e22).sw 1 105).sw 2 107) goes62 rfl rfl rfl ⟨rfl,rfl,trivial⟩ rfl rfl) (ae.nil ?_)
    exact Fin.join [4,6] [103,105,107] (x_14.Me,x_14.Regions,x_14.Step,x_14.Home,x_14.Heard,x_14.Sets,x_14.States,x_14.Tasks,x_14.Done,x_14.Results,x_15) (Option.some.inj h20) rfl
   ·refine ae.ite h20 (fun hc23 h20=>?_) (fun hc23 h20=>?_)
    ·refine Oc (oN (l:=[(1,.gr 62 [.ptr 105 0] []),(2,.gr 63 [.ptr 105 0] []),(3,.gr 64 [.ptr 105 0] [])]) jS rfl rfl rfl (jI hc21 (qF hc23))) (Oc oa ?_)
     refine ae.ak ⟨[(3,_),(4,_),(6,_),(7,.b (.gr 63 [.ptr 105 0] []))],[(102,_),(103,_),(105,_)]⟩ rfl (ab.seq (ab.aa ?_))
     refine Oc om (Oc (pD vr rfl) ?_)
     refine ae.ak ⟨[(3,_),(4,_),(6,_),(7,_),(55,B true)],[(102,_),(103,_),(105,_)]⟩ rfl (ab.tj rfl (ab.aa (Oc om (Oc (lp fH) ?_))))
     refine ae.vo 105 rfl (ae.gG 105 10 108 7 42 rfl rfl (by decide) (by decide) rfl ?_)
     obtain ⟨x_16,e24,h20⟩:=aR h20
     refine Oc (jl (own_a:=[(105,_),(108,_)]) (((l8 e24).sw 1 105).sw 2 108) goes63 rfl rfl rfl ⟨rfl,rfl,trivial⟩ rfl rfl) (ae.nil (Fin.ah ⟨[(4,Pt 103 0),(6,Pt 105 0)],[(103,.box 31 [.i 0,.i 0,.i 0,.nil,.nil,.nil,.nil,.nil,.nil,.nil]),(105,.aO 95 [.one (.i x_16.Me),.one (.i x_16.Regions),.one (.i x_16.Step),.one (.sl 1 (x_16.Home.map eI)),.one (.sl 1 (x_16.Heard.map eB)),.one (.sl 1 (x_16.Sets.map (eL 1 eI))),.one (.sl 1 (x_16.States.map eS)),.one (.sl 3 (x_16.Tasks.map an)),.one (.sl 1 (x_16.Done.map eB)),.one (.sl 1 (x_16.Results.map eS)),.row 108]),(108,.row 42 7 ([].map af))]⟩ rfl (Fin.rename 108 107 rfl (by decide) rfl ?_)))
     exact Fin.join [4,6] [103,105,107] (x_16.Me,x_16.Regions,x_16.Step,x_16.Home,x_16.Heard,x_16.Sets,x_16.States,x_16.Tasks,x_16.Done,x_16.Results,[]) (Option.some.inj h20) rfl
    ·refine ae.ite h20 (fun hc25 h20=>?_) (fun hc25 h20=>?_)
     ·refine Oc (oN (l:=[(1,.gr 62 [.ptr 105 0] []),(2,.gr 63 [.ptr 105 0] []),(3,.gr 64 [.ptr 105 0] [])]) jS rfl rfl rfl (jI hc21 (jI hc23 (qF hc25)))) (Oc oa ?_)
      refine ae.ak ⟨[(3,_),(4,_),(6,_),(7,.b (.gr 64 [.ptr 105 0] []))],[(102,_),(103,_),(105,_)]⟩ rfl (ab.seq (ab.aa ?_))
      refine Oc om (Oc (pD vr rfl) ?_)
      refine ae.ak ⟨[(3,_),(4,_),(6,_),(7,_),(55,B true)],[(102,_),(103,_),(105,_)]⟩ rfl (ab.tj rfl (ab.aa (Oc om (Oc (lp fH) ?_))))
      refine ae.vo 105 rfl (ae.gG 105 10 109 7 42 rfl rfl (by decide) (by decide) rfl ?_)
      obtain ⟨x_17,e26,h20⟩:=aR h20
      refine Oc (jl (own_a:=[(105,_),(109,_)]) (((lF e26).sw 1 105).sw 2 109) goes64 rfl rfl rfl ⟨rfl,rfl,trivial⟩ rfl rfl) (ae.nil (Fin.ah ⟨[(4,Pt 103 0),(6,Pt 105 0)],[(103,.box 31 [.i 0,.i 0,.i 0,.nil,.nil,.nil,.nil,.nil,.nil,.nil]),(105,.aO 95 [.one (.i x_17.Me),.one (.i x_17.Regions),.one (.i x_17.Step),.one (.sl 1 (x_17.Home.map eI)),.one (.sl 1 (x_17.Heard.map eB)),.one (.sl 1 (x_17.Sets.map (eL 1 eI))),.one (.sl 1 (x_17.States.map eS)),.one (.sl 3 (x_17.Tasks.map an)),.one (.sl 1 (x_17.Done.map eB)),.one (.sl 1 (x_17.Results.map eS)),.row 109]),(109,.row 42 7 ([].map af))]⟩ rfl (Fin.rename 109 107 rfl (by decide) rfl ?_)))
      exact Fin.join [4,6] [103,105,107] (x_17.Me,x_17.Regions,x_17.Step,x_17.Home,x_17.Heard,x_17.Sets,x_17.States,x_17.Tasks,x_17.Done,x_17.Results,[]) (Option.some.inj h20) rfl
     ·refine Oc (oN (l:=[(1,.gr 62 [.ptr 105 0] []),(2,.gr 63 [.ptr 105 0] []),(3,.gr 64 [.ptr 105 0] [])]) jS rfl rfl rfl (jI hc21 (jI hc23 (jI hc25 rfl)))) (Oc oa ?_)
      refine ae.ak ⟨[(3,_),(4,_),(6,_),(7,.b (.one (.raw .nilFunc)))],[(102,_),(103,_),(105,_)]⟩ rfl (ab.seq (ab.aa ?_))
      refine Oc om (Oc (tR vr rfl) ?_)
      refine ae.ak ⟨[(3,Pt 102 0),(4,Pt 103 0),(6,Pt 105 0),(7,.b (.one (.raw .nilFunc))),(55,B false)],[(102,.box 42 (af l0)),(103,.box 31 [.i 0,.i 0,.i 0,.nil,.nil,.nil,.nil,.nil,.nil,.nil]),(105,.box 95 (aj r0 ++ ([.nil])))]⟩ rfl (ab.xn rfl (ab.skip (Fin.ah ⟨[(4,_),(6,_)],[(103,_),(105,_)]⟩ rfl (Fin.vo 105 rfl (Fin.gG 105 10 107 7 42 rfl rfl (by decide) (by decide) rfl ?_)))))
      exact Fin.join [4,6] [103,105,107] (r0.Me,r0.Regions,r0.Step,r0.Home,r0.Heard,r0.Sets,r0.States,r0.Tasks,r0.Done,r0.Results,[]) (Option.some.inj h20) rfl
  ·rintro ⟨r_3,nf1_4,nf2_5,nf3_6,nf4_7,nf5_8,nf6_9,nf7_10,nf8_11,nf9_12,out_13⟩ hv
   subst v19
   refine ab.seq (ab.ah ⟨[(4,_),(6,_)],[(103,_),(105,_),(107,_)]⟩ rfl (ab.ff mixed [false,false,false,false,false,false,false,false,true,false] [Pt 105 0,Pt 105 0,Pt 105 0,.b (.agg [.i r_3,.i nf1_4,.i nf2_5,.sl 1 (nf3_6.map eI),.sl 1 (nf4_7.map eB),.sl 1 (nf5_8.map (eL 1 eI)),.sl 1 (nf6_9.map eS),.sl 3 (nf7_10.map an),.sl 1 (nf8_11.map eB),.sl 1 (nf9_12.map eS)]),Pt 105 0,Pt 105 0,Pt 105 10,.b (.row 107),B true,.b (.row 107)] [⟨[false,false,false,false,false,false,false,false,false,false],[(4,Pt 103 0),(6,Pt 105 0)],[(103,.box 31 [.i 0,.i 0,.i 0,.nil,.nil,.nil,.nil,.nil,.nil,.nil]),(105,.aO 95 [.one (.i r_3),.one (.i nf1_4),.one (.i nf2_5),.one (.sl 1 (nf3_6.map eI)),.one (.sl 1 (nf4_7.map eB)),.one (.sl 1 (nf5_8.map (eL 1 eI))),.one (.sl 1 (nf6_9.map eS)),.one (.sl 3 (nf7_10.map an)),.one (.sl 1 (nf8_11.map eB)),.one (.sl 1 (nf9_12.map eS)),.row 107]),(107,.row 42 7 (out_13.map af))],[true,true,true,true,true,true,true,true,true,true],[],[9]⟩,⟨[false,false,false,false,false,false,false,false,true,false],[(4,Pt 103 0),(6,Pt 105 0)],[(103,.box 31 [.i r_3,.i nf1_4,.i nf2_5,.sl 1 (nf3_6.map eI),.sl 1 (nf4_7.map eB),.sl 1 (nf5_8.map (eL 1 eI)),.sl 1 (nf6_9.map eS),.sl 3 (nf7_10.map an),.sl 1 (nf8_11.map eB),.sl 1 (nf9_12.map eS)]),(105,.aO 95 [.one (.i r_3),.one (.i nf1_4),.one (.i nf2_5),.one (.sl 1 (nf3_6.map eI)),.one (.sl 1 (nf4_7.map eB)),.one (.sl 1 (nf5_8.map (eL 1 eI))),.one (.sl 1 (nf6_9.map eS)),.one (.sl 3 (nf7_10.map an)),.one (.sl 1 (nf8_11.map eB)),.one (.sl 1 (nf9_12.map eS)),.row 107]),(107,.row 42 7 (out_13.map af))],[true,true,true,true,true,true,true,true,true,true],[0,1,2,3,8],[]⟩] rfl (⟨by kernel_rfl,⟨⟨Pt 105 0,fun _=>rfl,fun _=>.p (by exact az rfl)⟩,⟨Pt 105 0,fun _=>rfl,fun _=>.p (by exact aA rfl)⟩,⟨Pt 105 0,fun _=>rfl,fun _=>.p (by exact ag aY rfl rfl)⟩,⟨.b (.agg [.i r_3,.i nf1_4,.i nf2_5,.sl 1 (nf3_6.map eI),.sl 1 (nf4_7.map eB),.sl 1 (nf5_8.map (eL 1 eI)),.sl 1 (nf6_9.map eS),.sl 3 (nf7_10.map an),.sl 1 (nf8_11.map eB),.sl 1 (nf9_12.map eS)]),fun _=>rfl,fun _=>.p (by exact n6 aV rfl rfl rfl rfl)⟩,⟨Pt 105 0,fun _=>rfl,fun _=>.p (by exact az rfl)⟩,⟨Pt 105 0,fun _=>rfl,fun _=>.p (by exact aA rfl)⟩,⟨Pt 105 10,fun _=>rfl,fun _=>.p (by exact ag gV rfl rfl)⟩,⟨.b (.row 107),fun _=>rfl,fun _=>.p (by exact aS kC rfl rfl rfl)⟩,⟨_,[],.b (.one .any),rfl,(fun e=>by simp at e),rfl,rfl,fun _=>.mc [103,105,107] (by exact .p (by exact bD aV rfl rfl rfl rfl (Nat.le_of_ble_eq_true rfl) rfl)) (by exact rfl)⟩,trivial,trivial⟩,⟨by kernel_rfl,⟨trivial,trivial,trivial,trivial,⟨Pt 105 0,fun _=>rfl,fun _=>.p (by exact az rfl)⟩,⟨Pt 105 0,fun _=>rfl,fun _=>.p (by exact aA rfl)⟩,⟨Pt 105 10,fun _=>rfl,fun _=>.p (by exact ag gV rfl rfl)⟩,⟨.b (.row 107),fun _=>rfl,fun _=>.p (by exact aS kC rfl rfl rfl)⟩,trivial,⟨.b (.row 107),fun _=>rfl,fun _=>.p (by exact cH rfl)⟩,trivial⟩,trivial⟩⟩) rfl rfl rfl [4,5] [103,107] (s':=⟨[(4,_),(5,.b (.row 107))],[(103,.box 31 [.i r_3,.i nf1_4,.i nf2_5,.sl 1 (nf3_6.map eI),.sl 1 (nf4_7.map eB),.sl 1 (nf5_8.map (eL 1 eI)),.sl 1 (nf6_9.map eS),.sl 3 (nf7_10.map an),.sl 1 (nf8_11.map eB),.sl 1 (nf9_12.map eS)]),(107,_)]⟩) rfl ?_))
   refine ab.ret ?_
   obtain rfl:=Option.some.inj h
   refine Fin.ah ⟨[(4,_),(5,_)],[(103,_),(107,_)]⟩ rfl (Fin.dr 107 kr0 [.agg [.i r_3,.i nf1_4,.i nf2_5,.sl 1 (nf3_6.map eI),.sl 1 (nf4_7.map eB),.sl 1 (nf5_8.map (eL 1 eI)),.sl 1 (nf6_9.map eS),.sl 3 (nf7_10.map an),.sl 1 (nf8_11.map eB),.sl 1 (nf9_12.map eS)],.row 107] (.inl rfl) rfl (.cons (.agg aV rfl rfl rfl rfl) (.cons (.tmp rfl) .nil)) rfl rfl rfl rfl ⟨rfl,rfl⟩)
def cP (F:Nat) (r0:Round) (k0:Int):Option Bool :=
 (aT r0.Tasks k0).bind fun x_1=>(aM (decide (x_1.Owner = r0.Me)) (aT r0.Done k0)).bind fun x_2=>(aM ((decide (x_1.Owner = r0.Me)) && (!x_2)) (cV F r0.States x_1.Bodies)).bind fun x_3=>(aM ((decide (x_1.Owner = r0.Me)) && (!x_2)) (bP F x_3 [])).bind fun x_4=>some (((decide (x_1.Owner = r0.Me)) && (!x_2)) && (!x_4))
theorem j8 {F:Nat} {r0:Round} {k0:Int} {r:Bool} (h:cP F r0 k0 = some r):aC Try.prog [] 50 [] [.agg (aj r0),.one (.i k0)] (Is [] (.b (.one (.bool r)))):=by
 unfold cP at h
 refine aC.intro 33 Try.func50 Try.ntmps50 rfl (by simp) fun E=>?_
 show ab _ E ⟨33,[],[],[]⟩ _ ⟨[(0,.b (.agg (aj r0))),(1,I k0)],[]⟩ _
 refine ab.seq (ab.aa ?_)
 refine Oc (gK (k:=101) rfl rfl) (Oc oa ?_)
 refine ae.ak ⟨[(1,I k0),(2,Pt 101 0)],[(101,.box 31 (aj r0))]⟩ rfl (ab.seq (ab.aa ?_))
 refine Oc (ag dB rfl rfl) (Oc (av fG rfl rfl rfl) (Oc om ?_))
 obtain ⟨x_1,e1,h⟩:=aR h
 refine Oc (ar gu (aK e1) (aE (e:=an) e1) rfl rfl) (Oc (jH jy rfl rfl rfl) (Oc (dN (k:=102) oJ rfl) (Oc (bD jy rfl rfl rfl rfl (Nat.le_of_ble_eq_true rfl) rfl) ?_)))
 refine ae.ak ⟨[(1,_),(2,_),(5,Pt 102 0)],[(101,_),(102,.box 59 (an x_1))]⟩ rfl (ab.seq (ab.aa ?_))
 refine Oc (ag iF rfl rfl) (Oc (av aP rfl rfl rfl) (Oc (ag eV rfl rfl) (Oc (av aP rfl rfl rfl) (Oc (dT rfl rfl) (Oc om ?_)))))
 refine iV (decide (x_1.Owner = r0.Me)) [] (fun g2=>trivial) (fun g2=>ag iG rfl rfl) (ae.ah ⟨[(1,_),(2,_),(5,_),(16,B (decide (x_1.Owner = r0.Me))),(17,.opt (decide (x_1.Owner = r0.Me)) (.ptr 101 8))],[(101,_),(102,_)]⟩ rfl (iV (decide (x_1.Owner = r0.Me)) [17] (fun g3=>⟨g3,trivial⟩) (fun g3=>av fc rfl rfl rfl) (iV (decide (x_1.Owner = r0.Me)) [] (fun g4=>trivial) (fun g4=>om) ?_)))
 obtain ⟨x_2,e6,h⟩:=aR h
 refine iV (decide (x_1.Owner = r0.Me)) [18,19] (fun g5=>⟨g5,g5,trivial⟩) (fun g5=>ar iE (aK (gc e6 g5)) (aE (e:=eB) (gc e6 g5)) rfl rfl) (iV (decide (x_1.Owner = r0.Me)) [20] (fun g7=>⟨g7,trivial⟩) (fun g7=>aw mu rfl rfl) (iV (decide (x_1.Owner = r0.Me)) [21] (fun g8=>⟨g8,trivial⟩) (fun g8=>dv rfl) (Oc (bS (fun e=>e) rfl rfl rfl rfl) (Oc om ?_))))
 refine iV ((decide (x_1.Owner = r0.Me)) && (!x_2)) [] (fun g9=>trivial) (fun g9=>ag lj rfl rfl) (ae.ah ⟨[(5,_),(24,B ((decide (x_1.Owner = r0.Me)) && (!x_2))),(25,.opt ((decide (x_1.Owner = r0.Me)) && (!x_2)) (.ptr 101 6))],[(101,_),(102,_)]⟩ rfl (iV ((decide (x_1.Owner = r0.Me)) && (!x_2)) [25] (fun g10=>⟨g10,trivial⟩) (fun g10=>av dz rfl rfl rfl) (iV ((decide (x_1.Owner = r0.Me)) && (!x_2)) [] (fun g11=>trivial) (fun g11=>ag dW rfl rfl) (iV ((decide (x_1.Owner = r0.Me)) && (!x_2)) [27] (fun g12=>⟨g12,trivial⟩) (fun g12=>av bx rfl rfl rfl) ?_))))
 obtain ⟨x_3,e14,h⟩:=aR h
 refine iV ((decide (x_1.Owner = r0.Me)) && (!x_2)) [26,28] (fun g13=>⟨g13,g13,trivial⟩) (fun g13=>aH (iO 0 (gc e14 g13)).iB uy rfl rfl) (ae.ah ⟨[(24,_),(29,.opt ((decide (x_1.Owner = r0.Me)) && (!x_2)) (.one (.sl 1 (x_3.map eS))))],[]⟩ rfl ?_)
 obtain ⟨x_4,e16,h⟩:=aR h
 refine iV ((decide (x_1.Owner = r0.Me)) && (!x_2)) [29] (fun g15=>⟨g15,trivial⟩) (fun g15=>aH (fi (gc e16 g15)) uA rfl rfl) (iV ((decide (x_1.Owner = r0.Me)) && (!x_2)) [30] (fun g17=>⟨g17,trivial⟩) (fun g17=>dv rfl) (Oc (bS (fun e=>e) rfl rfl rfl rfl) (Oc oa ?_)))
 refine ae.ak ⟨[(4,B (((decide (x_1.Owner = r0.Me)) && (!x_2)) && (!x_4)))],[]⟩ rfl (ab.ret ?_)
 obtain rfl:=Option.some.inj h
 refine Fin.ah ⟨[(4,_)],[]⟩ rfl (Fin.bd [.one (.bool (((decide (x_1.Owner = r0.Me)) && (!x_2)) && (!x_4)))] (.inl rfl) rfl (.cons (.tmp rfl) .nil) ⟨rfl,rfl⟩)
def cY (F:Nat) (r0:Round):Option (List Int) :=
 Option.bind (iter F (eD fun out_2 x_3=>if (decide (x_3 < (r0.Tasks.length:Int))) = true then (Option.bind ((cP F r0 x_3).bind fun x_6=>if x_6 = true then ((dF out_2 [x_3]).bind fun x_7=>some x_7) else (some out_2)) (fun out_5=>some (.inl (out_5,IntKind.i64.wrap (x_3 + 1))))) else (some (.inr out_2))) ([],0)) (fun out_1=>some out_1)
theorem iS (kr0:Nat) {F:Nat} {r0:Round} {r:(List Int)} (h:cY F r0 = some r):aC Try.prog [] 20 [] [.agg (aj r0)] (Is [(kr0,.row 3 1 (r.map eI))] (.b (.row kr0))):=by
 unfold cY at h
 refine aC.intro 20 Try.func20 Try.ntmps20 rfl (by simp) fun E=>?_
 show ab _ E ⟨20,[],[],[]⟩ _ ⟨[(0,.b (.agg (aj r0)))],[]⟩ _
 refine ab.seq (ab.aa ?_)
 refine Oc (gK (k:=101) rfl rfl) (Oc oa ?_)
 refine ae.ak ⟨[(1,Pt 101 0)],[(101,.box 31 (aj r0))]⟩ rfl (ab.seq (ab.aa ?_))
 refine Oc oa (ae.ak ⟨[(1,_),(3,.b (.one (.nil)))],[(101,_)]⟩ rfl ?_)
 obtain ⟨v1,h2,h⟩:=aR h
 refine ab.cJ (v:=v1) (fun (out_1:List Int)=>⟨[(3,.b (.row 103))],[(103,.row 3 1 (out_1.map eI))]⟩) (fun z=>z) ?_ ?_
 ·refine ab.seq (ab.aa ?_)
  refine Oc (ag dB rfl rfl) (Oc (av fG rfl rfl rfl) (Oc (ay nE rfl (List.length_map _)) (Oc om ?_)))
  refine ae.ak ⟨[(1,_),(3,_),(7,I (r0.Tasks.length:Int)),(8,I 0)],[(101,_)]⟩ rfl (ab.block (ab.cT 3 103 1 3 rfl (by decide) rfl (ab.ct h2 (eD fun (out_2:List Int) (x_3:Int)=>⟨[(1,Pt 101 0),(3,.b (.row 103)),(7,I (r0.Tasks.length:Int)),(8,I x_3)],[(101,.box 31 (aj r0)),(103,.row 3 1 (out_2.map eI))]⟩) [1,3,7,8] [101,103] rfl ?_)))
  rintro ⟨out_2,x_3⟩ o3 h4 hy5
  refine ab.seq (ab.aa ?_)
  refine Oc (bm rfl rfl) (ae.ak ⟨[(1,_),(3,_),(7,_),(8,_),(9,B (decide (x_3 < (r0.Tasks.length:Int))))],[(101,_),(103,_)]⟩ rfl (ab.seq (ab.ite h4 rfl (fun _ h4=>?_) (fun _ h4=>?_))))
  ·refine ab.skip (Fin.ah ⟨[(1,_),(3,_),(7,_),(8,_)],[(101,_),(103,_)]⟩ rfl (Fin.then ?_))
   obtain ⟨v6,h7,h4⟩:=aR h4
   refine ab.cJ (v:=v6) (fun (out_5:List Int)=>⟨[(1,Pt 101 0),(3,.b (.row 103)),(7,I (r0.Tasks.length:Int)),(8,I x_3)],[(101,.box 31 (aj r0)),(103,.row 3 1 (out_5.map eI))]⟩) (fun z=>z) ?_ ?_
   ·refine ab.block (ab.seq (ab.aa ?_))
    refine Oc om (Oc oa ?_)
    refine ae.ak ⟨[(1,_),(3,_),(4,I x_3),(7,_),(8,_)],[(101,_),(103,_)]⟩ rfl (ab.seq (ab.aa ?_))
    refine Oc (lp aV) (Oc om ?_)
    obtain ⟨x_6,e8,h7⟩:=aR h7
    refine Oc (aH (j8 e8) xO rfl rfl) (ae.ak ⟨[(1,_),(3,_),(4,_),(7,_),(8,_),(13,B x_6)],[(101,_),(103,_)]⟩ rfl (ab.ite h7 rfl (fun _ h7=>?_) (fun _ h7=>?_)))
    ·refine ab.aa (Oc om (Oc om (Oc (aN (k:=104) (es:=[x_3].map eI) ba rfl rfl (bw fun _=>rfl) rfl (by decide) (by decide) rfl) ?_)))
     obtain ⟨x_7,e9,h7⟩:=aR h7
     refine Oc (dx ba (gn e9) (gm e9) rfl rfl rfl rfl (dt e9) rfl) (Oc oa ?_)
     refine ae.nil (Fin.ax ?_)
     exact Fin.join [1,3,7,8] [101,103] x_7 (Option.some.inj h7) rfl
    ·refine ab.skip (Fin.ax ?_)
     exact Fin.join [1,3,7,8] [101,103] out_2 (Option.some.inj h7) rfl
   ·rintro out_5 hv
    subst v6
    refine ab.aa (Oc (bq rfl rfl) (Oc om ?_))
    refine ae.nil ?_
    exact Fin.bK [1,3,7,8] [101,103] (out_5,IntKind.i64.wrap (x_3 + 1)) (Option.some.inj h4) rfl
  ·refine ab.exit (Fin.ao ?_)
   obtain rfl:=hy5 _ (Option.some.inj h4).symm
   refine Fin.ao (Fin.aI ?_)
   exact Fin.join [3] [103] out_2 rfl rfl
 ·rintro out_1 hv
  subst v1
  refine ab.seq (ab.aa ?_)
  refine Oc om (Oc oa ?_)
  refine ae.ak ⟨[(2,.b (.row 103))],[(103,_)]⟩ rfl (ab.ret ?_)
  obtain rfl:=Option.some.inj h
  refine Fin.ah ⟨[(2,_)],[(103,_)]⟩ rfl (Fin.dr 103 kr0 [.row 103] (.inl rfl) rfl (.cons (.tmp rfl) .nil) rfl rfl rfl rfl ⟨rfl,rfl⟩)
def dk (F:Nat) (s0:List Str):Option (List Str) :=
 (dF [] s0).bind fun x_2=>some x_2
theorem nz (kr0:Nat) {F:Nat} {s0:List Str} {r:(List Str)} (h:dk F s0 = some r):aC Try.prog [] 53 [] [.one (.sl 1 (s0.map eS))] (Is [(kr0,.row 9 1 (r.map eS))] (.b (.row kr0))):=by
 unfold dk at h
 refine aC.intro 8 Try.func53 Try.ntmps53 rfl (by simp) fun E=>?_
 show ab _ E ⟨8,[],[],[]⟩ _ ⟨[(0,.b (.one (.sl 1 (s0.map eS))))],[]⟩ _
 refine ab.seq (ab.aa ?_)
 refine Oc oa (ae.ak ⟨[(0,.b (.one (.sl 1 (s0.map eS))))],[]⟩ rfl (ab.seq (ab.seq (ab.aa ?_))))
 refine Oc om (ae.vT qp rfl (fun nb_1 hnb1=>?_))
 refine ae.ak ⟨[(0,_),(4,B nb_1)],[]⟩ rfl (ab.cond rfl (fun hc2=>?_) (fun _=>?_))
 ·
  obtain rfl:s0 = []:=by simpa using hnb1 hc2
  refine ab.seq (ab.aa ?_)
  refine Oc oa (ae.ak ⟨[(2,.b (.one (.nil)))],[]⟩ rfl (ab.ret (Fin.aq ?_)))
  obtain rfl:[] = r:=by first | (simp [dF] at h; exact h) | (simp [dF] at h; exact h.symm)
  refine Fin.ah ⟨[(2,_)],[]⟩ rfl (Fin.cT 2 101 1 9 rfl (by decide) rfl (Fin.dr 101 kr0 [.row 101] (.inl rfl) rfl (.cons (.tmp rfl) .nil) rfl rfl rfl rfl ⟨rfl,rfl⟩))
 ·refine ab.skip (Fin.ah ⟨[(0,_)],[]⟩ rfl (Fin.then (ab.seq (ab.aa ?_))))
  refine Oc (pE (k:=101) cS rfl) (Oc om ?_)
  obtain ⟨x_2,e3,h⟩:=aR h
  refine Oc (iJ cS (gn e3) (gm e3) rfl rfl rfl (dt e3) rfl) (Oc oa ?_)
  refine ae.ak ⟨[(2,.b (.row 101))],[(101,.row 9 1 (x_2.map eS))]⟩ rfl (ab.ret ?_)
  obtain rfl:=Option.some.inj h
  refine Fin.ah ⟨[(2,_)],[(101,_)]⟩ rfl (Fin.dr 101 kr0 [.row 101] (.inl rfl) rfl (.cons (.tmp rfl) .nil) rfl rfl rfl rfl ⟨rfl,rfl⟩)
def c8 (F:Nat) (r0:Round) (task0:Int) (states0:List Str):Option (Round × (List au) × Int) :=
 bR ((decide (task0 < 0)) || (decide ((r0.Tasks.length:Int) ≤ task0))) fun x_1=>if x_1 = true then (some ((⟨0,0,0,[],[],[],[],[],[],[]⟩:Round),[],5)) else ((aT r0.Tasks task0).bind fun x_2=>(aT r0.Done task0).bind fun x_3=>if x_3 = true then (some ((⟨0,0,0,[],[],[],[],[],[],[]⟩:Round),[],6)) else ((cP F r0 task0).bind fun x_4=>if (!x_4) = true then (some ((⟨0,0,0,[],[],[],[],[],[],[]⟩:Round),[],4)) else ((aM (!(decide ((states0.length:Int) ≠ (x_2.Bodies.length:Int)))) (bP F states0 [])).bind fun x_5=>bR ((decide ((states0.length:Int) ≠ (x_2.Bodies.length:Int))) || x_5) fun x_6=>if x_6 = true then (some ((⟨0,0,0,[],[],[],[],[],[],[]⟩:Round),[],1)) else ((c7 F r0.Done).bind fun x_7=>(dk F r0.Results).bind fun x_8=>(aT x_7 task0).bind fun x_9=>Option.bind (mk? ([]:Str) (r0.Home.length:Int) (r0.Home.length:Int)) (fun x_10=>(cX F x_10 x_2.Bodies states0).bind fun x_11=>Option.bind ((c9 F x_2.Bodies r0.Me (⟨r0.Me,r0.Regions,r0.Step,r0.Home,r0.Heard,r0.Sets,r0.States,r0.Tasks,x_7.set (task0:Int).toNat true,x_8⟩:Round) []).bind fun x_13=>iter F (eD fun nf9_14 x_15=>if (decide (x_15 < (x_13.length:Int))) = true then ((aT x_13 x_15).bind fun x_17=>(aT x_11 x_17).bind fun x_18=>(aT nf9_14 x_17).bind fun x_19=>some (.inl (nf9_14.set (x_17:Int).toNat x_18,IntKind.i64.wrap (x_15 + 1)))) else (some (.inr nf9_14))) (x_8,0)) (fun nf9_12=>Option.bind (iter F (vX fun nf8_23 nf9_24 out_25 x_26=>if (decide (x_26 < (x_2.Helpers.length:Int))) = true then ((aT x_2.Helpers x_26).bind fun x_30=>(cA F x_2.Bodies x_30 (⟨r0.Me,r0.Regions,r0.Step,r0.Home,r0.Heard,r0.Sets,r0.States,r0.Tasks,nf8_23,nf9_24⟩:Round) out_25).bind fun x_31=>(cV F x_11 x_31).bind fun x_32=>bR (⟨3,0,0,x_30,[],x_31,x_32⟩:au) fun x_33=>(b7 F x_33 (⟨r0.Me,r0.Regions,r0.Step,r0.Home,r0.Heard,r0.Sets,r0.States,r0.Tasks,nf8_23,nf9_24⟩:Round) out_25).bind fun x_34=>some (.inl (nf8_23,nf9_24,x_34,IntKind.i64.wrap (x_26 + 1)))) else (some (.inr (nf8_23,nf9_24,out_25)))) (x_7.set (task0:Int).toNat true,nf9_12,[],0)) (ml fun nf8_20 nf9_21 out_22=>some ((⟨r0.Me,r0.Regions,r0.Step,r0.Home,r0.Heard,r0.Sets,r0.States,r0.Tasks,nf8_20,nf9_21⟩:Round),out_22,0))))))))
theorem iy (kr0:Nat) {F:Nat} {r0:Round} {task0:Int} {states0:List Str} {r:Round × (List au) × Int} (h:c8 F r0 task0 states0 = some r):aC Try.prog [] 15 [] [.agg (aj r0),.one (.i task0),.one (.sl 1 (states0.map eS))] (Is [(kr0,.row 42 7 (r.2.1.map af))] (.fa [.agg (aj r.1),.row kr0,.one (.i r.2.2)])):=by
 unfold c8 at h
 refine aC.intro 141 Try.func15 Try.ntmps15 rfl (by simp) fun E=>?_
 show ab _ E ⟨141,[],[],[]⟩ _ ⟨[(0,.b (.agg (aj r0))),(1,I task0),(2,.b (.one (.sl 1 (states0.map eS))))],[]⟩ _
 refine ab.seq (ab.aa ?_)
 refine Oc (gK (k:=101) rfl rfl) (Oc (dN (k:=102) ji rfl) (Oc oa (Oc oa ?_)))
 refine ae.ak ⟨[(1,I task0),(2,.b (.one (.sl 1 (states0.map eS)))),(3,Pt 101 0),(6,Pt 102 0)],[(101,.box 31 (aj r0)),(102,.box 31 [.i 0,.i 0,.i 0,.nil,.nil,.nil,.nil,.nil,.nil,.nil])]⟩ rfl (ab.seq (ab.seq (ab.aa ?_)))
 refine Oc om (Oc (bm rfl rfl) (Oc om ?_))
 refine cr (!(decide (task0 < 0))) [] (fun g1=>trivial) (fun g1=>om) (cr (!(decide (task0 < 0))) [] (fun g2=>by exact trivial) (fun g2=>ag dB rfl rfl) (cr (!(decide (task0 < 0))) [21] (fun g3=>by exact ⟨g3,trivial⟩) (fun g3=>av fG rfl rfl rfl) (ae.ah ⟨[(1,_),(2,_),(3,_),(6,_),(19,B (decide (task0 < 0))),(20,.opt (!(decide (task0 < 0))) (.one (.i task0))),(22,.opt (!(decide (task0 < 0))) (.one (.sl 3 (r0.Tasks.map an))))],[(101,_),(102,_)]⟩ rfl (cr (!(decide (task0 < 0))) [22] (fun g4=>by exact ⟨g4,trivial⟩) (fun g4=>ay nE rfl (List.length_map _)) (cr (!(decide (task0 < 0))) [20,23] (fun g5=>by exact ⟨g5,g5,trivial⟩) (fun g5=>fN rfl rfl) ?_)))))
 refine ae.iC h rfl (aL (fun e=>by first | (rw [e]; rfl) | (simp only at e; rw [e]; rfl)) rfl rfl rfl rfl) (fun x_1 h=>?_)
 refine ae.ak ⟨[(1,_),(2,_),(3,_),(6,_),(25,B x_1)],[(101,_),(102,_)]⟩ rfl (ab.ite h rfl (fun _ h=>?_) (fun _ h=>?_))
 ·refine ab.seq (ab.aa ?_)
  refine Oc (bp.qd (.same (.same (.same (.sl (size:=1) (by decide) (.sl (size:=1) (by decide) (.sl (size:=1) (by decide) (.sl (size:=1) (by decide) (.sl (size:=3) (by decide) (.same (.same (.nil))))))))))) (dM iI rfl rfl)) (Oc (bD aV rfl rfl rfl rfl (Nat.le_of_ble_eq_true rfl) rfl) (Oc oa (Oc oa ?_)))
  refine ae.ak ⟨[(6,_),(7,.b (.one (.nil))),(8,I 5)],[(102,.box 31 [.i 0,.i 0,.i 0,.sl 1 ([].map eI),.sl 1 ([].map eB),.sl 1 ([].map (eL 1 eI)),.sl 1 ([].map eS),.sl 3 ([].map an),.nil,.nil])]⟩ rfl (ab.ret (Fin.aq ?_))
  obtain rfl:=Option.some.inj h
  refine Fin.ah ⟨[(6,_),(7,_),(8,_)],[(102,_)]⟩ rfl (Fin.fE 102 8 1 rfl rfl (by decide) (Fin.fE 102 9 1 rfl rfl (by decide) (Fin.cT 7 103 7 42 rfl (by decide) rfl (Fin.dr 103 kr0 [.agg [.i 0,.i 0,.i 0,.sl 1 ([].map eI),.sl 1 ([].map eB),.sl 1 ([].map (eL 1 eI)),.sl 1 ([].map eS),.sl 3 ([].map an),.sl 1 ([].map eB),.sl 1 ([].map eS)],.row 103,.one (.i 5)] (.inl rfl) rfl (.cons (.agg aV rfl rfl rfl rfl) (.cons (.tmp rfl) (.cons (.tmp rfl) .nil))) rfl rfl rfl rfl ⟨rfl,rfl⟩))))
 ·refine ab.skip (Fin.ah ⟨[(1,_),(2,_),(3,_),(6,_)],[(101,_),(102,_)]⟩ rfl (Fin.then (ab.seq (ab.aa ?_))))
  refine Oc (ag dB rfl rfl) (Oc (av fG rfl rfl rfl) (Oc om ?_))
  obtain ⟨x_2,e6,h⟩:=aR h
  refine Oc (ar gu (aK e6) (aE (e:=an) e6) rfl rfl) (Oc (jH jy rfl rfl rfl) (Oc (dN (k:=104) oJ rfl) (Oc (bD jy rfl rfl rfl rfl (Nat.le_of_ble_eq_true rfl) rfl) ?_)))
  refine ae.ak ⟨[(1,_),(2,_),(3,_),(6,_),(9,Pt 104 0)],[(101,_),(102,_),(104,.box 59 (an x_2))]⟩ rfl (ab.seq (ab.block (ab.seq (ab.aa ?_))))
  refine Oc (ag iG rfl rfl) (Oc (av fc rfl rfl rfl) (Oc om ?_))
  obtain ⟨x_3,e7,h⟩:=aR h
  refine Oc (ar iE (aK e7) (aE (e:=eB) e7) rfl rfl) (Oc (aw mu rfl rfl) (Oc oa ?_))
  refine ae.ak ⟨[(1,_),(2,_),(3,_),(6,_),(9,_),(32,B x_3)],[(101,_),(102,_),(104,_)]⟩ rfl (ab.ite h rfl (fun _ h=>?_) (fun _ h=>?_))
  ·refine ab.seq (ab.aa ?_)
   refine Oc (bp.qd (.same (.same (.same (.sl (size:=1) (by decide) (.sl (size:=1) (by decide) (.sl (size:=1) (by decide) (.sl (size:=1) (by decide) (.sl (size:=3) (by decide) (.same (.same (.nil))))))))))) (dM iI rfl rfl)) (Oc (bD aV rfl rfl rfl rfl (Nat.le_of_ble_eq_true rfl) rfl) (Oc oa (Oc oa ?_)))
   refine ae.ak ⟨[(6,_),(7,.b (.one (.nil))),(8,I 6)],[(102,.box 31 [.i 0,.i 0,.i 0,.sl 1 ([].map eI),.sl 1 ([].map eB),.sl 1 ([].map (eL 1 eI)),.sl 1 ([].map eS),.sl 3 ([].map an),.nil,.nil])]⟩ rfl (ab.ret (Fin.aD (Fin.aq ?_)))
   obtain rfl:=Option.some.inj h
   refine Fin.ah ⟨[(6,_),(7,_),(8,_)],[(102,_)]⟩ rfl (Fin.fE 102 8 1 rfl rfl (by decide) (Fin.fE 102 9 1 rfl rfl (by decide) (Fin.cT 7 105 7 42 rfl (by decide) rfl (Fin.dr 105 kr0 [.agg [.i 0,.i 0,.i 0,.sl 1 ([].map eI),.sl 1 ([].map eB),.sl 1 ([].map (eL 1 eI)),.sl 1 ([].map eS),.sl 3 ([].map an),.sl 1 ([].map eB),.sl 1 ([].map eS)],.row 105,.one (.i 6)] (.inl rfl) rfl (.cons (.agg aV rfl rfl rfl rfl) (.cons (.tmp rfl) (.cons (.tmp rfl) .nil))) rfl rfl rfl rfl ⟨rfl,rfl⟩))))
  ·refine ab.seq (ab.aa ?_)
   refine Oc (lp aV) (Oc om ?_)
   obtain ⟨x_4,e8,h⟩:=aR h
   refine Oc (aH (j8 e8) xO rfl rfl) (Oc (dv rfl) (Oc oa ?_))
   refine ae.ak ⟨[(1,_),(2,_),(3,_),(6,_),(9,_),(39,B (!x_4))],[(101,_),(102,_),(104,_)]⟩ rfl (ab.ite h rfl (fun _ h=>?_) (fun _ h=>?_))
   ·refine ab.seq (ab.aa ?_)
    refine Oc (bp.qd (.same (.same (.same (.sl (size:=1) (by decide) (.sl (size:=1) (by decide) (.sl (size:=1) (by decide) (.sl (size:=1) (by decide) (.sl (size:=3) (by decide) (.same (.same (.nil))))))))))) (dM iI rfl rfl)) (Oc (bD aV rfl rfl rfl rfl (Nat.le_of_ble_eq_true rfl) rfl) (Oc oa (Oc oa ?_)))
    refine ae.ak ⟨[(6,_),(7,.b (.one (.nil))),(8,I 4)],[(102,.box 31 [.i 0,.i 0,.i 0,.sl 1 ([].map eI),.sl 1 ([].map eB),.sl 1 ([].map (eL 1 eI)),.sl 1 ([].map eS),.sl 3 ([].map an),.nil,.nil])]⟩ rfl (ab.ret (Fin.aD (Fin.aq ?_)))
    obtain rfl:=Option.some.inj h
    refine Fin.ah ⟨[(6,_),(7,_),(8,_)],[(102,_)]⟩ rfl (Fin.fE 102 8 1 rfl rfl (by decide) (Fin.fE 102 9 1 rfl rfl (by decide) (Fin.cT 7 106 7 42 rfl (by decide) rfl (Fin.dr 106 kr0 [.agg [.i 0,.i 0,.i 0,.sl 1 ([].map eI),.sl 1 ([].map eB),.sl 1 ([].map (eL 1 eI)),.sl 1 ([].map eS),.sl 3 ([].map an),.sl 1 ([].map eB),.sl 1 ([].map eS)],.row 106,.one (.i 4)] (.inl rfl) rfl (.cons (.agg aV rfl rfl rfl rfl) (.cons (.tmp rfl) (.cons (.tmp rfl) .nil))) rfl rfl rfl rfl ⟨rfl,rfl⟩))))
   ·refine ab.seq (ab.aa ?_)
    refine Oc om (Oc (ay qp rfl (List.length_map _)) (Oc (ag dW rfl rfl) (Oc (av bx rfl rfl rfl) (Oc (ay cc rfl (List.length_map _)) ?_))))
    refine ae.ah ⟨[(1,_),(2,_),(3,_),(6,_),(9,_),(47,I (states0.length:Int)),(50,I (x_2.Bodies.length:Int))],[(101,_),(102,_),(104,_)]⟩ rfl (Oc (dg rfl rfl) (Oc om ?_))
    refine cr (!(decide ((states0.length:Int) ≠ (x_2.Bodies.length:Int)))) [] (fun g9=>trivial) (fun g9=>om) ?_
    obtain ⟨x_5,e11,h⟩:=aR h
    refine cr (!(decide ((states0.length:Int) ≠ (x_2.Bodies.length:Int)))) [53] (fun g10=>⟨g10,trivial⟩) (fun g10=>aH (fi (gc e11 g10)) uA rfl rfl) (ae.iC h rfl (aL (fun e=>by first | (rw [e]; rfl) | (simp only at e; rw [e]; rfl)) rfl rfl rfl rfl) (fun x_6 h=>?_))
    refine Oc oa (ae.ak ⟨[(1,_),(2,_),(3,_),(6,_),(9,_),(45,B x_6)],[(101,_),(102,_),(104,_)]⟩ rfl (ab.ite h rfl (fun _ h=>?_) (fun _ h=>?_)))
    ·refine ab.seq (ab.aa ?_)
     refine Oc (bp.qd (.same (.same (.same (.sl (size:=1) (by decide) (.sl (size:=1) (by decide) (.sl (size:=1) (by decide) (.sl (size:=1) (by decide) (.sl (size:=3) (by decide) (.same (.same (.nil))))))))))) (dM iI rfl rfl)) (Oc (bD aV rfl rfl rfl rfl (Nat.le_of_ble_eq_true rfl) rfl) (Oc oa (Oc oa ?_)))
     refine ae.ak ⟨[(6,_),(7,.b (.one (.nil))),(8,I 1)],[(102,.box 31 [.i 0,.i 0,.i 0,.sl 1 ([].map eI),.sl 1 ([].map eB),.sl 1 ([].map (eL 1 eI)),.sl 1 ([].map eS),.sl 3 ([].map an),.nil,.nil])]⟩ rfl (ab.ret (Fin.aD (Fin.aq ?_)))
     obtain rfl:=Option.some.inj h
     refine Fin.ah ⟨[(6,_),(7,_),(8,_)],[(102,_)]⟩ rfl (Fin.fE 102 8 1 rfl rfl (by decide) (Fin.fE 102 9 1 rfl rfl (by decide) (Fin.cT 7 107 7 42 rfl (by decide) rfl (Fin.dr 107 kr0 [.agg [.i 0,.i 0,.i 0,.sl 1 ([].map eI),.sl 1 ([].map eB),.sl 1 ([].map (eL 1 eI)),.sl 1 ([].map eS),.sl 3 ([].map an),.sl 1 ([].map eB),.sl 1 ([].map eS)],.row 107,.one (.i 1)] (.inl rfl) rfl (.cons (.agg aV rfl rfl rfl rfl) (.cons (.tmp rfl) (.cons (.tmp rfl) .nil))) rfl rfl rfl rfl ⟨rfl,rfl⟩))))
    ·refine ab.skip (Fin.ax (Fin.ah ⟨[(1,_),(2,_),(3,_),(6,_),(9,_)],[(101,_),(102,_),(104,_)]⟩ rfl (Fin.then (ab.seq (ab.aa ?_)))))
     refine Oc (lp aV) (Oc (dM pv rfl rfl) (Oc (gK (k:=108) rfl rfl) (Oc oa ?_)))
     refine ae.ak ⟨[(1,_),(2,_),(3,_),(6,_),(9,_),(10,Pt 108 0)],[(101,_),(102,_),(104,_),(108,.box 95 (aj r0 ++ ([.nil])))]⟩ rfl (ab.seq ?_)
     obtain ⟨x_7,e12,h⟩:=aR h
     obtain ⟨x_8,e13,h⟩:=aR h
     refine ab.ff mixed [false,false,false,false,true,false,false,true,false,false,false,true,false,false,false,true] [Pt 108 0,Pt 108 0,Pt 101 8,.b (.one (.sl 1 (r0.Done.map eB))),.b (.row 109),Pt 101 9,.b (.one (.sl 1 (r0.Results.map eS))),.b (.row 110),Pt 108 0,Pt 108 0,Pt 108 8,B true,Pt 108 0,Pt 108 0,Pt 108 9,B true] [⟨[false,false,false,false,false,false,false,false,false,false,false,false,false,false,false,false],[(1,I task0),(2,.b (.one (.sl 1 (states0.map eS)))),(3,Pt 101 0),(6,Pt 102 0),(9,Pt 104 0),(10,Pt 108 0)],[(101,.box 31 (aj r0)),(102,.box 31 [.i 0,.i 0,.i 0,.nil,.nil,.nil,.nil,.nil,.nil,.nil]),(104,.box 59 (an x_2)),(108,.box 95 (aj r0 ++ ([.nil])))],[true,true,true,true,true,true,true,true,true,true,true,true,true,true,true,true],[],[7,8,9,10,11,12,13,14,15]⟩,⟨[false,false,false,false,true,false,false,false,false,false,false,false,false,false,false,false],[(1,I task0),(2,.b (.one (.sl 1 (states0.map eS)))),(3,Pt 101 0),(6,Pt 102 0),(9,Pt 104 0),(10,Pt 108 0)],[(101,.box 31 (aj r0)),(102,.box 31 [.i 0,.i 0,.i 0,.nil,.nil,.nil,.nil,.nil,.nil,.nil]),(104,.box 59 (an x_2)),(108,.box 95 (aj r0 ++ ([.nil]))),(109,.row 4 1 (x_7.map eB))],[true,true,true,true,true,true,true,true,true,true,true,true,true,true,true,true],[2,3,4],[8,9,10,11,12,13,14,15]⟩,⟨[false,false,false,false,true,false,false,true,false,false,false,false,false,false,false,false],[(1,I task0),(2,.b (.one (.sl 1 (states0.map eS)))),(3,Pt 101 0),(6,Pt 102 0),(9,Pt 104 0),(10,Pt 108 0)],[(101,.box 31 (aj r0)),(102,.box 31 [.i 0,.i 0,.i 0,.nil,.nil,.nil,.nil,.nil,.nil,.nil]),(104,.box 59 (an x_2)),(108,.box 95 (aj r0 ++ ([.nil]))),(109,.row 4 1 (x_7.map eB)),(110,.row 9 1 (x_8.map eS))],[true,true,true,true,true,true,true,true,true,true,true,true,true,true,true,true],[2,3,4,5,6,7],[12,13,14,15]⟩,⟨[false,false,false,false,true,false,false,true,false,false,false,true,false,false,false,false],[(1,I task0),(2,.b (.one (.sl 1 (states0.map eS)))),(3,Pt 101 0),(6,Pt 102 0),(9,Pt 104 0),(10,Pt 108 0)],[(101,.box 31 (aj r0)),(102,.box 31 [.i 0,.i 0,.i 0,.nil,.nil,.nil,.nil,.nil,.nil,.nil]),(104,.box 59 (an x_2)),(108,.aO 95 [.one (.i r0.Me),.one (.i r0.Regions),.one (.i r0.Step),.one (.sl 1 (r0.Home.map eI)),.one (.sl 1 (r0.Heard.map eB)),.one (.sl 1 (r0.Sets.map (eL 1 eI))),.one (.sl 1 (r0.States.map eS)),.one (.sl 3 (r0.Tasks.map an)),.row 109,.one (.sl 1 (r0.Results.map eS)),.one (.nil)]),(109,.row 4 1 (x_7.map eB)),(110,.row 9 1 (x_8.map eS))],[true,true,true,true,true,true,true,true,true,true,true,true,true,true,true,true],[0,2,3,4,5,6,7,8,9,10,11],[]⟩,⟨[false,false,false,false,true,false,false,true,false,false,false,true,false,false,false,true],[(1,I task0),(2,.b (.one (.sl 1 (states0.map eS)))),(3,Pt 101 0),(6,Pt 102 0),(9,Pt 104 0),(10,Pt 108 0)],[(101,.box 31 (aj r0)),(102,.box 31 [.i 0,.i 0,.i 0,.nil,.nil,.nil,.nil,.nil,.nil,.nil]),(104,.box 59 (an x_2)),(108,.aO 95 [.one (.i r0.Me),.one (.i r0.Regions),.one (.i r0.Step),.one (.sl 1 (r0.Home.map eI)),.one (.sl 1 (r0.Heard.map eB)),.one (.sl 1 (r0.Sets.map (eL 1 eI))),.one (.sl 1 (r0.States.map eS)),.one (.sl 3 (r0.Tasks.map an)),.row 109,.row 110,.one (.nil)]),(109,.row 4 1 (x_7.map eB)),(110,.row 9 1 (x_8.map eS))],[true,true,true,true,true,true,true,true,true,true,true,true,true,true,true,true],[0,1,2,3,4,5,6,7,8,9,10,11,12,13,14,15],[]⟩] rfl (⟨by kernel_rfl,⟨⟨Pt 108 0,fun _=>rfl,fun _=>.p (by exact az rfl)⟩,⟨Pt 108 0,fun _=>rfl,fun _=>.p (by exact az rfl)⟩,⟨Pt 101 8,fun _=>rfl,fun _=>.p (by exact ag iG rfl rfl)⟩,⟨.b (.one (.sl 1 (r0.Done.map eB))),fun _=>rfl,fun _=>.p (by exact av fc rfl rfl rfl)⟩,⟨_,[109],.b (.row 109),rfl,fun _=>rfl,rfl,rfl,fun _=>.mc [101,102,104,108,109] (by exact .p (by exact bJ (kL 109 e12) xN rfl trivial rfl rfl)) (by exact rfl)⟩,⟨Pt 101 9,fun _=>rfl,fun _=>.p (by exact ag fy rfl rfl)⟩,⟨.b (.one (.sl 1 (r0.Results.map eS))),fun _=>rfl,fun _=>.p (by exact av dz rfl rfl rfl)⟩,trivial,trivial,trivial,trivial,trivial,trivial,trivial,trivial,trivial,trivial⟩,⟨by kernel_rfl,⟨⟨Pt 108 0,fun _=>rfl,fun _=>.p (by exact az rfl)⟩,⟨Pt 108 0,fun _=>rfl,fun _=>.p (by exact az rfl)⟩,trivial,trivial,trivial,⟨Pt 101 9,fun _=>rfl,fun _=>.p (by exact ag fy rfl rfl)⟩,⟨.b (.one (.sl 1 (r0.Results.map eS))),fun _=>rfl,fun _=>.p (by exact av dz rfl rfl rfl)⟩,⟨_,[110],.b (.row 110),rfl,fun _=>rfl,rfl,rfl,fun _=>.mc [101,102,104,108,109,110] (by exact .p (by exact bJ (nz 110 e13) goes53 rfl trivial rfl rfl)) (by exact rfl)⟩,trivial,trivial,trivial,trivial,trivial,trivial,trivial,trivial,trivial⟩,⟨by kernel_rfl,⟨⟨Pt 108 0,fun _=>rfl,fun _=>.p (by exact az rfl)⟩,⟨Pt 108 0,fun _=>rfl,fun _=>.p (by exact az rfl)⟩,trivial,trivial,trivial,trivial,trivial,trivial,⟨Pt 108 0,fun _=>rfl,fun _=>.p (by exact aA rfl)⟩,⟨Pt 108 0,fun _=>rfl,fun _=>.p (by exact ag aY rfl rfl)⟩,⟨Pt 108 8,fun _=>rfl,fun _=>.p (by exact ag iG rfl rfl)⟩,⟨_,[],.b (.one .any),rfl,(fun e=>by simp at e),rfl,rfl,fun _=>.mc [101,102,104,108,109,110] (by exact .vo 108 rfl (.plain rfl (ed fc rfl rfl rfl rfl (Nat.le_of_ble_eq_true rfl) rfl))) (by exact rfl)⟩,trivial,trivial,trivial,trivial,trivial⟩,⟨by kernel_rfl,⟨trivial,⟨Pt 108 0,fun _=>rfl,fun _=>.p (by exact az rfl)⟩,trivial,trivial,trivial,trivial,trivial,trivial,trivial,trivial,trivial,trivial,⟨Pt 108 0,fun _=>rfl,fun _=>.p (by exact aA rfl)⟩,⟨Pt 108 0,fun _=>rfl,fun _=>.p (by exact ag aY rfl rfl)⟩,⟨Pt 108 9,fun _=>rfl,fun _=>.p (by exact ag fy rfl rfl)⟩,⟨_,[],.b (.one .any),rfl,(fun e=>by simp at e),rfl,rfl,fun _=>.mc [101,102,104,108,109,110] (by exact .p (by exact ed dz rfl rfl rfl rfl (Nat.le_of_ble_eq_true rfl) rfl)) (by exact rfl)⟩,trivial⟩,⟨by kernel_rfl,⟨trivial,trivial,trivial,trivial,trivial,trivial,trivial,trivial,trivial,trivial,trivial,trivial,trivial,trivial,trivial,trivial,trivial⟩,trivial⟩⟩⟩⟩⟩) rfl rfl rfl [1,2,3,6,9,10] [101,102,104,108,109,110] (s':=⟨[(1,I task0),(2,.b (.one (.sl 1 (states0.map eS)))),(3,Pt 101 0),(6,Pt 102 0),(9,Pt 104 0),(10,Pt 108 0)],[(101,.box 31 (aj r0)),(102,.box 31 [.i 0,.i 0,.i 0,.nil,.nil,.nil,.nil,.nil,.nil,.nil]),(104,.box 59 (an x_2)),(108,.aO 95 [.one (.i r0.Me),.one (.i r0.Regions),.one (.i r0.Step),.one (.sl 1 (r0.Home.map eI)),.one (.sl 1 (r0.Heard.map eB)),.one (.sl 1 (r0.Sets.map (eL 1 eI))),.one (.sl 1 (r0.States.map eS)),.one (.sl 3 (r0.Tasks.map an)),.row 109,.row 110,.one (.nil)]),(109,.row 4 1 (x_7.map eB)),(110,.row 9 1 (x_8.map eS))]⟩) rfl ?_
     refine ab.seq (ab.aa ?_)
     refine Oc om (Oc (aA rfl) (Oc (ag aY rfl rfl) (Oc (ag iG rfl rfl) (Oc (aS fc rfl rfl rfl) (Oc om ?_)))))
     obtain ⟨x_9,e14,h⟩:=aR h
     refine Oc (bc iE (aK e14) (cx e14) rfl rfl rfl rfl) (Oc (hU (i:=(task0:Int).toNat) mu rfl rfl rfl rfl (ow e14) (map_set _ _ _ _)) ?_)
     refine ae.ak ⟨[(2,_),(3,_),(6,_),(9,_),(10,_)],[(101,_),(102,_),(104,_),(108,_),(109,.row 4 1 ((x_7.set (task0:Int).toNat true).map eB)),(110,_)]⟩ rfl (ab.seq ?_)
     obtain ⟨x_10,e15,h⟩:=aR h
     obtain ⟨x_11,e16,h⟩:=aR h
     refine ab.ff mixed [false,false,false,true,false,false,false,false,false] [Pt 101 3,.b (.one (.sl 1 (r0.Home.map eI))),I (r0.Home.length:Int),.b (.one (.sl 1 (x_10.map eS))),Pt 104 1,.b (.one (.sl 1 (x_2.Bodies.map eI))),.b (.one (.sl 1 (states0.map eS))),.b (.one (.sl 1 (x_11.map eS))),.b (.one (.sl 1 (x_11.map eS)))] [⟨[false,false,false,false,false,false,false,false,false],[(2,.b (.one (.sl 1 (states0.map eS)))),(3,Pt 101 0),(6,Pt 102 0),(9,Pt 104 0),(10,Pt 108 0)],[(101,.box 31 (aj r0)),(102,.box 31 [.i 0,.i 0,.i 0,.nil,.nil,.nil,.nil,.nil,.nil,.nil]),(104,.box 59 (an x_2)),(108,.aO 95 [.one (.i r0.Me),.one (.i r0.Regions),.one (.i r0.Step),.one (.sl 1 (r0.Home.map eI)),.one (.sl 1 (r0.Heard.map eB)),.one (.sl 1 (r0.Sets.map (eL 1 eI))),.one (.sl 1 (r0.States.map eS)),.one (.sl 3 (r0.Tasks.map an)),.row 109,.row 110,.one (.nil)]),(109,.row 4 1 ((x_7.set (task0:Int).toNat true).map eB)),(110,.row 9 1 (x_8.map eS))],[true,true,true,true,true,true,true,true,true],[],[7,8]⟩,⟨[false,false,false,true,false,false,false,false,false],[(2,.b (.one (.sl 1 (states0.map eS)))),(3,Pt 101 0),(6,Pt 102 0),(9,Pt 104 0),(10,Pt 108 0)],[(101,.box 31 (aj r0)),(102,.box 31 [.i 0,.i 0,.i 0,.nil,.nil,.nil,.nil,.nil,.nil,.nil]),(104,.box 59 (an x_2)),(108,.aO 95 [.one (.i r0.Me),.one (.i r0.Regions),.one (.i r0.Step),.one (.sl 1 (r0.Home.map eI)),.one (.sl 1 (r0.Heard.map eB)),.one (.sl 1 (r0.Sets.map (eL 1 eI))),.one (.sl 1 (r0.States.map eS)),.one (.sl 3 (r0.Tasks.map an)),.row 109,.row 110,.one (.nil)]),(109,.row 4 1 ((x_7.set (task0:Int).toNat true).map eB)),(110,.row 9 1 (x_8.map eS))],[true,true,true,true,true,true,true,true,true],[0,1,2,3],[]⟩] rfl (⟨by kernel_rfl,⟨⟨Pt 101 3,fun _=>rfl,fun _=>.p (by exact ag iH rfl rfl)⟩,⟨.b (.one (.sl 1 (r0.Home.map eI))),fun _=>rfl,fun _=>.p (by exact av bx rfl rfl rfl)⟩,⟨I (r0.Home.length:Int),fun _=>rfl,fun _=>.p (by exact ay cc rfl (List.length_map _))⟩,⟨_,[111],.b (.one (.sl 1 (x_10.map eS))),rfl,fun _=>rfl,rfl,rfl,fun _=>.mc [101,102,104,108,109,110] (by exact .p (by exact bp.persD 111 (ee (k:=111) (enc:=eS) cS e15 (by decide) (.cons .refl .nil) rfl rfl rfl) rfl)) (by exact rfl)⟩,⟨Pt 104 1,fun _=>rfl,fun _=>.p (by exact ag dW rfl rfl)⟩,⟨.b (.one (.sl 1 (x_2.Bodies.map eI))),fun _=>rfl,fun _=>.p (by exact av bx rfl rfl rfl)⟩,⟨.b (.one (.sl 1 (states0.map eS))),fun _=>rfl,fun _=>.p (by exact az rfl)⟩,trivial,trivial,trivial⟩,⟨by kernel_rfl,⟨trivial,trivial,trivial,trivial,⟨Pt 104 1,fun _=>rfl,fun _=>.p (by exact ag dW rfl rfl)⟩,⟨.b (.one (.sl 1 (x_2.Bodies.map eI))),fun _=>rfl,fun _=>.p (by exact av bx rfl rfl rfl)⟩,⟨.b (.one (.sl 1 (states0.map eS))),fun _=>rfl,fun _=>.p (by exact az rfl)⟩,⟨.b (.one (.sl 1 (x_11.map eS))),fun _=>rfl,fun _=>.p (by exact aH (iQ 0 e16).iB uz rfl rfl)⟩,⟨.b (.one (.sl 1 (x_11.map eS))),fun _=>rfl,fun _=>.p (by exact cH rfl)⟩,trivial⟩,trivial⟩⟩) rfl rfl rfl [3,6,9,10,11] [101,102,104,108,109,110] (s':=⟨[(3,_),(6,_),(9,_),(10,_),(11,.b (.one (.sl 1 (x_11.map eS))))],[(101,_),(102,_),(104,_),(108,_),(109,_),(110,_)]⟩) rfl ?_
     obtain ⟨v17,h18,h⟩:=aR h
     refine ab.cJ (v:=v17) (fun (nf9_12:List Str)=>⟨[(6,Pt 102 0),(9,Pt 104 0),(10,Pt 108 0),(11,.b (.one (.sl 1 (x_11.map eS))))],[(102,.box 31 [.i 0,.i 0,.i 0,.nil,.nil,.nil,.nil,.nil,.nil,.nil]),(104,.box 59 (an x_2)),(108,.aO 95 [.one (.i r0.Me),.one (.i r0.Regions),.one (.i r0.Step),.one (.sl 1 (r0.Home.map eI)),.one (.sl 1 (r0.Heard.map eB)),.one (.sl 1 (r0.Sets.map (eL 1 eI))),.one (.sl 1 (r0.States.map eS)),.one (.sl 3 (r0.Tasks.map an)),.row 109,.row 110,.row 113]),(109,.row 4 1 ((x_7.set (task0:Int).toNat true).map eB)),(110,.row 9 1 (nf9_12.map eS)),(113,.row 42 7 ([].map af))]⟩) (fun z=>z) ?_ ?_
     ·refine ab.seq (ab.aa ?_)
      refine Oc om (Oc (ag dW rfl rfl) (Oc (av bx rfl rfl rfl) (Oc (ag eV rfl rfl) (Oc (av aP rfl rfl rfl) ?_))))
      refine ae.gG 108 10 113 7 42 rfl rfl (by decide) (by decide) rfl (ae.ah ⟨[(6,Pt 102 0),(9,Pt 104 0),(10,Pt 108 0),(11,.b (.one (.sl 1 (x_11.map eS)))),(89,Pt 108 0),(91,.b (.one (.sl 1 (x_2.Bodies.map eI)))),(93,I r0.Me)],[(102,.box 31 [.i 0,.i 0,.i 0,.nil,.nil,.nil,.nil,.nil,.nil,.nil]),(104,.box 59 (an x_2)),(108,.aO 95 [.one (.i r0.Me),.one (.i r0.Regions),.one (.i r0.Step),.one (.sl 1 (r0.Home.map eI)),.one (.sl 1 (r0.Heard.map eB)),.one (.sl 1 (r0.Sets.map (eL 1 eI))),.one (.sl 1 (r0.States.map eS)),.one (.sl 3 (r0.Tasks.map an)),.row 109,.row 110,.row 113]),(109,.row 4 1 ((x_7.set (task0:Int).toNat true).map eB)),(110,.row 9 1 (x_8.map eS)),(113,.row 42 7 ([].map af))]⟩ rfl ?_)
      obtain ⟨x_13,e19,h18⟩:=aR h18
      refine Oc (bJ (own_a:=[(108,_),(113,_),(109,_),(110,_)]) (show aC Try.prog [] 55 [(108,.aO 95 [.one (.i r0.Me),.one (.i r0.Regions),.one (.i r0.Step),.one (.sl 1 (r0.Home.map eI)),.one (.sl 1 (r0.Heard.map eB)),.one (.sl 1 (r0.Sets.map (eL 1 eI))),.one (.sl 1 (r0.States.map eS)),.one (.sl 3 (r0.Tasks.map an)),.row 109,.row 110,.row 113]),(113,.row 42 7 ([].map af)),(109,.row 4 1 ((x_7.set (task0:Int).toNat true).map eB)),(110,.row 9 1 (x_8.map eS))] [.ptr 108 0,.one (.sl 1 (x_2.Bodies.map eI)),.one (.i r0.Me)] (Is [(108,.aO 95 [.one (.i r0.Me),.one (.i r0.Regions),.one (.i r0.Step),.one (.sl 1 (r0.Home.map eI)),.one (.sl 1 (r0.Heard.map eB)),.one (.sl 1 (r0.Sets.map (eL 1 eI))),.one (.sl 1 (r0.States.map eS)),.one (.sl 3 (r0.Tasks.map an)),.row 109,.row 110,.row 113]),(113,.row 42 7 ([].map af)),(109,.row 4 1 ((x_7.set (task0:Int).toNat true).map eB)),(110,.row 9 1 (x_8.map eS)),(114,.row 3 1 (x_13.map eI))] (.b (.row 114))) from ((((((mY e19).sw 1 108).sw 2 113).sw 3 109).sw 4 110).sw 51 114)) su rfl ⟨rfl,rfl,rfl,rfl,trivial⟩ rfl rfl) (Oc (fA cc rfl rfl (List.length_map _)) (Oc om ?_))
      refine ae.ak ⟨[(6,_),(9,_),(10,_),(11,_),(94,.b (.row 114)),(95,I (x_13.length:Int)),(96,I 0)],[(102,_),(104,_),(108,_),(109,_),(110,_),(113,_),(114,.row 3 1 (x_13.map eI))]⟩ rfl (ab.block (ab.ct h18 (eD fun (nf9_14:List Str) (x_15:Int)=>⟨[(6,Pt 102 0),(9,Pt 104 0),(10,Pt 108 0),(11,.b (.one (.sl 1 (x_11.map eS)))),(94,.b (.row 114)),(95,I (x_13.length:Int)),(96,I x_15)],[(102,.box 31 [.i 0,.i 0,.i 0,.nil,.nil,.nil,.nil,.nil,.nil,.nil]),(104,.box 59 (an x_2)),(108,.aO 95 [.one (.i r0.Me),.one (.i r0.Regions),.one (.i r0.Step),.one (.sl 1 (r0.Home.map eI)),.one (.sl 1 (r0.Heard.map eB)),.one (.sl 1 (r0.Sets.map (eL 1 eI))),.one (.sl 1 (r0.States.map eS)),.one (.sl 3 (r0.Tasks.map an)),.row 109,.row 110,.row 113]),(109,.row 4 1 ((x_7.set (task0:Int).toNat true).map eB)),(110,.row 9 1 (nf9_14.map eS)),(113,.row 42 7 ([].map af)),(114,.row 3 1 (x_13.map eI))]⟩) [6,9,10,11,94,95,96] [102,104,108,109,110,113,114] rfl ?_))
      rintro ⟨nf9_14,x_15⟩ o20 h21 hy22
      refine ab.seq (ab.aa ?_)
      refine Oc (bm rfl rfl) (ae.ak ⟨[(6,_),(9,_),(10,_),(11,_),(94,_),(95,_),(96,_),(97,B (decide (x_15 < (x_13.length:Int))))],[(102,_),(104,_),(108,_),(109,_),(110,_),(113,_),(114,_)]⟩ rfl (ab.seq (ab.ite h21 rfl (fun _ h21=>?_) (fun _ h21=>?_))))
      ·refine ab.skip (Fin.ah ⟨[(6,_),(9,_),(10,_),(11,_),(94,_),(95,_),(96,_)],[(102,_),(104,_),(108,_),(109,_),(110,_),(113,_),(114,_)]⟩ rfl (Fin.then (ab.seq (ab.block (ab.seq (ab.aa ?_))))))
       obtain ⟨x_17,e23,h21⟩:=aR h21
       refine Oc (bc ba (aK e23) (cx e23) rfl rfl rfl rfl) (Oc (c6 (i:=(x_15:Int).toNat) (f:=0) aP rfl rfl rfl (aE (e:=eI) e23) rfl) (Oc oa ?_))
       refine ae.ak ⟨[(6,_),(9,_),(10,_),(11,_),(13,I x_17),(94,_),(95,_),(96,_)],[(102,_),(104,_),(108,_),(109,_),(110,_),(113,_),(114,_)]⟩ rfl ?_
       obtain ⟨x_18,e24,h21⟩:=aR h21
       obtain ⟨x_19,e25,h21⟩:=aR h21
       refine ab.jk mixed 11 [Pt 108 0,Pt 108 0,Pt 108 0,Pt 108 9,.b (.row 110),I x_17,.b (.one (.sl 1 (x_11.map eS))),I x_17,.b (.dS [.str x_18]),.b (.one (.str x_18)),.b (.cG 110 ((x_17:Int).toNat * 1))] [6,9,10,11,94,95,96] [102,104,108,109,110,113,114] (s':=⟨[(6,_),(9,_),(10,_),(11,_),(94,_),(95,_),(96,_)],[(102,_),(104,_),(108,_),(109,_),(110,.row 9 1 ((nf9_14.set (x_17:Int).toNat x_18).map eS)),(113,_),(114,_)]⟩) rfl ⟨fun _=>.p om,fun _=>.p (aA rfl),fun _=>.p (ag aY rfl rfl),fun _=>.p (ag fy rfl rfl),fun _=>.p (aS dz rfl rfl rfl),fun _=>.p om,fun _=>.p om,fun _=>.p om,fun _=>.p (ar cS (aK e24) (aE (e:=eS) e24) rfl rfl),fun _=>.p (aw gI rfl rfl),fun _=>.p (bc cS (aK e25) (cx e25) rfl rfl rfl rfl),trivial⟩ ⟨_,by exact .p (hU (i:=(x_17:Int).toNat) gI rfl rfl rfl rfl (ow e25) (map_set _ _ _ _)),rfl⟩ rfl (Fin.ax (Fin.ah ⟨[(6,_),(9,_),(10,_),(11,_),(94,_),(95,_),(96,_)],[(102,_),(104,_),(108,_),(109,_),(110,_),(113,_),(114,_)]⟩ rfl (Fin.then (ab.aa ?_))))
       refine Oc (bq rfl rfl) (Oc om ?_)
       refine ae.nil ?_
       exact Fin.bK [6,9,10,11,94,95,96] [102,104,108,109,110,113,114] (nf9_14.set (x_17:Int).toNat x_18,IntKind.i64.wrap (x_15 + 1)) (Option.some.inj h21) rfl
      ·refine ab.exit (Fin.ao ?_)
       obtain rfl:=hy22 _ (Option.some.inj h21).symm
       refine Fin.ao (Fin.aI ?_)
       exact Fin.join [6,9,10,11] [102,104,108,109,110,113] nf9_14 rfl rfl
     ·rintro nf9_12 hv
      subst v17
      obtain ⟨v26,h27,h⟩:=aR h
      refine ab.cJ (v:=v26) (ml fun (nf8_20:List Bool) (nf9_21:List Str) (out_22:List au)=>⟨[(6,Pt 102 0),(10,Pt 108 0)],[(102,.box 31 [.i 0,.i 0,.i 0,.nil,.nil,.nil,.nil,.nil,.nil,.nil]),(108,.aO 95 [.one (.i r0.Me),.one (.i r0.Regions),.one (.i r0.Step),.one (.sl 1 (r0.Home.map eI)),.one (.sl 1 (r0.Heard.map eB)),.one (.sl 1 (r0.Sets.map (eL 1 eI))),.one (.sl 1 (r0.States.map eS)),.one (.sl 3 (r0.Tasks.map an)),.one (.sl 1 (nf8_20.map eB)),.one (.sl 1 (nf9_21.map eS)),.row 113]),(113,.row 42 7 (out_22.map af))]⟩) (fun z=>z) ?_ ?_
      ·refine ab.seq (ab.aa ?_)
       refine Oc (ag pn rfl rfl) (Oc (av bx rfl rfl rfl) (Oc (ay cc rfl (List.length_map _)) (Oc om ?_)))
       refine ae.ak ⟨[(6,Pt 102 0),(9,Pt 104 0),(10,Pt 108 0),(11,.b (.one (.sl 1 (x_11.map eS)))),(113,.b (.one (.sl 1 (x_2.Helpers.map eI)))),(114,I (x_2.Helpers.length:Int)),(115,I 0)],[(102,.box 31 [.i 0,.i 0,.i 0,.nil,.nil,.nil,.nil,.nil,.nil,.nil]),(104,.box 59 (an x_2)),(108,.aO 95 [.one (.i r0.Me),.one (.i r0.Regions),.one (.i r0.Step),.one (.sl 1 (r0.Home.map eI)),.one (.sl 1 (r0.Heard.map eB)),.one (.sl 1 (r0.Sets.map (eL 1 eI))),.one (.sl 1 (r0.States.map eS)),.one (.sl 3 (r0.Tasks.map an)),.row 109,.row 110,.row 113]),(109,.row 4 1 ((x_7.set (task0:Int).toNat true).map eB)),(110,.row 9 1 (nf9_12.map eS)),(113,.row 42 7 ([].map af))]⟩ rfl (ab.block (ab.br 109 rfl (ab.br 110 rfl (ab.ct h27 (vX fun (nf8_23:List Bool) (nf9_24:List Str) (out_25:List au) (x_26:Int)=>⟨[(6,Pt 102 0),(9,Pt 104 0),(10,Pt 108 0),(11,.b (.one (.sl 1 (x_11.map eS)))),(113,.b (.one (.sl 1 (x_2.Helpers.map eI)))),(114,I (x_2.Helpers.length:Int)),(115,I x_26)],[(102,.box 31 [.i 0,.i 0,.i 0,.nil,.nil,.nil,.nil,.nil,.nil,.nil]),(104,.box 59 (an x_2)),(108,.aO 95 [.one (.i r0.Me),.one (.i r0.Regions),.one (.i r0.Step),.one (.sl 1 (r0.Home.map eI)),.one (.sl 1 (r0.Heard.map eB)),.one (.sl 1 (r0.Sets.map (eL 1 eI))),.one (.sl 1 (r0.States.map eS)),.one (.sl 3 (r0.Tasks.map an)),.one (.sl 1 (nf8_23.map eB)),.one (.sl 1 (nf9_24.map eS)),.row 113]),(113,.row 42 7 (out_25.map af))]⟩) [6,9,10,11,113,114,115] [102,104,108,113] rfl ?_))))
       rintro ⟨nf8_23,nf9_24,out_25,x_26⟩ o28 h29 hy30
       refine ab.seq (ab.aa ?_)
       refine Oc (bm rfl rfl) (ae.ak ⟨[(6,_),(9,_),(10,_),(11,_),(113,_),(114,_),(115,_),(116,B (decide (x_26 < (x_2.Helpers.length:Int))))],[(102,_),(104,_),(108,_),(113,_)]⟩ rfl (ab.seq (ab.ite h29 rfl (fun _ h29=>?_) (fun _ h29=>?_))))
       ·refine ab.skip (Fin.ah ⟨[(6,_),(9,_),(10,_),(11,_),(113,_),(114,_),(115,_)],[(102,_),(104,_),(108,_),(113,_)]⟩ rfl (Fin.then (ab.seq (ab.block (ab.seq (ab.aa ?_))))))
        obtain ⟨x_30,e31,h29⟩:=aR h29
        refine Oc (ar ba (aK e31) (aE (e:=eI) e31) rfl rfl) (Oc (aw aP rfl rfl) (Oc oa ?_))
        refine ae.ak ⟨[(6,_),(9,_),(10,_),(11,_),(15,I x_30),(113,_),(114,_),(115,_)],[(102,_),(104,_),(108,_),(113,_)]⟩ rfl (ab.seq (ab.aa ?_))
        refine Oc om (Oc (ag dW rfl rfl) (Oc (av bx rfl rfl rfl) (Oc om ?_)))
        obtain ⟨x_31,e32,h29⟩:=aR h29
        refine Oc (bJ (own_a:=[(108,_),(113,_)]) ((((gR e32).sw 1 108).sw 2 113).sw 51 115) su rfl ⟨rfl,rfl,trivial⟩ rfl rfl) (Oc oa ?_)
        refine ae.ak ⟨[(6,_),(9,_),(10,_),(11,_),(15,_),(16,.b (.row 115)),(113,_),(114,_),(115,_)],[(102,_),(104,_),(108,_),(113,_),(115,.row 3 1 (x_31.map eI))]⟩ rfl (ab.aa (Oc om (Oc om (Oc om (Oc om (Oc om ?_))))))
        refine ae.br 115 rfl (ae.ah ⟨[(6,Pt 102 0),(9,Pt 104 0),(10,Pt 108 0),(11,.b (.one (.sl 1 (x_11.map eS)))),(113,.b (.one (.sl 1 (x_2.Helpers.map eI)))),(114,I (x_2.Helpers.length:Int)),(115,I x_26),(124,Pt 108 0),(125,I x_30),(126,.b (.one (.sl 1 (x_31.map eI)))),(127,.b (.one (.sl 1 (x_11.map eS)))),(128,.b (.one (.sl 1 (x_31.map eI))))],[(102,.box 31 [.i 0,.i 0,.i 0,.nil,.nil,.nil,.nil,.nil,.nil,.nil]),(104,.box 59 (an x_2)),(108,.aO 95 [.one (.i r0.Me),.one (.i r0.Regions),.one (.i r0.Step),.one (.sl 1 (r0.Home.map eI)),.one (.sl 1 (r0.Heard.map eB)),.one (.sl 1 (r0.Sets.map (eL 1 eI))),.one (.sl 1 (r0.States.map eS)),.one (.sl 3 (r0.Tasks.map an)),.one (.sl 1 (nf8_23.map eB)),.one (.sl 1 (nf9_24.map eS)),.row 113]),(113,.row 42 7 (out_25.map af))]⟩ rfl ?_)
        obtain ⟨x_32,e33,h29⟩:=aR h29
        refine Oc (bJ (iO 116 e33) uy rfl trivial rfl rfl) (ae.br 116 rfl (ae.consA af h29 rfl (bp.qd (.same (.same (.same (.same (.sl (size:=1) (by decide) (.same (.same (.nil)))))))) (dM px rfl rfl)) (fun x_33 h29=>?_)))
        obtain ⟨x_34,e34,h29⟩:=aR h29
        refine Oc (bJ (own_a:=[(108,_),(113,_)]) (((fW e34).sw 1 108).sw 2 113) uB rfl ⟨rfl,rfl,trivial⟩ rfl rfl) (ae.nil (Fin.ax (Fin.ah ⟨[(6,Pt 102 0),(9,Pt 104 0),(10,Pt 108 0),(11,.b (.one (.sl 1 (x_11.map eS)))),(113,.b (.one (.sl 1 (x_2.Helpers.map eI)))),(114,I (x_2.Helpers.length:Int)),(115,I x_26)],[(102,.box 31 [.i 0,.i 0,.i 0,.nil,.nil,.nil,.nil,.nil,.nil,.nil]),(104,.box 59 (an x_2)),(108,.aO 95 [.one (.i r0.Me),.one (.i r0.Regions),.one (.i r0.Step),.one (.sl 1 (r0.Home.map eI)),.one (.sl 1 (r0.Heard.map eB)),.one (.sl 1 (r0.Sets.map (eL 1 eI))),.one (.sl 1 (r0.States.map eS)),.one (.sl 3 (r0.Tasks.map an)),.one (.sl 1 (nf8_23.map eB)),.one (.sl 1 (nf9_24.map eS)),.row 113]),(113,.row 42 7 (x_34.map af))]⟩ rfl (Fin.then (ab.aa ?_)))))
        refine Oc (bq rfl rfl) (Oc om ?_)
        refine ae.nil ?_
        exact Fin.bK [6,9,10,11,113,114,115] [102,104,108,113] (nf8_23,nf9_24,x_34,IntKind.i64.wrap (x_26 + 1)) (Option.some.inj h29) rfl
       ·refine ab.exit (Fin.ao ?_)
        obtain rfl:=hy30 _ (Option.some.inj h29).symm
        refine Fin.ao (Fin.aI ?_)
        exact Fin.join [6,10] [102,108,113] (nf8_23,nf9_24,out_25) rfl rfl
      ·rintro ⟨nf8_20,nf9_21,out_22⟩ hv
       subst v26
       refine ab.seq (ab.ah ⟨[(6,_),(10,_)],[(102,_),(108,_),(113,_)]⟩ rfl (ab.ff mixed [false,false,false,false,false,false,false,false,true,false,false] [Pt 108 0,Pt 108 0,Pt 108 0,.b (.agg [.i r0.Me,.i r0.Regions,.i r0.Step,.sl 1 (r0.Home.map eI),.sl 1 (r0.Heard.map eB),.sl 1 (r0.Sets.map (eL 1 eI)),.sl 1 (r0.States.map eS),.sl 3 (r0.Tasks.map an),.sl 1 (nf8_20.map eB),.sl 1 (nf9_21.map eS)]),Pt 108 0,Pt 108 0,Pt 108 10,.b (.row 113),B true,.b (.row 113),I 0] [⟨[false,false,false,false,false,false,false,false,false,false,false],[(6,Pt 102 0),(10,Pt 108 0)],[(102,.box 31 [.i 0,.i 0,.i 0,.nil,.nil,.nil,.nil,.nil,.nil,.nil]),(108,.aO 95 [.one (.i r0.Me),.one (.i r0.Regions),.one (.i r0.Step),.one (.sl 1 (r0.Home.map eI)),.one (.sl 1 (r0.Heard.map eB)),.one (.sl 1 (r0.Sets.map (eL 1 eI))),.one (.sl 1 (r0.States.map eS)),.one (.sl 3 (r0.Tasks.map an)),.one (.sl 1 (nf8_20.map eB)),.one (.sl 1 (nf9_21.map eS)),.row 113]),(113,.row 42 7 (out_22.map af))],[true,true,true,true,true,true,true,true,true,true,true],[],[9,10]⟩,⟨[false,false,false,false,false,false,false,false,true,false,false],[(6,Pt 102 0),(10,Pt 108 0)],[(102,.box 31 [.i r0.Me,.i r0.Regions,.i r0.Step,.sl 1 (r0.Home.map eI),.sl 1 (r0.Heard.map eB),.sl 1 (r0.Sets.map (eL 1 eI)),.sl 1 (r0.States.map eS),.sl 3 (r0.Tasks.map an),.sl 1 (nf8_20.map eB),.sl 1 (nf9_21.map eS)]),(108,.aO 95 [.one (.i r0.Me),.one (.i r0.Regions),.one (.i r0.Step),.one (.sl 1 (r0.Home.map eI)),.one (.sl 1 (r0.Heard.map eB)),.one (.sl 1 (r0.Sets.map (eL 1 eI))),.one (.sl 1 (r0.States.map eS)),.one (.sl 3 (r0.Tasks.map an)),.one (.sl 1 (nf8_20.map eB)),.one (.sl 1 (nf9_21.map eS)),.row 113]),(113,.row 42 7 (out_22.map af))],[true,true,true,true,true,true,true,true,true,true,true],[0,1,2,3,8],[]⟩] rfl (⟨by kernel_rfl,⟨⟨Pt 108 0,fun _=>rfl,fun _=>.p (by exact az rfl)⟩,⟨Pt 108 0,fun _=>rfl,fun _=>.p (by exact aA rfl)⟩,⟨Pt 108 0,fun _=>rfl,fun _=>.p (by exact ag aY rfl rfl)⟩,⟨.b (.agg [.i r0.Me,.i r0.Regions,.i r0.Step,.sl 1 (r0.Home.map eI),.sl 1 (r0.Heard.map eB),.sl 1 (r0.Sets.map (eL 1 eI)),.sl 1 (r0.States.map eS),.sl 3 (r0.Tasks.map an),.sl 1 (nf8_20.map eB),.sl 1 (nf9_21.map eS)]),fun _=>rfl,fun _=>.p (by exact n6 aV rfl rfl rfl rfl)⟩,⟨Pt 108 0,fun _=>rfl,fun _=>.p (by exact az rfl)⟩,⟨Pt 108 0,fun _=>rfl,fun _=>.p (by exact aA rfl)⟩,⟨Pt 108 10,fun _=>rfl,fun _=>.p (by exact ag gV rfl rfl)⟩,⟨.b (.row 113),fun _=>rfl,fun _=>.p (by exact aS kC rfl rfl rfl)⟩,⟨_,[],.b (.one .any),rfl,(fun e=>by simp at e),rfl,rfl,fun _=>.mc [102,108,113] (by exact .p (by exact bD aV rfl rfl rfl rfl (Nat.le_of_ble_eq_true rfl) rfl)) (by exact rfl)⟩,trivial,trivial,trivial⟩,⟨by kernel_rfl,⟨trivial,trivial,trivial,trivial,⟨Pt 108 0,fun _=>rfl,fun _=>.p (by exact az rfl)⟩,⟨Pt 108 0,fun _=>rfl,fun _=>.p (by exact aA rfl)⟩,⟨Pt 108 10,fun _=>rfl,fun _=>.p (by exact ag gV rfl rfl)⟩,⟨.b (.row 113),fun _=>rfl,fun _=>.p (by exact aS kC rfl rfl rfl)⟩,trivial,⟨.b (.row 113),fun _=>rfl,fun _=>.p (by exact cH rfl)⟩,⟨I 0,fun _=>rfl,fun _=>.p (by exact cH rfl)⟩,trivial⟩,trivial⟩⟩) rfl rfl rfl [6,7,8] [102,113] (s':=⟨[(6,_),(7,.b (.row 113)),(8,I 0)],[(102,.box 31 [.i r0.Me,.i r0.Regions,.i r0.Step,.sl 1 (r0.Home.map eI),.sl 1 (r0.Heard.map eB),.sl 1 (r0.Sets.map (eL 1 eI)),.sl 1 (r0.States.map eS),.sl 3 (r0.Tasks.map an),.sl 1 (nf8_20.map eB),.sl 1 (nf9_21.map eS)]),(113,_)]⟩) rfl ?_))
       refine ab.ret ?_
       obtain rfl:=Option.some.inj h
       refine Fin.ah ⟨[(6,_),(7,_),(8,_)],[(102,_),(113,_)]⟩ rfl (Fin.dr 113 kr0 [.agg [.i r0.Me,.i r0.Regions,.i r0.Step,.sl 1 (r0.Home.map eI),.sl 1 (r0.Heard.map eB),.sl 1 (r0.Sets.map (eL 1 eI)),.sl 1 (r0.States.map eS),.sl 3 (r0.Tasks.map an),.sl 1 (nf8_20.map eB),.sl 1 (nf9_21.map eS)],.row 113,.one (.i 0)] (.inl rfl) rfl (.cons (.agg aV rfl rfl rfl rfl) (.cons (.tmp rfl) (.cons (.tmp rfl) .nil))) rfl rfl rfl rfl ⟨rfl,rfl⟩)
def bI (F:Nat) (a0:List Int) (b0:List Int):Option Bool :=
 if (decide ((a0.length:Int) ≠ (b0.length:Int))) = true then (some false) else (Option.bind (iter F (fun i_1=>if (decide (i_1 < (a0.length:Int))) = true then ((aT a0 i_1).bind fun x_2=>(aT b0 i_1).bind fun x_3=>if (decide (x_2 ≠ x_3)) = true then (some (.inr (.inr false))) else (some (.inl (IntKind.i64.wrap (i_1 + 1))))) else (some (.inr (.inl ())))) 0) (bH (fun _=>some true) (fun y=>some y)))
theorem eX {F:Nat} {a0:List Int} {b0:List Int} {r:Bool} (h:bI F a0 b0 = some r):aC Try.prog [] 19 [] [.one (.sl 1 (a0.map eI)),.one (.sl 1 (b0.map eI))] (Is [] (.b (.one (.bool r)))):=by
 unfold bI at h
 refine aC.intro 26 Try.func19 Try.ntmps19 rfl (by simp) fun E=>?_
 show ab _ E ⟨26,[],[],[]⟩ _ ⟨[(0,.b (.one (.sl 1 (a0.map eI)))),(1,.b (.one (.sl 1 (b0.map eI))))],[]⟩ _
 refine ab.seq (ab.aa ?_)
 refine Oc oa (ae.ak ⟨[(0,.b (.one (.sl 1 (a0.map eI)))),(1,.b (.one (.sl 1 (b0.map eI))))],[]⟩ rfl (ab.seq (ab.seq (ab.aa ?_))))
 refine Oc om (Oc (ay cc rfl (List.length_map _)) (Oc om (Oc (ay cc rfl (List.length_map _)) (Oc (dg rfl rfl) ?_))))
 refine ae.ak ⟨[(0,_),(1,_),(10,B (decide ((a0.length:Int) ≠ (b0.length:Int))))],[]⟩ rfl (ab.ite h rfl (fun _ h=>?_) (fun _ h=>?_))
 ·refine ab.seq (ab.aa ?_)
  refine Oc oa (ae.ak ⟨[(4,B false)],[]⟩ rfl (ab.ret (Fin.aq ?_)))
  obtain rfl:=Option.some.inj h
  refine Fin.ah ⟨[(4,_)],[]⟩ rfl (Fin.bd [.one (.bool false)] (.inl rfl) rfl (.cons (.tmp rfl) .nil) ⟨rfl,rfl⟩)
 ·refine ab.skip (Fin.ah ⟨[(0,_),(1,_)],[]⟩ rfl (Fin.then ?_))
  obtain ⟨v1,h2,h⟩:=aR h
  refine ab.cJ (v:=v1) (fun (_:Unit)=>⟨[],[]⟩) (fun z=>.inl z) ?_ ?_
  ·refine ab.seq (ab.aa ?_)
   refine Oc oa (ae.ak ⟨[(0,_),(1,_),(5,I 0)],[]⟩ rfl (ab.block (ab.ct h2 (fun (i_1:Int)=>⟨[(0,.b (.one (.sl 1 (a0.map eI)))),(1,.b (.one (.sl 1 (b0.map eI)))),(5,I i_1)],[]⟩) [0,1,5] [] rfl ?_)))
   rintro i_1 o3 h4 hy5
   refine ab.seq (ab.seq (ab.aa ?_))
   refine Oc om (Oc om (Oc (ay cc rfl (List.length_map _)) (Oc (bm rfl rfl) ?_)))
   refine ae.ak ⟨[(0,_),(1,_),(5,_),(14,B (decide (i_1 < (a0.length:Int))))],[]⟩ rfl (ab.ite h4 rfl (fun _ h4=>?_) (fun _ h4=>?_))
   ·refine ab.skip (Fin.ah ⟨[(0,_),(1,_),(5,_)],[]⟩ rfl (Fin.then (ab.seq (ab.block (ab.seq ?_)))))
    refine ab.ah ⟨[(0,_),(1,_),(5,_)],[]⟩ rfl ?_
    obtain ⟨x_2,e6,h4⟩:=aR h4
    obtain ⟨x_3,e7,h4⟩:=aR h4
    refine ab.fe mixed 9 [.b (.one (.sl 1 (a0.map eI))),I i_1,.b (.dS [.i x_2]),I x_2,.b (.one (.sl 1 (b0.map eI))),I i_1,.b (.dS [.i x_3]),I x_3,B (decide (x_2 ≠ x_3))] [0,1,5,25] [] (s':=⟨[(0,_),(1,_),(5,_),(25,B (decide (x_2 ≠ x_3)))],[]⟩) rfl ⟨fun _=>.p om,fun _=>.p om,fun _=>.p (ar ba (aK e6) (aE (e:=eI) e6) rfl rfl),fun _=>.p (aw aP rfl rfl),fun _=>.p om,fun _=>.p om,fun _=>.p (ar ba (aK e7) (aE (e:=eI) e7) rfl rfl),fun _=>.p (aw aP rfl rfl),fun _=>.p (dg rfl rfl),trivial⟩ rfl rfl (ab.ite h4 rfl (fun _ h4=>?_) (fun _ h4=>?_))
    ·refine ab.seq (ab.aa ?_)
     refine Oc oa (ae.ak ⟨[(4,B false)],[]⟩ rfl (ab.ret (Fin.aD (Fin.aq ?_))))
     obtain rfl:=hy5 _ (Option.some.inj h4).symm
     refine Fin.aq (Fin.aD (Fin.aq ?_))
     obtain rfl:=Option.some.inj h
     refine Fin.ah ⟨[(4,_)],[]⟩ rfl (Fin.bd [.one (.bool false)] (.inl rfl) rfl (.cons (.tmp rfl) .nil) ⟨rfl,rfl⟩)
    ·refine ab.skip (Fin.ax (Fin.ah ⟨[(0,_),(1,_),(5,_)],[]⟩ rfl (Fin.then (ab.aa ?_))))
     refine Oc om (Oc (bq rfl rfl) (Oc oa ?_))
     refine ae.nil ?_
     exact Fin.bK [0,1,5] [] (IntKind.i64.wrap (i_1 + 1)) (Option.some.inj h4) rfl
   ·refine ab.exit (Fin.ao ?_)
    obtain rfl:=hy5 _ (Option.some.inj h4).symm
    refine Fin.ao (Fin.aI ?_)
    exact Fin.join [] [] () rfl rfl
  ·rintro _ hv
   subst v1
   refine ab.seq (ab.aa ?_)
   refine Oc oa (ae.ak ⟨[(4,B true)],[]⟩ rfl (ab.ret ?_))
   obtain rfl:=Option.some.inj h
   refine Fin.ah ⟨[(4,_)],[]⟩ rfl (Fin.bd [.one (.bool true)] (.inl rfl) rfl (.cons (.tmp rfl) .nil) ⟨rfl,rfl⟩)
def bt (F:Nat) (a0:List Task) (b0:List Task):Option Bool :=
 if (decide ((a0.length:Int) ≠ (b0.length:Int))) = true then (some false) else (Option.bind (iter F (fun i_1=>if (decide (i_1 < (a0.length:Int))) = true then ((aT a0 i_1).bind fun x_2=>(aT b0 i_1).bind fun x_3=>(aM (!(decide (x_2.Owner ≠ x_3.Owner))) (aT a0 i_1)).bind fun x_4=>(aM (!(decide (x_2.Owner ≠ x_3.Owner))) (aT b0 i_1)).bind fun x_5=>(aM (!(decide (x_2.Owner ≠ x_3.Owner))) (bI F x_4.Bodies x_5.Bodies)).bind fun x_6=>(aM (!((decide (x_2.Owner ≠ x_3.Owner)) || (!x_6))) (aT a0 i_1)).bind fun x_7=>(aM (!((decide (x_2.Owner ≠ x_3.Owner)) || (!x_6))) (aT b0 i_1)).bind fun x_8=>(aM (!((decide (x_2.Owner ≠ x_3.Owner)) || (!x_6))) (bI F x_7.Helpers x_8.Helpers)).bind fun x_9=>if (((decide (x_2.Owner ≠ x_3.Owner)) || (!x_6)) || (!x_9)) = true then (some (.inr (.inr false))) else (some (.inl (IntKind.i64.wrap (i_1 + 1))))) else (some (.inr (.inl ())))) 0) (bH (fun _=>some true) (fun y=>some y)))
theorem fq {F:Nat} {a0:List Task} {b0:List Task} {r:Bool} (h:bt F a0 b0 = some r):aC Try.prog [] 32 [] [.one (.sl 3 (a0.map an)),.one (.sl 3 (b0.map an))] (Is [] (.b (.one (.bool r)))):=by
 unfold bt at h
 refine aC.intro 56 Try.func32 Try.ntmps32 rfl (by simp) fun E=>?_
 show ab _ E ⟨56,[],[],[]⟩ _ ⟨[(0,.b (.one (.sl 3 (a0.map an)))),(1,.b (.one (.sl 3 (b0.map an))))],[]⟩ _
 refine ab.seq (ab.aa ?_)
 refine Oc oa (ae.ak ⟨[(0,.b (.one (.sl 3 (a0.map an)))),(1,.b (.one (.sl 3 (b0.map an))))],[]⟩ rfl (ab.seq (ab.seq (ab.aa ?_))))
 refine Oc om (Oc (ay nE rfl (List.length_map _)) (Oc om (Oc (ay nE rfl (List.length_map _)) (Oc (dg rfl rfl) ?_))))
 refine ae.ak ⟨[(0,_),(1,_),(10,B (decide ((a0.length:Int) ≠ (b0.length:Int))))],[]⟩ rfl (ab.ite h rfl (fun _ h=>?_) (fun _ h=>?_))
 ·refine ab.seq (ab.aa ?_)
  refine Oc oa (ae.ak ⟨[(4,B false)],[]⟩ rfl (ab.ret (Fin.aq ?_)))
  obtain rfl:=Option.some.inj h
  refine Fin.ah ⟨[(4,_)],[]⟩ rfl (Fin.bd [.one (.bool false)] (.inl rfl) rfl (.cons (.tmp rfl) .nil) ⟨rfl,rfl⟩)
 ·refine ab.skip (Fin.ah ⟨[(0,_),(1,_)],[]⟩ rfl (Fin.then ?_))
  obtain ⟨v1,h2,h⟩:=aR h
  refine ab.cJ (v:=v1) (fun (_:Unit)=>⟨[],[]⟩) (fun z=>.inl z) ?_ ?_
  ·refine ab.seq (ab.aa ?_)
   refine Oc oa (ae.ak ⟨[(0,_),(1,_),(5,I 0)],[]⟩ rfl (ab.block (ab.ct h2 (fun (i_1:Int)=>⟨[(0,.b (.one (.sl 3 (a0.map an)))),(1,.b (.one (.sl 3 (b0.map an)))),(5,I i_1)],[]⟩) [0,1,5] [] rfl ?_)))
   rintro i_1 o3 h4 hy5
   refine ab.seq (ab.seq (ab.aa ?_))
   refine Oc om (Oc om (Oc (ay nE rfl (List.length_map _)) (Oc (bm rfl rfl) ?_)))
   refine ae.ak ⟨[(0,_),(1,_),(5,_),(14,B (decide (i_1 < (a0.length:Int))))],[]⟩ rfl (ab.ite h4 rfl (fun _ h4=>?_) (fun _ h4=>?_))
   ·refine ab.skip (Fin.ah ⟨[(0,_),(1,_),(5,_)],[]⟩ rfl (Fin.then (ab.seq (ab.block (ab.seq ?_)))))
    refine ab.ah ⟨[(0,_),(1,_),(5,_)],[]⟩ rfl ?_
    obtain ⟨x_2,e6,h4⟩:=aR h4
    obtain ⟨x_3,e7,h4⟩:=aR h4
    obtain ⟨x_4,e11,h4⟩:=aR h4
    obtain ⟨x_5,e17,h4⟩:=aR h4
    obtain ⟨x_6,e21,h4⟩:=aR h4
    obtain ⟨x_7,e26,h4⟩:=aR h4
    obtain ⟨x_8,e32,h4⟩:=aR h4
    obtain ⟨x_9,e36,h4⟩:=aR h4
    refine ab.fe mixed 39 [.b (.one (.sl 3 (a0.map an))),I i_1,.b (.dS (an x_2)),.b (.dS (an x_2)),I x_2.Owner,.b (.one (.sl 3 (b0.map an))),I i_1,.b (.dS (an x_3)),.b (.dS (an x_3)),I x_3.Owner,B (decide (x_2.Owner ≠ x_3.Owner)),B (decide (x_2.Owner ≠ x_3.Owner)),.opt (!(decide (x_2.Owner ≠ x_3.Owner))) (.one (.sl 3 (a0.map an))),.opt (!(decide (x_2.Owner ≠ x_3.Owner))) (.one (.i i_1)),.opt (!(decide (x_2.Owner ≠ x_3.Owner))) (.dS (an x_4)),.opt (!(decide (x_2.Owner ≠ x_3.Owner))) (.dS [.sl 1 (x_4.Bodies.map eI),.sl 1 (x_4.Helpers.map eI)]),.opt (!(decide (x_2.Owner ≠ x_3.Owner))) (.one (.sl 1 (x_4.Bodies.map eI))),.opt (!(decide (x_2.Owner ≠ x_3.Owner))) (.one (.sl 3 (b0.map an))),.opt (!(decide (x_2.Owner ≠ x_3.Owner))) (.one (.i i_1)),.opt (!(decide (x_2.Owner ≠ x_3.Owner))) (.dS (an x_5)),.opt (!(decide (x_2.Owner ≠ x_3.Owner))) (.dS [.sl 1 (x_5.Bodies.map eI),.sl 1 (x_5.Helpers.map eI)]),.opt (!(decide (x_2.Owner ≠ x_3.Owner))) (.one (.sl 1 (x_5.Bodies.map eI))),.opt (!(decide (x_2.Owner ≠ x_3.Owner))) (.one (.bool x_6)),.opt (!(decide (x_2.Owner ≠ x_3.Owner))) (.one (.bool (!x_6))),B ((decide (x_2.Owner ≠ x_3.Owner)) || (!x_6)),B ((decide (x_2.Owner ≠ x_3.Owner)) || (!x_6)),.opt (!((decide (x_2.Owner ≠ x_3.Owner)) || (!x_6))) (.one (.sl 3 (a0.map an))),.opt (!((decide (x_2.Owner ≠ x_3.Owner)) || (!x_6))) (.one (.i i_1)),.opt (!((decide (x_2.Owner ≠ x_3.Owner)) || (!x_6))) (.dS (an x_7)),.opt (!((decide (x_2.Owner ≠ x_3.Owner)) || (!x_6))) (.dS [.sl 1 (x_7.Helpers.map eI)]),.opt (!((decide (x_2.Owner ≠ x_3.Owner)) || (!x_6))) (.one (.sl 1 (x_7.Helpers.map eI))),.opt (!((decide (x_2.Owner ≠ x_3.Owner)) || (!x_6))) (.one (.sl 3 (b0.map an))),.opt (!((decide (x_2.Owner ≠ x_3.Owner)) || (!x_6))) (.one (.i i_1)),.opt (!((decide (x_2.Owner ≠ x_3.Owner)) || (!x_6))) (.dS (an x_8)),.opt (!((decide (x_2.Owner ≠ x_3.Owner)) || (!x_6))) (.dS [.sl 1 (x_8.Helpers.map eI)]),.opt (!((decide (x_2.Owner ≠ x_3.Owner)) || (!x_6))) (.one (.sl 1 (x_8.Helpers.map eI))),.opt (!((decide (x_2.Owner ≠ x_3.Owner)) || (!x_6))) (.one (.bool x_9)),.opt (!((decide (x_2.Owner ≠ x_3.Owner)) || (!x_6))) (.one (.bool (!x_9))),B (((decide (x_2.Owner ≠ x_3.Owner)) || (!x_6)) || (!x_9))] [0,1,5,55] [] (s':=⟨[(0,_),(1,_),(5,_),(55,B (((decide (x_2.Owner ≠ x_3.Owner)) || (!x_6)) || (!x_9)))],[]⟩) rfl ⟨fun _=>.p om,fun _=>.p om,fun _=>.p (ar gu (aK e6) (aE (e:=an) e6) rfl rfl),fun _=>by exact .p (fg iF rfl rfl),fun _=>.p (aw aP rfl rfl),fun _=>.p om,fun _=>.p om,fun _=>.p (ar gu (aK e7) (aE (e:=an) e7) rfl rfl),fun _=>by exact .p (fg iF rfl rfl),fun _=>.p (aw aP rfl rfl),fun _=>.p (dg rfl rfl),fun _=>.p om,fun _=>by exact .guard (!(decide (x_2.Owner ≠ x_3.Owner))) 1 [] (.plain rfl) (cE _) rfl rfl (fun g8=>trivial) (fun g8=>om),fun _=>by exact .guard (!(decide (x_2.Owner ≠ x_3.Owner))) 1 [] (.plain rfl) (cE _) rfl rfl (fun g9=>trivial) (fun g9=>om),fun _=>by exact .guard (!(decide (x_2.Owner ≠ x_3.Owner))) 3 [29,30] (.plain rfl) (cE _) rfl rfl (fun g10=>⟨g10,g10,trivial⟩) (fun g10=>ar gu (aK (gc e11 g10)) (aE (e:=an) (gc e11 g10)) rfl rfl),fun _=>by exact .guard (!(decide (x_2.Owner ≠ x_3.Owner))) 2 [31] (.plain rfl) (cE _) rfl rfl (fun g12=>⟨g12,trivial⟩) (fun g12=>fg dW rfl rfl),fun _=>by exact .guard (!(decide (x_2.Owner ≠ x_3.Owner))) 2 [32] (.plain rfl) (cE _) rfl rfl (fun g13=>⟨g13,trivial⟩) (fun g13=>aw bx rfl rfl),fun _=>by exact .guard (!(decide (x_2.Owner ≠ x_3.Owner))) 1 [] (.plain rfl) (cE _) rfl rfl (fun g14=>trivial) (fun g14=>om),fun _=>by exact .guard (!(decide (x_2.Owner ≠ x_3.Owner))) 1 [] (.plain rfl) (cE _) rfl rfl (fun g15=>trivial) (fun g15=>om),fun _=>by exact .guard (!(decide (x_2.Owner ≠ x_3.Owner))) 3 [34,35] (.plain rfl) (cE _) rfl rfl (fun g16=>⟨g16,g16,trivial⟩) (fun g16=>ar gu (aK (gc e17 g16)) (aE (e:=an) (gc e17 g16)) rfl rfl),fun _=>by exact .guard (!(decide (x_2.Owner ≠ x_3.Owner))) 2 [36] (.plain rfl) (cE _) rfl rfl (fun g18=>⟨g18,trivial⟩) (fun g18=>fg dW rfl rfl),fun _=>by exact .guard (!(decide (x_2.Owner ≠ x_3.Owner))) 2 [37] (.plain rfl) (cE _) rfl rfl (fun g19=>⟨g19,trivial⟩) (fun g19=>aw bx rfl rfl),fun _=>by exact .guard (!(decide (x_2.Owner ≠ x_3.Owner))) 4 [33,38] (.plain rfl) (cE _) rfl rfl (fun g20=>⟨g20,g20,trivial⟩) (fun g20=>aH (eX (gc e21 g20)) uF rfl rfl),fun _=>by exact .guard (!(decide (x_2.Owner ≠ x_3.Owner))) 2 [39] (.plain rfl) (cE _) rfl rfl (fun g22=>⟨g22,trivial⟩) (fun g22=>dv rfl),fun _=>.p (aL (fun e=>by first | (rw [e]; rfl) | (simp only at e; rw [e]; rfl)) rfl rfl rfl rfl),fun _=>.p om,fun _=>by exact .guard (!((decide (x_2.Owner ≠ x_3.Owner)) || (!x_6))) 1 [] (.plain rfl) (cE _) rfl rfl (fun g23=>trivial) (fun g23=>om),fun _=>by exact .guard (!((decide (x_2.Owner ≠ x_3.Owner)) || (!x_6))) 1 [] (.plain rfl) (cE _) rfl rfl (fun g24=>trivial) (fun g24=>om),fun _=>by exact .guard (!((decide (x_2.Owner ≠ x_3.Owner)) || (!x_6))) 3 [43,44] (.plain rfl) (cE _) rfl rfl (fun g25=>⟨g25,g25,trivial⟩) (fun g25=>ar gu (aK (gc e26 g25)) (aE (e:=an) (gc e26 g25)) rfl rfl),fun _=>by exact .guard (!((decide (x_2.Owner ≠ x_3.Owner)) || (!x_6))) 2 [45] (.plain rfl) (cE _) rfl rfl (fun g27=>⟨g27,trivial⟩) (fun g27=>fg pn rfl rfl),fun _=>by exact .guard (!((decide (x_2.Owner ≠ x_3.Owner)) || (!x_6))) 2 [46] (.plain rfl) (cE _) rfl rfl (fun g28=>⟨g28,trivial⟩) (fun g28=>aw bx rfl rfl),fun _=>by exact .guard (!((decide (x_2.Owner ≠ x_3.Owner)) || (!x_6))) 1 [] (.plain rfl) (cE _) rfl rfl (fun g29=>trivial) (fun g29=>om),fun _=>by exact .guard (!((decide (x_2.Owner ≠ x_3.Owner)) || (!x_6))) 1 [] (.plain rfl) (cE _) rfl rfl (fun g30=>trivial) (fun g30=>om),fun _=>by exact .guard (!((decide (x_2.Owner ≠ x_3.Owner)) || (!x_6))) 3 [48,49] (.plain rfl) (cE _) rfl rfl (fun g31=>⟨g31,g31,trivial⟩) (fun g31=>ar gu (aK (gc e32 g31)) (aE (e:=an) (gc e32 g31)) rfl rfl),fun _=>by exact .guard (!((decide (x_2.Owner ≠ x_3.Owner)) || (!x_6))) 2 [50] (.plain rfl) (cE _) rfl rfl (fun g33=>⟨g33,trivial⟩) (fun g33=>fg pn rfl rfl),fun _=>by exact .guard (!((decide (x_2.Owner ≠ x_3.Owner)) || (!x_6))) 2 [51] (.plain rfl) (cE _) rfl rfl (fun g34=>⟨g34,trivial⟩) (fun g34=>aw bx rfl rfl),fun _=>by exact .guard (!((decide (x_2.Owner ≠ x_3.Owner)) || (!x_6))) 4 [47,52] (.plain rfl) (cE _) rfl rfl (fun g35=>⟨g35,g35,trivial⟩) (fun g35=>aH (eX (gc e36 g35)) uF rfl rfl),fun _=>by exact .guard (!((decide (x_2.Owner ≠ x_3.Owner)) || (!x_6))) 2 [53] (.plain rfl) (cE _) rfl rfl (fun g37=>⟨g37,trivial⟩) (fun g37=>dv rfl),fun _=>.p (aL (fun e=>by first | (rw [e]; rfl) | (simp only at e; rw [e]; rfl)) rfl rfl rfl rfl),trivial⟩ rfl rfl ?_
    refine ab.ite h4 rfl (fun _ h4=>?_) (fun _ h4=>?_)
    ·refine ab.seq (ab.aa ?_)
     refine Oc oa (ae.ak ⟨[(4,B false)],[]⟩ rfl (ab.ret (Fin.aD (Fin.aq ?_))))
     obtain rfl:=hy5 _ (Option.some.inj h4).symm
     refine Fin.aq (Fin.aD (Fin.aq ?_))
     obtain rfl:=Option.some.inj h
     refine Fin.ah ⟨[(4,_)],[]⟩ rfl (Fin.bd [.one (.bool false)] (.inl rfl) rfl (.cons (.tmp rfl) .nil) ⟨rfl,rfl⟩)
    ·refine ab.skip (Fin.ax (Fin.ah ⟨[(0,_),(1,_),(5,_)],[]⟩ rfl (Fin.then (ab.aa ?_))))
     refine Oc om (Oc (bq rfl rfl) (Oc oa ?_))
     refine ae.nil ?_
     exact Fin.bK [0,1,5] [] (IntKind.i64.wrap (i_1 + 1)) (Option.some.inj h4) rfl
   ·refine ab.exit (Fin.ao ?_)
    obtain rfl:=hy5 _ (Option.some.inj h4).symm
    refine Fin.ao (Fin.aI ?_)
    exact Fin.join [] [] () rfl rfl
  ·rintro _ hv
   subst v1
   refine ab.seq (ab.aa ?_)
   refine Oc oa (ae.ak ⟨[(4,B true)],[]⟩ rfl (ab.ret ?_))
   obtain rfl:=Option.some.inj h
   refine Fin.ah ⟨[(4,_)],[]⟩ rfl (Fin.bd [.one (.bool true)] (.inl rfl) rfl (.cons (.tmp rfl) .nil) ⟨rfl,rfl⟩)
def cb (F:Nat) (r0:Round):Option Bool :=
 Option.bind (iter F (fun x_1=>if (decide (x_1 < (r0.Tasks.length:Int))) = true then ((aT r0.Tasks x_1).bind fun x_2=>(aM (decide (x_2.Owner = r0.Me)) (aT r0.Done x_1)).bind fun x_3=>if ((decide (x_2.Owner = r0.Me)) && (!x_3)) = true then (some (.inr (.inr false))) else (some (.inl (IntKind.i64.wrap (x_1 + 1))))) else (some (.inr (.inl ())))) 0) (bH (fun _=>Option.bind (iter F (fun x_4=>if (decide (x_4 < (r0.Home.length:Int))) = true then ((aT r0.Home x_4).bind fun x_5=>(aM (decide (x_5 = r0.Me)) (aT r0.Results x_4)).bind fun x_6=>if ((decide (x_5 = r0.Me)) && (decide (x_6 = []))) = true then (some (.inr (.inr false))) else (some (.inl (IntKind.i64.wrap (x_4 + 1))))) else (some (.inr (.inl ())))) 0) (bH (fun _=>(b6 F r0.Heard false).bind fun x_7=>some (!x_7)) (fun y=>some y))) (fun y=>some y))
theorem gx {F:Nat} {r0:Round} {r:Bool} (h:cb F r0 = some r):aC Try.prog [] 22 [] [.agg (aj r0)] (Is [] (.b (.one (.bool r)))):=by
 unfold cb at h
 refine aC.intro 54 Try.func22 Try.ntmps22 rfl (by simp) fun E=>?_
 show ab _ E ⟨54,[],[],[]⟩ _ ⟨[(0,.b (.agg (aj r0)))],[]⟩ _
 refine ab.seq (ab.aa ?_)
 refine Oc (gK (k:=101) rfl rfl) (Oc oa ?_)
 refine ae.ak ⟨[(1,Pt 101 0)],[(101,.box 31 (aj r0))]⟩ rfl ?_
 obtain ⟨v1,h2,h⟩:=aR h
 refine ab.cJ (v:=v1) (fun (_:Unit)=>⟨[(1,Pt 101 0)],[(101,.box 31 (aj r0))]⟩) (fun z=>.inl z) ?_ ?_
 ·refine ab.seq (ab.aa ?_)
  refine Oc (ag dB rfl rfl) (Oc (av fG rfl rfl rfl) (Oc (ay nE rfl (List.length_map _)) (Oc om ?_)))
  refine ae.ak ⟨[(1,_),(8,.b (.one (.sl 3 (r0.Tasks.map an)))),(9,I (r0.Tasks.length:Int)),(10,I 0)],[(101,_)]⟩ rfl (ab.block (ab.ct h2 (fun (x_1:Int)=>⟨[(1,Pt 101 0),(8,.b (.one (.sl 3 (r0.Tasks.map an)))),(9,I (r0.Tasks.length:Int)),(10,I x_1)],[(101,.box 31 (aj r0))]⟩) [1,8,9,10] [101] rfl ?_))
  rintro x_1 o3 h4 hy5
  refine ab.seq (ab.aa ?_)
  refine Oc (bm rfl rfl) (ae.ak ⟨[(1,_),(8,_),(9,_),(10,_),(11,B (decide (x_1 < (r0.Tasks.length:Int))))],[(101,_)]⟩ rfl (ab.seq (ab.ite h4 rfl (fun _ h4=>?_) (fun _ h4=>?_))))
  ·refine ab.skip (Fin.ah ⟨[(1,_),(8,_),(9,_),(10,_)],[(101,_)]⟩ rfl (Fin.then (ab.seq (ab.block (ab.seq (ab.aa ?_))))))
   refine Oc om ?_
   obtain ⟨x_2,e6,h4⟩:=aR h4
   refine Oc (ar gu (aK e6) (aE (e:=an) e6) rfl rfl) (Oc (jH jy rfl rfl rfl) (Oc (dN (k:=102) oJ rfl) (Oc oa (Oc (bD jy rfl rfl rfl rfl (Nat.le_of_ble_eq_true rfl) rfl) ?_))))
   refine ae.ak ⟨[(1,_),(3,I x_1),(4,Pt 102 0),(8,_),(9,_),(10,_)],[(101,_),(102,.box 59 (an x_2))]⟩ rfl (ab.seq (ab.aa ?_))
   refine Oc (ag iF rfl rfl) (Oc (av aP rfl rfl rfl) (Oc (ag eV rfl rfl) (Oc (av aP rfl rfl rfl) (Oc (dT rfl rfl) (Oc om ?_)))))
   refine iV (decide (x_2.Owner = r0.Me)) [] (fun g7=>trivial) (fun g7=>ag iG rfl rfl) (ae.ah ⟨[(1,_),(3,_),(8,_),(9,_),(10,_),(20,B (decide (x_2.Owner = r0.Me))),(21,.opt (decide (x_2.Owner = r0.Me)) (.ptr 101 8))],[(101,_)]⟩ rfl (iV (decide (x_2.Owner = r0.Me)) [21] (fun g8=>⟨g8,trivial⟩) (fun g8=>av fc rfl rfl rfl) (iV (decide (x_2.Owner = r0.Me)) [] (fun g9=>trivial) (fun g9=>om) ?_)))
   obtain ⟨x_3,e11,h4⟩:=aR h4
   refine iV (decide (x_2.Owner = r0.Me)) [22,23] (fun g10=>⟨g10,g10,trivial⟩) (fun g10=>ar iE (aK (gc e11 g10)) (aE (e:=eB) (gc e11 g10)) rfl rfl) (iV (decide (x_2.Owner = r0.Me)) [24] (fun g12=>⟨g12,trivial⟩) (fun g12=>aw mu rfl rfl) (iV (decide (x_2.Owner = r0.Me)) [25] (fun g13=>⟨g13,trivial⟩) (fun g13=>dv rfl) (Oc (bS (fun e=>e) rfl rfl rfl rfl) (ae.ak ⟨[(1,_),(8,_),(9,_),(10,_),(27,B ((decide (x_2.Owner = r0.Me)) && (!x_3)))],[(101,_)]⟩ rfl (ab.ite h4 rfl (fun _ h4=>?_) (fun _ h4=>?_))))))
   ·refine ab.seq (ab.aa ?_)
    refine Oc oa (ae.ak ⟨[(2,B false)],[]⟩ rfl (ab.ret (Fin.aD (Fin.aq ?_))))
    obtain rfl:=hy5 _ (Option.some.inj h4).symm
    refine Fin.aq (Fin.aD (Fin.aq ?_))
    obtain rfl:=Option.some.inj h
    refine Fin.ah ⟨[(2,_)],[]⟩ rfl (Fin.bd [.one (.bool false)] (.inl rfl) rfl (.cons (.tmp rfl) .nil) ⟨rfl,rfl⟩)
   ·refine ab.skip (Fin.ax (Fin.ah ⟨[(1,_),(8,_),(9,_),(10,_)],[(101,_)]⟩ rfl (Fin.then (ab.aa ?_))))
    refine Oc (bq rfl rfl) (Oc om ?_)
    refine ae.nil ?_
    exact Fin.bK [1,8,9,10] [101] (IntKind.i64.wrap (x_1 + 1)) (Option.some.inj h4) rfl
  ·refine ab.exit (Fin.ao ?_)
   obtain rfl:=hy5 _ (Option.some.inj h4).symm
   refine Fin.ao (Fin.aI ?_)
   exact Fin.join [1] [101] () rfl rfl
 ·rintro _ hv
  subst v1
  obtain ⟨v14,h15,h⟩:=aR h
  refine ab.cJ (v:=v14) (fun (_:Unit)=>⟨[(1,Pt 101 0)],[(101,.box 31 (aj r0))]⟩) (fun z=>.inl z) ?_ ?_
  ·refine ab.seq (ab.aa ?_)
   refine Oc (ag iH rfl rfl) (Oc (av bx rfl rfl rfl) (Oc (ay cc rfl (List.length_map _)) (Oc om ?_)))
   refine ae.ak ⟨[(1,_),(30,.b (.one (.sl 1 (r0.Home.map eI)))),(31,I (r0.Home.length:Int)),(32,I 0)],[(101,_)]⟩ rfl (ab.block (ab.ct h15 (fun (x_4:Int)=>⟨[(1,Pt 101 0),(30,.b (.one (.sl 1 (r0.Home.map eI)))),(31,I (r0.Home.length:Int)),(32,I x_4)],[(101,.box 31 (aj r0))]⟩) [1,30,31,32] [101] rfl ?_))
   rintro x_4 o16 h17 hy18
   refine ab.seq (ab.aa ?_)
   refine Oc (bm rfl rfl) (ae.ak ⟨[(1,_),(30,_),(31,_),(32,_),(33,B (decide (x_4 < (r0.Home.length:Int))))],[(101,_)]⟩ rfl (ab.seq (ab.ite h17 rfl (fun _ h17=>?_) (fun _ h17=>?_))))
   ·refine ab.skip (Fin.ah ⟨[(1,_),(30,_),(31,_),(32,_)],[(101,_)]⟩ rfl (Fin.then (ab.seq (ab.block (ab.seq (ab.aa ?_))))))
    refine Oc om ?_
    obtain ⟨x_5,e19,h17⟩:=aR h17
    refine Oc (ar ba (aK e19) (aE (e:=eI) e19) rfl rfl) (Oc (aw aP rfl rfl) (Oc oa (Oc oa ?_)))
    refine ae.ak ⟨[(1,_),(5,I x_4),(6,I x_5),(30,_),(31,_),(32,_)],[(101,_)]⟩ rfl (ab.seq (ab.aa ?_))
    refine Oc om (Oc (ag eV rfl rfl) (Oc (av aP rfl rfl rfl) (Oc (dT rfl rfl) (Oc om ?_))))
    refine iV (decide (x_5 = r0.Me)) [] (fun g20=>trivial) (fun g20=>ag fy rfl rfl) (iV (decide (x_5 = r0.Me)) [42] (fun g21=>⟨g21,trivial⟩) (fun g21=>av dz rfl rfl rfl) (ae.ah ⟨[(1,_),(5,_),(30,_),(31,_),(32,_),(41,B (decide (x_5 = r0.Me))),(43,.opt (decide (x_5 = r0.Me)) (.one (.sl 1 (r0.Results.map eS))))],[(101,_)]⟩ rfl (iV (decide (x_5 = r0.Me)) [] (fun g22=>trivial) (fun g22=>om) ?_)))
    obtain ⟨x_6,e24,h17⟩:=aR h17
    refine iV (decide (x_5 = r0.Me)) [43,44] (fun g23=>⟨g23,g23,trivial⟩) (fun g23=>ar cS (aK (gc e24 g23)) (aE (e:=eS) (gc e24 g23)) rfl rfl) (iV (decide (x_5 = r0.Me)) [45] (fun g25=>⟨g25,trivial⟩) (fun g25=>aw gI rfl rfl) (iV (decide (x_5 = r0.Me)) [46] (fun g26=>⟨g26,trivial⟩) (fun g26=>jY rfl rfl) (Oc (bS (fun e=>e) rfl rfl rfl rfl) (ae.ak ⟨[(1,_),(30,_),(31,_),(32,_),(48,B ((decide (x_5 = r0.Me)) && (decide (x_6 = []))))],[(101,_)]⟩ rfl (ab.ite h17 rfl (fun _ h17=>?_) (fun _ h17=>?_))))))
    ·refine ab.seq (ab.aa ?_)
     refine Oc oa (ae.ak ⟨[(2,B false)],[]⟩ rfl (ab.ret (Fin.aD (Fin.aq ?_))))
     obtain rfl:=hy18 _ (Option.some.inj h17).symm
     refine Fin.aq (Fin.aD (Fin.aq ?_))
     obtain rfl:=Option.some.inj h
     refine Fin.ah ⟨[(2,_)],[]⟩ rfl (Fin.bd [.one (.bool false)] (.inl rfl) rfl (.cons (.tmp rfl) .nil) ⟨rfl,rfl⟩)
    ·refine ab.skip (Fin.ax (Fin.ah ⟨[(1,_),(30,_),(31,_),(32,_)],[(101,_)]⟩ rfl (Fin.then (ab.aa ?_))))
     refine Oc (bq rfl rfl) (Oc om ?_)
     refine ae.nil ?_
     exact Fin.bK [1,30,31,32] [101] (IntKind.i64.wrap (x_4 + 1)) (Option.some.inj h17) rfl
   ·refine ab.exit (Fin.ao ?_)
    obtain rfl:=hy18 _ (Option.some.inj h17).symm
    refine Fin.ao (Fin.aI ?_)
    exact Fin.join [1] [101] () rfl rfl
  ·rintro _ hv
   subst v14
   refine ab.seq (ab.aa ?_)
   refine Oc (ag gX rfl rfl) (Oc (av fc rfl rfl rfl) ?_)
   obtain ⟨x_7,e27,h⟩:=aR h
   refine Oc (aH (fT e27) ux rfl rfl) (Oc (dv rfl) (Oc oa ?_))
   refine ae.ak ⟨[(2,B (!x_7))],[]⟩ rfl (ab.ret ?_)
   obtain rfl:=Option.some.inj h
   refine Fin.ah ⟨[(2,_)],[]⟩ rfl (Fin.bd [.one (.bool (!x_7))] (.inl rfl) rfl (.cons (.tmp rfl) .nil) ⟨rfl,rfl⟩)
def bn (F:Nat):Option Bool :=
 Option.bind (fC F [10,20] 9 20) (eD fun x_1 x_2=>Option.bind (ey F [0,1,2,(-1),1] [[1,0]]) (eD fun x_3 x_4=>Option.bind (cL F 0 2 7 [0,1] [[0,1]] [[97],[]]) (ml fun x_5 x_6 x_7=>Option.bind (cL F 1 2 7 [0,1] [[0,1]] [[],[98]]) (ml fun x_8 x_9 x_10=>bR (((decide (x_7 ≠ 0)) || (decide (x_10 ≠ 0))) || (decide ((x_6.length:Int) ≠ 1))) fun x_11=>if (x_11 || (decide ((x_9.length:Int) ≠ 1))) = true then (some false) else ((aT x_9 0).bind fun x_12=>Option.bind (cD F x_5 x_12) (eD fun x_13 x_14=>(aT x_6 0).bind fun x_15=>Option.bind (cD F x_8 x_15) (eD fun x_16 x_17=>bR ((decide ((x_14.length:Int) ≠ 0)) || (decide ((x_17.length:Int) ≠ 1))) fun x_18=>(aM (!x_18) (aT x_17 0)).bind fun x_19=>(aM (!(x_18 || (decide (x_19.Kind ≠ 2)))) (cY F x_13)).bind fun x_20=>bR ((x_18 || (decide (x_19.Kind ≠ 2))) || (decide ((x_20.length:Int) ≠ 0))) fun x_21=>(aM (!x_21) (cY F x_16)).bind fun x_22=>if (x_21 || (decide ((x_22.length:Int) ≠ 0))) = true then (some false) else ((aT x_17 0).bind fun x_23=>Option.bind (cD F x_13 x_23) (eD fun x_24 x_25=>Option.bind (c8 F x_24 0 [[99],[100]]) (ml fun x_26 x_27 x_28=>(aM (!((decide (x_28 ≠ 0)) || (decide ((x_27.length:Int) ≠ 1)))) (aT x_27 0)).bind fun x_29=>bR (((decide (x_28 ≠ 0)) || (decide ((x_27.length:Int) ≠ 1))) || (decide (x_29.Kind ≠ 3))) fun x_30=>if (x_30 || (decide ((x_25.length:Int) ≠ 0))) = true then (some false) else ((aT x_27 0).bind fun x_31=>Option.bind (cD F x_16 x_31) (eD fun x_32 x_33=>bR (((decide (x_1 = 0)) && (decide (x_2 = 2))) && (decide (x_4 = 0))) fun x_34=>(aM x_34 (bt F x_3 [(⟨0,[0,1],[1]⟩:Task),(⟨2,[2],[]⟩:Task),(⟨1,[4],[]⟩:Task)])).bind fun x_35=>(aM (x_34 && x_35) (cb F x_26)).bind fun x_36=>(aM ((x_34 && x_35) && x_36) (cb F x_32)).bind fun x_37=>(aM (((x_34 && x_35) && x_36) && x_37) (aT x_32.Results 1)).bind fun x_38=>bR ((((x_34 && x_35) && x_36) && x_37) && (decide (x_38 = [100]))) fun x_39=>(aM x_39 (aT x_26.Results 0)).bind fun x_40=>some (x_39 && (decide (x_40 = [99])))))))))))))))
theorem dV {F:Nat} {r:Bool} (h:bn F = some r):aC Try.prog [] 10 [] [] (Is [] (.b (.one (.bool r)))):=by
 unfold bn at h
 refine aC.intro 195 Try.func10 Try.ntmps10 rfl (by simp) fun E=>?_
 show ab _ E ⟨195,[],[],[]⟩ _ ⟨[],[]⟩ _
 refine ab.seq (ab.aa ?_)
 refine Oc oa (ae.ak ⟨[],[]⟩ rfl (ab.seq (ab.aa ?_)))
 refine Oc (aN (k:=101) (es:=[10,20].map eI) ba rfl rfl (bw fun _=>rfl) rfl (by decide) (by decide) rfl) ?_
 obtain ⟨⟨x_1,x_2⟩,e1,h⟩:=aR h
 refine Oc (tv (pS e1) goes36 rfl (tE ⟨CP.tF,CP.tF,trivial⟩)) (Oc om (Oc (aJ rfl rfl) ?_))
 refine ae.ah ⟨[(18,.fa [.one (.i x_1),.one (.i x_2)]),(21,I x_1)],[]⟩ rfl (Oc (aJ rfl rfl) (Oc oa (Oc oa ?_)))
 refine ae.ak ⟨[(1,I x_1),(2,I x_2)],[]⟩ rfl (ab.seq (ab.aa ?_))
 refine Oc (aN (k:=102) (es:=[0,1,2,(-1),1].map eI) ba rfl rfl (bw fun _=>rfl) rfl (by decide) (by decide) rfl) (Oc (aN (k:=103) (es:=[1,0].map eI) ba rfl rfl (bw fun _=>rfl) rfl (by decide) (by decide) rfl) ?_)
 refine ae.br 103 rfl (ae.ah ⟨[(1,I x_1),(2,I x_2),(24,.b (.row 102)),(25,.b (.one (.sl 1 ([1,0].map eI))))],[(102,.row 3 1 ([0,1,2,(-1),1].map eI))]⟩ rfl (Oc (aN (k:=104) (es:=[[1,0]].map (eL 1 eI)) er rfl rfl (bw fun _=>rfl) rfl (by decide) (by decide) rfl) (ae.br 102 rfl (ae.br 104 rfl ?_))))
 obtain ⟨⟨x_3,x_4⟩,e2,h⟩:=aR h
 refine Oc (bJ (pQ 105 e2) goes26 rfl trivial rfl rfl) (ae.ah ⟨[(1,_),(2,_),(27,.fa [.row 105,.one (.i x_4)])],[(105,.row 59 3 (x_3.map an))]⟩ rfl (Oc om (Oc (aJ rfl rfl) (Oc (aJ rfl rfl) (Oc oa (Oc oa ?_))))))
 refine ae.ak ⟨[(1,_),(2,_),(3,.b (.row 105)),(4,I x_4)],[(105,_)]⟩ rfl (ab.seq (ab.aa ?_))
 refine Oc (aN (k:=106) (es:=[0,1].map eI) ba rfl rfl (bw fun _=>rfl) rfl (by decide) (by decide) rfl) (Oc (aN (k:=107) (es:=[1].map eI) ba rfl rfl (bw fun _=>rfl) rfl (by decide) (by decide) rfl) ?_)
 refine ae.br 106 rfl (ae.br 107 rfl (ae.ah ⟨[(1,I x_1),(2,I x_2),(3,.b (.row 105)),(4,I x_4),(30,.b (.one (.sl 1 ([0,1].map eI)))),(31,.b (.one (.sl 1 ([1].map eI))))],[(105,.row 59 3 (x_3.map an))]⟩ rfl (Oc (dM nf rfl rfl) (Oc (aN (k:=108) (es:=[2].map eI) ba rfl rfl (bw fun _=>rfl) rfl (by decide) (by decide) rfl) ?_))))
 refine ae.br 108 rfl (Oc (bp.qd (.same (.same (.sl (size:=1) (by decide) (.nil)))) (dM nf rfl rfl)) (Oc (aN (k:=109) (es:=[4].map eI) ba rfl rfl (bw fun _=>rfl) rfl (by decide) (by decide) rfl) ?_))
 refine ae.br 109 rfl (ae.ah ⟨[(1,I x_1),(2,I x_2),(3,.b (.row 105)),(4,I x_4),(32,.b (.agg [.i 0,.sl 1 ([0,1].map eI),.sl 1 ([1].map eI)])),(34,.b (.agg [.i 2,.sl 1 ([2].map eI),.sl 1 ([].map eI)])),(35,.b (.one (.sl 1 ([4].map eI))))],[(105,.row 59 3 (x_3.map an))]⟩ rfl (Oc (bp.qd (.same (.same (.sl (size:=1) (by decide) (.nil)))) (dM nf rfl rfl)) (Oc (aN (k:=110) (es:=[(⟨0,[0,1],[1]⟩:Task),(⟨2,[2],[]⟩:Task),(⟨1,[4],[]⟩:Task)].map an) gu rfl rfl (bw fun _=>rfl) rfl (by decide) (by decide) rfl) (Oc oa ?_))))
 refine ae.ak ⟨[(1,_),(2,_),(3,_),(4,_),(5,.b (.row 110))],[(105,_),(110,.row 59 3 ([(⟨0,[0,1],[1]⟩:Task),(⟨2,[2],[]⟩:Task),(⟨1,[4],[]⟩:Task)].map an))]⟩ rfl (ab.seq (ab.aa ?_))
 refine Oc (aN (k:=111) (es:=[0,1].map eI) ba rfl rfl (bw fun _=>rfl) rfl (by decide) (by decide) rfl) (Oc oa ?_)
 refine ae.ak ⟨[(1,_),(2,_),(3,_),(4,_),(5,_),(6,.b (.row 111))],[(105,_),(110,_),(111,.row 3 1 ([0,1].map eI))]⟩ rfl (ab.seq (ab.aa ?_))
 refine Oc (aN (k:=112) (es:=[0,1].map eI) ba rfl rfl (bw fun _=>rfl) rfl (by decide) (by decide) rfl) (ae.br 112 rfl (Oc (aN (k:=113) (es:=[[0,1]].map (eL 1 eI)) er rfl rfl (bw fun _=>rfl) rfl (by decide) (by decide) rfl) (Oc oa ?_)))
 refine ae.ak ⟨[(1,I x_1),(2,I x_2),(3,.b (.row 105)),(4,I x_4),(5,.b (.row 110)),(6,.b (.row 111)),(7,.b (.row 113))],[(105,.row 59 3 (x_3.map an)),(110,.row 59 3 ([(⟨0,[0,1],[1]⟩:Task),(⟨2,[2],[]⟩:Task),(⟨1,[4],[]⟩:Task)].map an)),(111,.row 3 1 ([0,1].map eI)),(113,.row 22 1 ([[0,1]].map (eL 1 eI)))]⟩ rfl (ab.seq (ab.aa ?_))
 refine Oc om (Oc om (Oc (aN (k:=114) (es:=[[97],[]].map eS) cS rfl rfl (bw fun _=>rfl) rfl (by decide) (by decide) rfl) ?_))
 refine ae.br 111 rfl (ae.br 113 rfl (ae.br 114 rfl (ae.ah ⟨[(1,I x_1),(2,I x_2),(3,.b (.row 105)),(4,I x_4),(5,.b (.row 110)),(6,.b (.one (.sl 1 ([0,1].map eI)))),(7,.b (.one (.sl 1 ([[0,1]].map (eL 1 eI))))),(42,.b (.one (.sl 1 ([0,1].map eI)))),(43,.b (.one (.sl 1 ([[0,1]].map (eL 1 eI))))),(44,.b (.one (.sl 1 ([[97],[]].map eS))))],[(105,.row 59 3 (x_3.map an)),(110,.row 59 3 ([(⟨0,[0,1],[1]⟩:Task),(⟨2,[2],[]⟩:Task),(⟨1,[4],[]⟩:Task)].map an))]⟩ rfl ?_)))
 obtain ⟨⟨x_5,x_6,x_7⟩,e3,h⟩:=aR h
 refine Oc (bJ (iT 115 e3) uH rfl trivial rfl rfl) (Oc om (Oc (aJ rfl rfl) (Oc (aJ rfl rfl) (Oc (aJ rfl rfl) (Oc (dN (k:=116) ji rfl) ?_)))))
 refine ae.ah ⟨[(1,_),(2,_),(3,_),(4,_),(5,_),(6,_),(7,_),(8,Pt 116 0),(46,.b (.agg (aj x_5))),(47,.b (.row 115)),(48,I x_7)],[(105,_),(110,_),(115,.row 42 7 (x_6.map af)),(116,.box 31 [.i 0,.i 0,.i 0,.nil,.nil,.nil,.nil,.nil,.nil,.nil])]⟩ rfl (Oc (bD aV rfl rfl rfl rfl (Nat.le_of_ble_eq_true rfl) rfl) (Oc oa (Oc oa ?_)))
 refine ae.ak ⟨[(1,_),(2,_),(3,_),(4,_),(5,_),(6,_),(7,_),(8,_),(9,.b (.row 115)),(10,I x_7)],[(105,_),(110,_),(115,_),(116,.box 31 (aj x_5))]⟩ rfl (ab.seq (ab.aa ?_))
 refine Oc om (Oc om (Oc (aN (k:=117) (es:=[[],[98]].map eS) cS rfl rfl (bw fun _=>rfl) rfl (by decide) (by decide) rfl) ?_))
 refine ae.br 117 rfl (ae.ah ⟨[(1,I x_1),(2,I x_2),(3,.b (.row 105)),(4,I x_4),(5,.b (.row 110)),(8,Pt 116 0),(9,.b (.row 115)),(10,I x_7),(50,.b (.one (.sl 1 ([0,1].map eI)))),(51,.b (.one (.sl 1 ([[0,1]].map (eL 1 eI))))),(52,.b (.one (.sl 1 ([[],[98]].map eS))))],[(105,.row 59 3 (x_3.map an)),(110,.row 59 3 ([(⟨0,[0,1],[1]⟩:Task),(⟨2,[2],[]⟩:Task),(⟨1,[4],[]⟩:Task)].map an)),(115,.row 42 7 (x_6.map af)),(116,.box 31 (aj x_5))]⟩ rfl ?_)
 obtain ⟨⟨x_8,x_9,x_10⟩,e4,h⟩:=aR h
 refine Oc (bJ (iT 118 e4) uH rfl trivial rfl rfl) (Oc om (Oc (aJ rfl rfl) (Oc (aJ rfl rfl) (Oc (aJ rfl rfl) (Oc (dN (k:=119) ji rfl) ?_)))))
 refine ae.ah ⟨[(1,_),(2,_),(3,_),(4,_),(5,_),(8,_),(9,_),(10,_),(11,Pt 119 0),(54,.b (.agg (aj x_8))),(55,.b (.row 118)),(56,I x_10)],[(105,_),(110,_),(115,_),(116,_),(118,.row 42 7 (x_9.map af)),(119,.box 31 [.i 0,.i 0,.i 0,.nil,.nil,.nil,.nil,.nil,.nil,.nil])]⟩ rfl (Oc (bD aV rfl rfl rfl rfl (Nat.le_of_ble_eq_true rfl) rfl) (Oc oa (Oc oa ?_)))
 refine ae.ak ⟨[(1,_),(2,_),(3,_),(4,_),(5,_),(8,_),(9,_),(10,_),(11,_),(12,.b (.row 118)),(13,I x_10)],[(105,_),(110,_),(115,_),(116,_),(118,_),(119,.box 31 (aj x_8))]⟩ rfl (ab.seq (ab.seq (ab.aa ?_)))
 refine Oc om (Oc (dg rfl rfl) (Oc om ?_))
 refine cr (!(decide (x_7 ≠ 0))) [] (fun g5=>trivial) (fun g5=>om) (cr (!(decide (x_7 ≠ 0))) [60] (fun g6=>by exact ⟨g6,trivial⟩) (fun g6=>dg rfl rfl) (Oc (aL (fun e=>by first | (rw [e]; rfl) | (simp only at e; rw [e]; rfl)) rfl rfl rfl rfl) (Oc om ?_)))
 refine ae.ah ⟨[(1,_),(2,_),(3,_),(4,_),(5,_),(8,_),(9,_),(11,_),(12,_),(63,B ((decide (x_7 ≠ 0)) || (decide (x_10 ≠ 0))))],[(105,_),(110,_),(115,_),(116,_),(118,_),(119,_)]⟩ rfl (cr (!((decide (x_7 ≠ 0)) || (decide (x_10 ≠ 0)))) [] (fun g7=>trivial) (fun g7=>om) (cr (!((decide (x_7 ≠ 0)) || (decide (x_10 ≠ 0)))) [64] (fun g8=>by exact ⟨g8,trivial⟩) (fun g8=>fA oi rfl rfl (List.length_map _)) (cr (!((decide (x_7 ≠ 0)) || (decide (x_10 ≠ 0)))) [65] (fun g9=>by exact ⟨g9,trivial⟩) (fun g9=>dg rfl rfl) (ae.iC h rfl (aL (fun e=>by first | (rw [e]; rfl) | (simp only at e; rw [e]; rfl)) rfl rfl rfl rfl) (fun x_11 h=>?_)))))
 refine Oc om (cr (!x_11) [] (fun g10=>by exact trivial) (fun g10=>om) (ae.ah ⟨[(1,_),(2,_),(3,_),(4,_),(5,_),(8,_),(9,_),(11,_),(12,_),(68,B x_11),(69,.opt (!x_11) (.row 118))],[(105,_),(110,_),(115,_),(116,_),(118,_),(119,_)]⟩ rfl (cr (!x_11) [69] (fun g11=>by exact ⟨g11,trivial⟩) (fun g11=>fA oi rfl rfl (List.length_map _)) (cr (!x_11) [70] (fun g12=>by exact ⟨g12,trivial⟩) (fun g12=>dg rfl rfl) (Oc (aL (fun e=>by first | (rw [e]; rfl) | (simp only at e; rw [e]; rfl)) rfl rfl rfl rfl) ?_)))))
 refine ae.ak ⟨[(1,_),(2,_),(3,_),(4,_),(5,_),(8,_),(9,_),(11,_),(12,_),(72,B (x_11 || (decide ((x_9.length:Int) ≠ 1))))],[(105,_),(110,_),(115,_),(116,_),(118,_),(119,_)]⟩ rfl (ab.ite h rfl (fun _ h=>?_) (fun _ h=>?_))
 ·refine ab.seq (ab.aa ?_)
  refine Oc oa (ae.ak ⟨[(0,B false)],[]⟩ rfl (ab.ret (Fin.aq ?_)))
  obtain rfl:=Option.some.inj h
  refine Fin.ah ⟨[(0,_)],[]⟩ rfl (Fin.bd [.one (.bool false)] (.inl rfl) rfl (.cons (.tmp rfl) .nil) ⟨rfl,rfl⟩)
 ·refine ab.skip (Fin.ah ⟨[(1,_),(2,_),(3,_),(4,_),(5,_),(8,_),(9,_),(11,_),(12,_)],[(105,_),(110,_),(115,_),(116,_),(118,_),(119,_)]⟩ rfl (Fin.then (ab.seq ?_)))
  refine ab.ah ⟨[(1,_),(2,_),(3,_),(4,_),(5,_),(8,_),(9,_),(11,_),(12,_)],[(105,_),(110,_),(115,_),(116,_),(118,_),(119,_)]⟩ rfl ?_
  obtain ⟨x_12,e13,h⟩:=aR h
  obtain ⟨⟨x_13,x_14⟩,e14,h⟩:=aR h
  refine ab.ff mixed [false,false,false,false,false,false,false,false,true,false] [.b (.agg (aj x_5)),.b (.row 118),.b (.cG 118 ((0:Int).toNat * 7)),.b (.agg (af x_12)),.fa [.agg (aj x_13),.one (.sl 7 (x_14.map af))],.fa [.agg (aj x_13),.one (.sl 7 (x_14.map af))],.b (.agg (aj x_13)),.b (.one (.sl 7 (x_14.map af))),B true,.b (.one (.sl 7 (x_14.map af)))] [⟨[false,false,false,false,false,false,false,false,false,false],[(1,I x_1),(2,I x_2),(3,.b (.row 105)),(4,I x_4),(5,.b (.row 110)),(8,Pt 116 0),(9,.b (.row 115)),(11,Pt 119 0),(12,.b (.row 118))],[(105,.row 59 3 (x_3.map an)),(110,.row 59 3 ([(⟨0,[0,1],[1]⟩:Task),(⟨2,[2],[]⟩:Task),(⟨1,[4],[]⟩:Task)].map an)),(115,.row 42 7 (x_6.map af)),(116,.box 31 (aj x_5)),(118,.row 42 7 (x_9.map af)),(119,.box 31 (aj x_8))],[true,true,true,true,true,true,true,true,true,true],[],[9]⟩,⟨[false,false,false,false,false,false,false,false,true,false],[(1,I x_1),(2,I x_2),(3,.b (.row 105)),(4,I x_4),(5,.b (.row 110)),(8,Pt 116 0),(9,.b (.row 115)),(11,Pt 119 0),(12,.b (.row 118))],[(105,.row 59 3 (x_3.map an)),(110,.row 59 3 ([(⟨0,[0,1],[1]⟩:Task),(⟨2,[2],[]⟩:Task),(⟨1,[4],[]⟩:Task)].map an)),(115,.row 42 7 (x_6.map af)),(116,.box 31 (aj x_13)),(118,.row 42 7 (x_9.map af)),(119,.box 31 (aj x_8))],[true,true,true,true,true,true,true,true,true,true],[0,1,2,3,4,5,6,8],[]⟩] rfl (⟨by kernel_rfl,⟨⟨.b (.agg (aj x_5)),fun _=>rfl,fun _=>.p (by exact gY aV rfl rfl rfl rfl)⟩,⟨.b (.row 118),fun _=>rfl,fun _=>.p (by exact az rfl)⟩,⟨.b (.cG 118 ((0:Int).toNat * 7)),fun _=>rfl,fun _=>.p (by exact bc eP (aK e13) (cx e13) rfl rfl rfl rfl)⟩,⟨.b (.agg (af x_12)),fun _=>rfl,fun _=>.p (by exact eW (i:=(0:Int).toNat) (f:=0) fH rfl rfl rfl (aE (e:=af) e13) rfl rfl)⟩,⟨.fa [.agg (aj x_13),.one (.sl 7 (x_14.map af))],fun _=>rfl,fun _=>.p (by exact aH (dY 0 e14).iB pg rfl rfl)⟩,⟨.fa [.agg (aj x_13),.one (.sl 7 (x_14.map af))],fun _=>rfl,fun _=>.p (by exact az rfl)⟩,⟨.b (.agg (aj x_13)),fun _=>rfl,fun _=>.p (by exact aJ rfl rfl)⟩,⟨.b (.one (.sl 7 (x_14.map af))),fun _=>rfl,fun _=>.p (by exact aJ rfl rfl)⟩,⟨_,[],.b (.one .any),rfl,(fun e=>by simp at e),rfl,rfl,fun _=>.mc [105,110,115,116,118,119] (by exact .p (by exact bD aV rfl rfl rfl rfl (Nat.le_of_ble_eq_true rfl) rfl)) (by exact rfl)⟩,trivial,trivial⟩,⟨by kernel_rfl,⟨trivial,trivial,trivial,trivial,trivial,trivial,trivial,⟨.b (.one (.sl 7 (x_14.map af))),fun _=>rfl,fun _=>.p (by exact aJ rfl rfl)⟩,trivial,⟨.b (.one (.sl 7 (x_14.map af))),fun _=>rfl,fun _=>.p (by exact cH rfl)⟩,trivial⟩,trivial⟩⟩) rfl rfl rfl [1,2,3,4,5,8,9,11,14] [105,110,115,116,119] (s':=⟨[(1,_),(2,_),(3,_),(4,_),(5,_),(8,_),(9,_),(11,_),(14,.b (.one (.sl 7 (x_14.map af))))],[(105,_),(110,_),(115,_),(116,.box 31 (aj x_13)),(119,_)]⟩) rfl ?_
  refine ab.seq (ab.ah ⟨[(1,_),(2,_),(3,_),(4,_),(5,_),(8,_),(9,_),(11,_),(14,_)],[(105,_),(110,_),(115,_),(116,_),(119,_)]⟩ rfl ?_)
  obtain ⟨x_15,e15,h⟩:=aR h
  obtain ⟨⟨x_16,x_17⟩,e16,h⟩:=aR h
  refine ab.ff mixed [false,false,false,false,false,false,false,false,true,false] [.b (.agg (aj x_8)),.b (.row 115),.b (.cG 115 ((0:Int).toNat * 7)),.b (.agg (af x_15)),.fa [.agg (aj x_16),.one (.sl 7 (x_17.map af))],.fa [.agg (aj x_16),.one (.sl 7 (x_17.map af))],.b (.agg (aj x_16)),.b (.one (.sl 7 (x_17.map af))),B true,.b (.one (.sl 7 (x_17.map af)))] [⟨[false,false,false,false,false,false,false,false,false,false],[(1,I x_1),(2,I x_2),(3,.b (.row 105)),(4,I x_4),(5,.b (.row 110)),(8,Pt 116 0),(9,.b (.row 115)),(11,Pt 119 0),(14,.b (.one (.sl 7 (x_14.map af))))],[(105,.row 59 3 (x_3.map an)),(110,.row 59 3 ([(⟨0,[0,1],[1]⟩:Task),(⟨2,[2],[]⟩:Task),(⟨1,[4],[]⟩:Task)].map an)),(115,.row 42 7 (x_6.map af)),(116,.box 31 (aj x_13)),(119,.box 31 (aj x_8))],[true,true,true,true,true,true,true,true,true,true],[],[9]⟩,⟨[false,false,false,false,false,false,false,false,true,false],[(1,I x_1),(2,I x_2),(3,.b (.row 105)),(4,I x_4),(5,.b (.row 110)),(8,Pt 116 0),(9,.b (.row 115)),(11,Pt 119 0),(14,.b (.one (.sl 7 (x_14.map af))))],[(105,.row 59 3 (x_3.map an)),(110,.row 59 3 ([(⟨0,[0,1],[1]⟩:Task),(⟨2,[2],[]⟩:Task),(⟨1,[4],[]⟩:Task)].map an)),(115,.row 42 7 (x_6.map af)),(116,.box 31 (aj x_13)),(119,.box 31 (aj x_16))],[true,true,true,true,true,true,true,true,true,true],[0,1,2,3,4,5,6,8],[]⟩] rfl (⟨by kernel_rfl,⟨⟨.b (.agg (aj x_8)),fun _=>rfl,fun _=>.p (by exact gY aV rfl rfl rfl rfl)⟩,⟨.b (.row 115),fun _=>rfl,fun _=>.p (by exact az rfl)⟩,⟨.b (.cG 115 ((0:Int).toNat * 7)),fun _=>rfl,fun _=>.p (by exact bc eP (aK e15) (cx e15) rfl rfl rfl rfl)⟩,⟨.b (.agg (af x_15)),fun _=>rfl,fun _=>.p (by exact eW (i:=(0:Int).toNat) (f:=0) fH rfl rfl rfl (aE (e:=af) e15) rfl rfl)⟩,⟨.fa [.agg (aj x_16),.one (.sl 7 (x_17.map af))],fun _=>rfl,fun _=>.p (by exact aH (dY 0 e16).iB pg rfl rfl)⟩,⟨.fa [.agg (aj x_16),.one (.sl 7 (x_17.map af))],fun _=>rfl,fun _=>.p (by exact az rfl)⟩,⟨.b (.agg (aj x_16)),fun _=>rfl,fun _=>.p (by exact aJ rfl rfl)⟩,⟨.b (.one (.sl 7 (x_17.map af))),fun _=>rfl,fun _=>.p (by exact aJ rfl rfl)⟩,⟨_,[],.b (.one .any),rfl,(fun e=>by simp at e),rfl,rfl,fun _=>.mc [105,110,115,116,119] (by exact .p (by exact bD aV rfl rfl rfl rfl (Nat.le_of_ble_eq_true rfl) rfl)) (by exact rfl)⟩,trivial,trivial⟩,⟨by kernel_rfl,⟨trivial,trivial,trivial,trivial,trivial,trivial,trivial,⟨.b (.one (.sl 7 (x_17.map af))),fun _=>rfl,fun _=>.p (by exact aJ rfl rfl)⟩,trivial,⟨.b (.one (.sl 7 (x_17.map af))),fun _=>rfl,fun _=>.p (by exact cH rfl)⟩,trivial⟩,trivial⟩⟩) rfl rfl rfl [1,2,3,4,5,8,11,14,15] [105,110,116,119] (s':=⟨[(1,_),(2,_),(3,_),(4,_),(5,_),(8,_),(11,_),(14,_),(15,.b (.one (.sl 7 (x_17.map af))))],[(105,_),(110,_),(116,_),(119,.box 31 (aj x_16))]⟩) rfl ?_
  refine ab.seq (ab.seq (ab.aa ?_))
  refine Oc om (Oc (ay oi rfl (List.length_map _)) (Oc (dg rfl rfl) (Oc om ?_)))
  refine cr (!(decide ((x_14.length:Int) ≠ 0))) [] (fun g17=>trivial) (fun g17=>om) (ae.ah ⟨[(1,_),(2,_),(3,_),(4,_),(5,_),(8,_),(11,_),(15,_),(92,B (decide ((x_14.length:Int) ≠ 0))),(93,.opt (!(decide ((x_14.length:Int) ≠ 0))) (.one (.sl 7 (x_17.map af))))],[(105,_),(110,_),(116,_),(119,_)]⟩ rfl (cr (!(decide ((x_14.length:Int) ≠ 0))) [93] (fun g18=>by exact ⟨g18,trivial⟩) (fun g18=>ay oi rfl (List.length_map _)) (cr (!(decide ((x_14.length:Int) ≠ 0))) [94] (fun g19=>by exact ⟨g19,trivial⟩) (fun g19=>dg rfl rfl) (ae.iC h rfl (aL (fun e=>by first | (rw [e]; rfl) | (simp only at e; rw [e]; rfl)) rfl rfl rfl rfl) (fun x_18 h=>?_)))))
  refine Oc om (cr (!x_18) [] (fun g20=>by exact trivial) (fun g20=>om) ?_)
  obtain ⟨x_19,e22,h⟩:=aR h
  refine cr (!x_18) [98] (fun g21=>⟨g21,trivial⟩) (fun g21=>ar eP (aK (gc e22 g21)) (aE (e:=af) (gc e22 g21)) rfl rfl) (cr (!x_18) [99] (fun g23=>⟨g23,trivial⟩) (fun g23=>fg pq rfl rfl) (cr (!x_18) [100] (fun g24=>⟨g24,trivial⟩) (fun g24=>aw aP rfl rfl) (ae.ah ⟨[(1,_),(2,_),(3,_),(4,_),(5,_),(8,_),(11,_),(15,_),(97,B x_18),(101,.opt (!x_18) (.one (.i x_19.Kind)))],[(105,_),(110,_),(116,_),(119,_)]⟩ rfl (cr (!x_18) [101] (fun g25=>⟨g25,trivial⟩) (fun g25=>dg rfl rfl) (Oc (aL (fun e=>by first | (rw [e]; rfl) | (simp only at e; rw [e]; rfl)) rfl rfl rfl rfl) (Oc om ?_))))))
  refine cr (!(x_18 || (decide (x_19.Kind ≠ 2)))) [] (fun g26=>trivial) (fun g26=>lp aV) ?_
  obtain ⟨x_20,e28,h⟩:=aR h
  refine cr (!(x_18 || (decide (x_19.Kind ≠ 2)))) [105] (fun g27=>⟨g27,trivial⟩) (fun g27=>aH (iS 0 (gc e28 g27)).iB uE rfl rfl) (ae.ah ⟨[(1,_),(2,_),(3,_),(4,_),(5,_),(8,_),(11,_),(15,_),(104,B (x_18 || (decide (x_19.Kind ≠ 2)))),(106,.opt (!(x_18 || (decide (x_19.Kind ≠ 2)))) (.one (.sl 1 (x_20.map eI))))],[(105,_),(110,_),(116,_),(119,_)]⟩ rfl (cr (!(x_18 || (decide (x_19.Kind ≠ 2)))) [106] (fun g29=>⟨g29,trivial⟩) (fun g29=>ay cc rfl (List.length_map _)) (cr (!(x_18 || (decide (x_19.Kind ≠ 2)))) [107] (fun g30=>⟨g30,trivial⟩) (fun g30=>dg rfl rfl) (ae.iC h rfl (aL (fun e=>by first | (rw [e]; rfl) | (simp only at e; rw [e]; rfl)) rfl rfl rfl rfl) (fun x_21 h=>?_)))))
  refine Oc om (cr (!x_21) [] (fun g31=>by exact trivial) (fun g31=>lp aV) ?_)
  obtain ⟨x_22,e33,h⟩:=aR h
  refine cr (!x_21) [111] (fun g32=>⟨g32,trivial⟩) (fun g32=>aH (iS 0 (gc e33 g32)).iB uE rfl rfl) (ae.ah ⟨[(1,_),(2,_),(3,_),(4,_),(5,_),(8,_),(11,_),(15,_),(110,B x_21),(112,.opt (!x_21) (.one (.sl 1 (x_22.map eI))))],[(105,_),(110,_),(116,_),(119,_)]⟩ rfl (cr (!x_21) [112] (fun g34=>⟨g34,trivial⟩) (fun g34=>ay cc rfl (List.length_map _)) (cr (!x_21) [113] (fun g35=>⟨g35,trivial⟩) (fun g35=>dg rfl rfl) (Oc (aL (fun e=>by first | (rw [e]; rfl) | (simp only at e; rw [e]; rfl)) rfl rfl rfl rfl) (ae.ak ⟨[(1,_),(2,_),(3,_),(4,_),(5,_),(8,_),(11,_),(15,_),(115,B (x_21 || (decide ((x_22.length:Int) ≠ 0))))],[(105,_),(110,_),(116,_),(119,_)]⟩ rfl ?_)))))
  refine ab.ite h rfl (fun _ h=>?_) (fun _ h=>?_)
  ·refine ab.seq (ab.aa ?_)
   refine Oc oa (ae.ak ⟨[(0,B false)],[]⟩ rfl (ab.ret (Fin.aq ?_)))
   obtain rfl:=Option.some.inj h
   refine Fin.ah ⟨[(0,_)],[]⟩ rfl (Fin.bd [.one (.bool false)] (.inl rfl) rfl (.cons (.tmp rfl) .nil) ⟨rfl,rfl⟩)
  ·refine ab.skip (Fin.ah ⟨[(1,_),(2,_),(3,_),(4,_),(5,_),(8,_),(11,_),(15,_)],[(105,_),(110,_),(116,_),(119,_)]⟩ rfl (Fin.then (ab.seq ?_)))
   refine ab.ah ⟨[(1,_),(2,_),(3,_),(4,_),(5,_),(8,_),(11,_),(15,_)],[(105,_),(110,_),(116,_),(119,_)]⟩ rfl ?_
   obtain ⟨x_23,e36,h⟩:=aR h
   obtain ⟨⟨x_24,x_25⟩,e37,h⟩:=aR h
   refine ab.ff mixed [false,false,false,false,false,false,false,false,true,false] [.b (.agg (aj x_13)),.b (.one (.sl 7 (x_17.map af))),.b (.dS (af x_23)),.b (.agg (af x_23)),.fa [.agg (aj x_24),.one (.sl 7 (x_25.map af))],.fa [.agg (aj x_24),.one (.sl 7 (x_25.map af))],.b (.agg (aj x_24)),.b (.one (.sl 7 (x_25.map af))),B true,.b (.one (.sl 7 (x_25.map af)))] [⟨[false,false,false,false,false,false,false,false,false,false],[(1,I x_1),(2,I x_2),(3,.b (.row 105)),(4,I x_4),(5,.b (.row 110)),(8,Pt 116 0),(11,Pt 119 0),(15,.b (.one (.sl 7 (x_17.map af))))],[(105,.row 59 3 (x_3.map an)),(110,.row 59 3 ([(⟨0,[0,1],[1]⟩:Task),(⟨2,[2],[]⟩:Task),(⟨1,[4],[]⟩:Task)].map an)),(116,.box 31 (aj x_13)),(119,.box 31 (aj x_16))],[true,true,true,true,true,true,true,true,true,true],[],[9]⟩,⟨[false,false,false,false,false,false,false,false,true,false],[(1,I x_1),(2,I x_2),(3,.b (.row 105)),(4,I x_4),(5,.b (.row 110)),(8,Pt 116 0),(11,Pt 119 0),(15,.b (.one (.sl 7 (x_17.map af))))],[(105,.row 59 3 (x_3.map an)),(110,.row 59 3 ([(⟨0,[0,1],[1]⟩:Task),(⟨2,[2],[]⟩:Task),(⟨1,[4],[]⟩:Task)].map an)),(116,.box 31 (aj x_24)),(119,.box 31 (aj x_16))],[true,true,true,true,true,true,true,true,true,true],[0,1,2,3,4,5,6,8],[]⟩] rfl (⟨by kernel_rfl,⟨⟨.b (.agg (aj x_13)),fun _=>rfl,fun _=>.p (by exact gY aV rfl rfl rfl rfl)⟩,⟨.b (.one (.sl 7 (x_17.map af))),fun _=>rfl,fun _=>.p (by exact az rfl)⟩,⟨.b (.dS (af x_23)),fun _=>rfl,fun _=>.p (by exact ar eP (aK e36) (aE (e:=af) e36) rfl rfl)⟩,⟨.b (.agg (af x_23)),fun _=>rfl,fun _=>.p (by exact jH fH rfl rfl rfl)⟩,⟨.fa [.agg (aj x_24),.one (.sl 7 (x_25.map af))],fun _=>rfl,fun _=>.p (by exact aH (dY 0 e37).iB pg rfl rfl)⟩,⟨.fa [.agg (aj x_24),.one (.sl 7 (x_25.map af))],fun _=>rfl,fun _=>.p (by exact az rfl)⟩,⟨.b (.agg (aj x_24)),fun _=>rfl,fun _=>.p (by exact aJ rfl rfl)⟩,⟨.b (.one (.sl 7 (x_25.map af))),fun _=>rfl,fun _=>.p (by exact aJ rfl rfl)⟩,⟨_,[],.b (.one .any),rfl,(fun e=>by simp at e),rfl,rfl,fun _=>.mc [105,110,116,119] (by exact .p (by exact bD aV rfl rfl rfl rfl (Nat.le_of_ble_eq_true rfl) rfl)) (by exact rfl)⟩,trivial,trivial⟩,⟨by kernel_rfl,⟨trivial,trivial,trivial,trivial,trivial,trivial,trivial,⟨.b (.one (.sl 7 (x_25.map af))),fun _=>rfl,fun _=>.p (by exact aJ rfl rfl)⟩,trivial,⟨.b (.one (.sl 7 (x_25.map af))),fun _=>rfl,fun _=>.p (by exact cH rfl)⟩,trivial⟩,trivial⟩⟩) rfl rfl rfl [1,2,3,4,5,8,11,14] [105,110,116,119] (s':=⟨[(1,_),(2,_),(3,_),(4,_),(5,_),(8,_),(11,_),(14,.b (.one (.sl 7 (x_25.map af))))],[(105,_),(110,_),(116,.box 31 (aj x_24)),(119,_)]⟩) rfl ?_
   refine ab.seq (ab.aa ?_)
   refine Oc (lp aV) (Oc (aN (k:=125) (es:=[[99],[100]].map eS) cS rfl rfl (bw fun _=>rfl) rfl (by decide) (by decide) rfl) ?_)
   refine ae.br 125 rfl (ae.ah ⟨[(1,I x_1),(2,I x_2),(3,.b (.row 105)),(4,I x_4),(5,.b (.row 110)),(8,Pt 116 0),(11,Pt 119 0),(14,.b (.one (.sl 7 (x_25.map af)))),(125,.b (.agg (aj x_24))),(126,.b (.one (.sl 1 ([[99],[100]].map eS))))],[(105,.row 59 3 (x_3.map an)),(110,.row 59 3 ([(⟨0,[0,1],[1]⟩:Task),(⟨2,[2],[]⟩:Task),(⟨1,[4],[]⟩:Task)].map an)),(116,.box 31 (aj x_24)),(119,.box 31 (aj x_16))]⟩ rfl ?_)
   obtain ⟨⟨x_26,x_27,x_28⟩,e38,h⟩:=aR h
   refine Oc (bJ (iy 126 e38) uG rfl trivial rfl rfl) (Oc om (Oc (aJ rfl rfl) (Oc (aJ rfl rfl) (Oc (aJ rfl rfl) (Oc (bD aV rfl rfl rfl rfl (Nat.le_of_ble_eq_true rfl) rfl) ?_)))))
   refine Oc oa (Oc oa ?_)
   refine ae.ak ⟨[(1,_),(2,_),(3,_),(4,_),(5,_),(8,_),(11,_),(14,_),(16,.b (.row 126)),(17,I x_28)],[(105,_),(110,_),(116,.box 31 (aj x_26)),(119,_),(126,.row 42 7 (x_27.map af))]⟩ rfl (ab.seq (ab.seq (ab.aa ?_)))
   refine Oc om (Oc (dg rfl rfl) (Oc om ?_))
   refine cr (!(decide (x_28 ≠ 0))) [] (fun g39=>trivial) (fun g39=>om) (cr (!(decide (x_28 ≠ 0))) [134] (fun g40=>by exact ⟨g40,trivial⟩) (fun g40=>fA oi rfl rfl (List.length_map _)) (cr (!(decide (x_28 ≠ 0))) [135] (fun g41=>by exact ⟨g41,trivial⟩) (fun g41=>dg rfl rfl) (ae.ah ⟨[(1,_),(2,_),(3,_),(4,_),(5,_),(8,_),(11,_),(14,_),(16,_),(133,B (decide (x_28 ≠ 0))),(136,.opt (!(decide (x_28 ≠ 0))) (.one (.bool (decide ((x_27.length:Int) ≠ 1)))))],[(105,_),(110,_),(116,_),(119,_),(126,_)]⟩ rfl (Oc (aL (fun e=>by first | (rw [e]; rfl) | (simp only at e; rw [e]; rfl)) rfl rfl rfl rfl) (Oc om ?_)))))
   refine cr (!((decide (x_28 ≠ 0)) || (decide ((x_27.length:Int) ≠ 1)))) [] (fun g42=>trivial) (fun g42=>om) ?_
   obtain ⟨x_29,e44,h⟩:=aR h
   refine cr (!((decide (x_28 ≠ 0)) || (decide ((x_27.length:Int) ≠ 1)))) [139] (fun g43=>⟨g43,trivial⟩) (fun g43=>bc eP (aK (gc e44 g43)) (cx (gc e44 g43)) rfl rfl rfl rfl) (cr (!((decide (x_28 ≠ 0)) || (decide ((x_27.length:Int) ≠ 1)))) [140] (fun g45=>⟨g45,trivial⟩) (fun g45=>gO pq rfl rfl) (cr (!((decide (x_28 ≠ 0)) || (decide ((x_27.length:Int) ≠ 1)))) [141] (fun g46=>⟨g46,trivial⟩) (fun g46=>c6 (i:=(0:Int).toNat) (f:=0) aP rfl rfl rfl (aE (e:=af) (gc e44 g46)) rfl) (cr (!((decide (x_28 ≠ 0)) || (decide ((x_27.length:Int) ≠ 1)))) [142] (fun g47=>⟨g47,trivial⟩) (fun g47=>dg rfl rfl) (ae.iC h rfl (aL (fun e=>by first | (rw [e]; rfl) | (simp only at e; rw [e]; rfl)) rfl rfl rfl rfl) (fun x_30 h=>?_)))))
   refine ae.ah ⟨[(1,_),(2,_),(3,_),(4,_),(5,_),(8,_),(11,_),(14,_),(16,_),(144,B x_30)],[(105,_),(110,_),(116,_),(119,_),(126,_)]⟩ rfl (Oc om (cr (!x_30) [] (fun g48=>by exact trivial) (fun g48=>om) (cr (!x_30) [146] (fun g49=>by exact ⟨g49,trivial⟩) (fun g49=>ay oi rfl (List.length_map _)) (cr (!x_30) [147] (fun g50=>by exact ⟨g50,trivial⟩) (fun g50=>dg rfl rfl) (Oc (aL (fun e=>by first | (rw [e]; rfl) | (simp only at e; rw [e]; rfl)) rfl rfl rfl rfl) ?_)))))
   refine ae.ak ⟨[(1,_),(2,_),(3,_),(4,_),(5,_),(8,_),(11,_),(16,_),(149,B (x_30 || (decide ((x_25.length:Int) ≠ 0))))],[(105,_),(110,_),(116,_),(119,_),(126,_)]⟩ rfl (ab.ite h rfl (fun _ h=>?_) (fun _ h=>?_))
   ·refine ab.seq (ab.aa ?_)
    refine Oc oa (ae.ak ⟨[(0,B false)],[]⟩ rfl (ab.ret (Fin.aq ?_)))
    obtain rfl:=Option.some.inj h
    refine Fin.ah ⟨[(0,_)],[]⟩ rfl (Fin.bd [.one (.bool false)] (.inl rfl) rfl (.cons (.tmp rfl) .nil) ⟨rfl,rfl⟩)
   ·refine ab.skip (Fin.ah ⟨[(1,_),(2,_),(3,_),(4,_),(5,_),(8,_),(11,_),(16,_)],[(105,_),(110,_),(116,_),(119,_),(126,_)]⟩ rfl (Fin.then (ab.seq ?_)))
    refine ab.ah ⟨[(1,_),(2,_),(3,_),(4,_),(5,_),(8,_),(11,_),(16,_)],[(105,_),(110,_),(116,_),(119,_),(126,_)]⟩ rfl ?_
    obtain ⟨x_31,e51,h⟩:=aR h
    obtain ⟨⟨x_32,x_33⟩,e52,h⟩:=aR h
    refine ab.ff mixed [false,false,false,false,false,false,false,false,true] [.b (.agg (aj x_16)),.b (.row 126),.b (.cG 126 ((0:Int).toNat * 7)),.b (.agg (af x_31)),.fa [.agg (aj x_32),.one (.sl 7 (x_33.map af))],.fa [.agg (aj x_32),.one (.sl 7 (x_33.map af))],.b (.agg (aj x_32)),.b (.one (.sl 7 (x_33.map af))),B true] [⟨[false,false,false,false,false,false,false,false,false],[(1,I x_1),(2,I x_2),(3,.b (.row 105)),(4,I x_4),(5,.b (.row 110)),(8,Pt 116 0),(11,Pt 119 0),(16,.b (.row 126))],[(105,.row 59 3 (x_3.map an)),(110,.row 59 3 ([(⟨0,[0,1],[1]⟩:Task),(⟨2,[2],[]⟩:Task),(⟨1,[4],[]⟩:Task)].map an)),(116,.box 31 (aj x_26)),(119,.box 31 (aj x_16)),(126,.row 42 7 (x_27.map af))],[true,true,true,true,true,true,true,true,true],[],[]⟩,⟨[false,false,false,false,false,false,false,false,true],[(1,I x_1),(2,I x_2),(3,.b (.row 105)),(4,I x_4),(5,.b (.row 110)),(8,Pt 116 0),(11,Pt 119 0),(16,.b (.row 126))],[(105,.row 59 3 (x_3.map an)),(110,.row 59 3 ([(⟨0,[0,1],[1]⟩:Task),(⟨2,[2],[]⟩:Task),(⟨1,[4],[]⟩:Task)].map an)),(116,.box 31 (aj x_26)),(119,.box 31 (aj x_32)),(126,.row 42 7 (x_27.map af))],[true,true,true,true,true,true,true,true,true],[0,1,2,3,4,5,6,8],[]⟩] rfl (⟨by kernel_rfl,⟨⟨.b (.agg (aj x_16)),fun _=>rfl,fun _=>.p (by exact gY aV rfl rfl rfl rfl)⟩,⟨.b (.row 126),fun _=>rfl,fun _=>.p (by exact az rfl)⟩,⟨.b (.cG 126 ((0:Int).toNat * 7)),fun _=>rfl,fun _=>.p (by exact bc eP (aK e51) (cx e51) rfl rfl rfl rfl)⟩,⟨.b (.agg (af x_31)),fun _=>rfl,fun _=>.p (by exact eW (i:=(0:Int).toNat) (f:=0) fH rfl rfl rfl (aE (e:=af) e51) rfl rfl)⟩,⟨.fa [.agg (aj x_32),.one (.sl 7 (x_33.map af))],fun _=>rfl,fun _=>.p (by exact aH (dY 0 e52).iB pg rfl rfl)⟩,⟨.fa [.agg (aj x_32),.one (.sl 7 (x_33.map af))],fun _=>rfl,fun _=>.p (by exact az rfl)⟩,⟨.b (.agg (aj x_32)),fun _=>rfl,fun _=>.p (by exact aJ rfl rfl)⟩,⟨.b (.one (.sl 7 (x_33.map af))),fun _=>rfl,fun _=>.p (by exact aJ rfl rfl)⟩,⟨_,[],.b (.one .any),rfl,(fun e=>by simp at e),rfl,rfl,fun _=>.mc [105,110,116,119,126] (by exact .p (by exact bD aV rfl rfl rfl rfl (Nat.le_of_ble_eq_true rfl) rfl)) (by exact rfl)⟩,trivial⟩,⟨by kernel_rfl,⟨trivial,trivial,trivial,trivial,trivial,trivial,trivial,⟨.b (.one (.sl 7 (x_33.map af))),fun _=>rfl,fun _=>.p (by exact aJ rfl rfl)⟩,trivial,trivial⟩,trivial⟩⟩) rfl rfl rfl [1,2,3,4,5,8,11] [105,110,116,119] (s':=⟨[(1,_),(2,_),(3,_),(4,_),(5,_),(8,_),(11,_)],[(105,_),(110,_),(116,_),(119,.box 31 (aj x_32))]⟩) rfl ?_
    refine ab.seq (ab.aa ?_)
    refine Oc om (Oc (dT rfl rfl) (Oc om ?_))
    refine iV (decide (x_1 = 0)) [] (fun g53=>trivial) (fun g53=>om) (iV (decide (x_1 = 0)) [161] (fun g54=>by exact ⟨g54,trivial⟩) (fun g54=>dT rfl rfl) (Oc (bS (fun e=>e) rfl rfl rfl rfl) (Oc om ?_)))
    refine ae.ah ⟨[(3,_),(4,_),(5,_),(8,_),(11,_),(164,B ((decide (x_1 = 0)) && (decide (x_2 = 2))))],[(105,_),(110,_),(116,_),(119,_)]⟩ rfl (iV ((decide (x_1 = 0)) && (decide (x_2 = 2))) [] (fun g55=>trivial) (fun g55=>om) (iV ((decide (x_1 = 0)) && (decide (x_2 = 2))) [165] (fun g56=>by exact ⟨g56,trivial⟩) (fun g56=>dT rfl rfl) (ae.iC h rfl (bS (fun e=>e) rfl rfl rfl rfl) (fun x_34 h=>?_))))
    refine Oc om (iV x_34 [] (fun g57=>by exact trivial) (fun g57=>om) (iV x_34 [] (fun g58=>by exact trivial) (fun g58=>om) (ae.ah ⟨[(8,_),(11,_),(168,B x_34),(169,.opt x_34 (.row 105)),(170,.opt x_34 (.row 110))],[(105,_),(110,_),(116,_),(119,_)]⟩ rfl ?_)))
    obtain ⟨x_35,e60,h⟩:=aR h
    refine iV x_34 [169,170] (fun g59=>⟨g59,g59,trivial⟩) (fun g59=>tv (fq (gc e60 g59)) xQ rfl CP.wT) (Oc (bS (fun e=>e) rfl rfl rfl rfl) (Oc om ?_))
    refine iV (x_34 && x_35) [] (fun g61=>trivial) (fun g61=>lp aV) ?_
    obtain ⟨x_36,e63,h⟩:=aR h
    refine iV (x_34 && x_35) [174] (fun g62=>⟨g62,trivial⟩) (fun g62=>aH (gx (gc e63 g62)) uD rfl rfl) (Oc (bS (fun e=>e) rfl rfl rfl rfl) (ae.ah ⟨[(8,_),(11,_),(176,B ((x_34 && x_35) && x_36))],[(116,_),(119,_)]⟩ rfl (Oc om (iV ((x_34 && x_35) && x_36) [] (fun g64=>by exact trivial) (fun g64=>lp aV) ?_))))
    obtain ⟨x_37,e66,h⟩:=aR h
    refine iV ((x_34 && x_35) && x_36) [178] (fun g65=>⟨g65,trivial⟩) (fun g65=>aH (gx (gc e66 g65)) uD rfl rfl) (Oc (bS (fun e=>e) rfl rfl rfl rfl) (Oc om ?_))
    refine iV (((x_34 && x_35) && x_36) && x_37) [] (fun g67=>trivial) (fun g67=>ag fy rfl rfl) (ae.ah ⟨[(8,_),(181,B (((x_34 && x_35) && x_36) && x_37)),(182,.opt (((x_34 && x_35) && x_36) && x_37) (.ptr 119 9))],[(116,_),(119,_)]⟩ rfl (iV (((x_34 && x_35) && x_36) && x_37) [182] (fun g68=>⟨g68,trivial⟩) (fun g68=>av dz rfl rfl rfl) ?_))
    obtain ⟨x_38,e70,h⟩:=aR h
    refine iV (((x_34 && x_35) && x_36) && x_37) [183] (fun g69=>⟨g69,trivial⟩) (fun g69=>ar cS (aK (gc e70 g69)) (aE (e:=eS) (gc e70 g69)) rfl rfl) (iV (((x_34 && x_35) && x_36) && x_37) [184] (fun g71=>⟨g71,trivial⟩) (fun g71=>aw gI rfl rfl) (iV (((x_34 && x_35) && x_36) && x_37) [185] (fun g72=>⟨g72,trivial⟩) (fun g72=>jY rfl rfl) (ae.iC h rfl (bS (fun e=>e) rfl rfl rfl rfl) (fun x_39 h=>?_))))
    refine Oc om (iV x_39 [] (fun g73=>by exact trivial) (fun g73=>ag fy rfl rfl) (iV x_39 [189] (fun g74=>by exact ⟨g74,trivial⟩) (fun g74=>av dz rfl rfl rfl) (ae.ah ⟨[(188,B x_39),(190,.opt x_39 (.one (.sl 1 (x_26.Results.map eS))))],[]⟩ rfl ?_)))
    obtain ⟨x_40,e76,h⟩:=aR h
    refine iV x_39 [190] (fun g75=>⟨g75,trivial⟩) (fun g75=>ar cS (aK (gc e76 g75)) (aE (e:=eS) (gc e76 g75)) rfl rfl) (iV x_39 [191] (fun g77=>⟨g77,trivial⟩) (fun g77=>aw gI rfl rfl) (iV x_39 [192] (fun g78=>⟨g78,trivial⟩) (fun g78=>jY rfl rfl) (Oc (bS (fun e=>e) rfl rfl rfl rfl) (Oc oa ?_))))
    refine ae.ak ⟨[(0,B (x_39 && (decide (x_40 = [99]))))],[]⟩ rfl (ab.ret ?_)
    obtain rfl:=Option.some.inj h
    refine Fin.ah ⟨[(0,_)],[]⟩ rfl (Fin.bd [.one (.bool (x_39 && (decide (x_40 = [99]))))] (.inl rfl) rfl (.cons (.tmp rfl) .nil) ⟨rfl,rfl⟩)
def bW (F:Nat) (home0:List Int) (regions0:Int):Option Bool :=
 if (decide (401 < (home0.length:Int))) = true then (some false) else (Option.bind (iter F (fun i_1=>if (decide (i_1 < (home0.length:Int))) = true then ((aT home0 i_1).bind fun x_2=>(aM (!(decide (x_2 < (-1)))) (aT home0 i_1)).bind fun x_3=>if ((decide (x_2 < (-1))) || (decide (regions0 ≤ x_3))) = true then (some (.inr (.inr false))) else (some (.inl (IntKind.i64.wrap (i_1 + 1))))) else (some (.inr (.inl ())))) 0) (bH (fun _=>some true) (fun y=>some y)))
theorem kv {F:Nat} {home0:List Int} {regions0:Int} {r:Bool} (h:bW F home0 regions0 = some r):aC Try.prog [] 24 [] [.one (.sl 1 (home0.map eI)),.one (.i regions0)] (Is [] (.b (.one (.bool r)))):=by
 unfold bW at h
 refine aC.intro 28 Try.func24 Try.ntmps24 rfl (by simp) fun E=>?_
 show ab _ E ⟨28,[],[],[]⟩ _ ⟨[(0,.b (.one (.sl 1 (home0.map eI)))),(1,I regions0)],[]⟩ _
 refine ab.seq (ab.aa ?_)
 refine Oc oa (ae.ak ⟨[(0,.b (.one (.sl 1 (home0.map eI)))),(1,I regions0)],[]⟩ rfl (ab.seq (ab.seq (ab.aa ?_))))
 refine Oc om (Oc (ay cc rfl (List.length_map _)) (Oc (jO rfl rfl) ?_))
 refine ae.ak ⟨[(0,_),(1,_),(8,B (decide (401 < (home0.length:Int))))],[]⟩ rfl (ab.ite h rfl (fun _ h=>?_) (fun _ h=>?_))
 ·refine ab.seq (ab.aa ?_)
  refine Oc oa (ae.ak ⟨[(4,B false)],[]⟩ rfl (ab.ret (Fin.aq ?_)))
  obtain rfl:=Option.some.inj h
  refine Fin.ah ⟨[(4,_)],[]⟩ rfl (Fin.bd [.one (.bool false)] (.inl rfl) rfl (.cons (.tmp rfl) .nil) ⟨rfl,rfl⟩)
 ·refine ab.skip (Fin.ah ⟨[(0,_),(1,_)],[]⟩ rfl (Fin.then ?_))
  obtain ⟨v1,h2,h⟩:=aR h
  refine ab.cJ (v:=v1) (fun (_:Unit)=>⟨[],[]⟩) (fun z=>.inl z) ?_ ?_
  ·refine ab.seq (ab.aa ?_)
   refine Oc oa (ae.ak ⟨[(0,_),(1,_),(5,I 0)],[]⟩ rfl (ab.block (ab.ct h2 (fun (i_1:Int)=>⟨[(0,.b (.one (.sl 1 (home0.map eI)))),(1,I regions0),(5,I i_1)],[]⟩) [0,1,5] [] rfl ?_)))
   rintro i_1 o3 h4 hy5
   refine ab.seq (ab.seq (ab.aa ?_))
   refine Oc om (Oc om (Oc (ay cc rfl (List.length_map _)) (Oc (bm rfl rfl) ?_)))
   refine ae.ak ⟨[(0,_),(1,_),(5,_),(12,B (decide (i_1 < (home0.length:Int))))],[]⟩ rfl (ab.ite h4 rfl (fun _ h4=>?_) (fun _ h4=>?_))
   ·refine ab.skip (Fin.ah ⟨[(0,_),(1,_),(5,_)],[]⟩ rfl (Fin.then (ab.seq (ab.block (ab.seq (ab.aa ?_))))))
    refine Oc om (Oc om ?_)
    obtain ⟨x_2,e6,h4⟩:=aR h4
    refine Oc (ar ba (aK e6) (aE (e:=eI) e6) rfl rfl) (Oc (aw aP rfl rfl) (Oc (bm rfl rfl) (Oc om ?_)))
    refine cr (!(decide (x_2 < (-1)))) [] (fun g7=>trivial) (fun g7=>om) (ae.ah ⟨[(0,_),(1,_),(5,_),(20,B (decide (x_2 < (-1)))),(21,.opt (!(decide (x_2 < (-1)))) (.one (.sl 1 (home0.map eI))))],[]⟩ rfl (cr (!(decide (x_2 < (-1)))) [] (fun g8=>by exact trivial) (fun g8=>om) ?_))
    obtain ⟨x_3,e10,h4⟩:=aR h4
    refine cr (!(decide (x_2 < (-1)))) [21,22] (fun g9=>⟨g9,g9,trivial⟩) (fun g9=>ar ba (aK (gc e10 g9)) (aE (e:=eI) (gc e10 g9)) rfl rfl) (cr (!(decide (x_2 < (-1)))) [23] (fun g11=>⟨g11,trivial⟩) (fun g11=>aw aP rfl rfl) (cr (!(decide (x_2 < (-1)))) [] (fun g12=>trivial) (fun g12=>om) (cr (!(decide (x_2 < (-1)))) [24,25] (fun g13=>by exact ⟨g13,g13,trivial⟩) (fun g13=>fN rfl rfl) (Oc (aL (fun e=>by first | (rw [e]; rfl) | (simp only at e; rw [e]; rfl)) rfl rfl rfl rfl) (ae.ak ⟨[(0,_),(1,_),(5,_),(27,B ((decide (x_2 < (-1))) || (decide (regions0 ≤ x_3))))],[]⟩ rfl ?_)))))
    refine ab.ite h4 rfl (fun _ h4=>?_) (fun _ h4=>?_)
    ·refine ab.seq (ab.aa ?_)
     refine Oc oa (ae.ak ⟨[(4,B false)],[]⟩ rfl (ab.ret (Fin.aD (Fin.aq ?_))))
     obtain rfl:=hy5 _ (Option.some.inj h4).symm
     refine Fin.aq (Fin.aD (Fin.aq ?_))
     obtain rfl:=Option.some.inj h
     refine Fin.ah ⟨[(4,_)],[]⟩ rfl (Fin.bd [.one (.bool false)] (.inl rfl) rfl (.cons (.tmp rfl) .nil) ⟨rfl,rfl⟩)
    ·refine ab.skip (Fin.ax (Fin.ah ⟨[(0,_),(1,_),(5,_)],[]⟩ rfl (Fin.then (ab.aa ?_))))
     refine Oc om (Oc (bq rfl rfl) (Oc oa ?_))
     refine ae.nil ?_
     exact Fin.bK [0,1,5] [] (IntKind.i64.wrap (i_1 + 1)) (Option.some.inj h4) rfl
   ·refine ab.exit (Fin.ao ?_)
    obtain rfl:=hy5 _ (Option.some.inj h4).symm
    refine Fin.ao (Fin.aI ?_)
    exact Fin.join [] [] () rfl rfl
  ·rintro _ hv
   subst v1
   refine ab.seq (ab.aa ?_)
   refine Oc oa (ae.ak ⟨[(4,B true)],[]⟩ rfl (ab.ret ?_))
   obtain rfl:=Option.some.inj h
   refine Fin.ah ⟨[(4,_)],[]⟩ rfl (Fin.bd [.one (.bool true)] (.inl rfl) rfl (.cons (.tmp rfl) .nil) ⟨rfl,rfl⟩)
def bV (F:Nat) (home0:List Int) (l0:List Int):Option Bool :=
 Option.bind (iter F (fun i_1=>if (decide (i_1 < (l0.length:Int))) = true then ((aT l0 i_1).bind fun x_2=>(aM (!(decide (x_2 < 0))) (aT l0 i_1)).bind fun x_3=>(aM (!((decide (x_2 < 0)) || (decide ((home0.length:Int) ≤ x_3)))) (aT l0 i_1)).bind fun x_4=>(aM (!((decide (x_2 < 0)) || (decide ((home0.length:Int) ≤ x_3)))) (aT home0 x_4)).bind fun x_5=>bR (((decide (x_2 < 0)) || (decide ((home0.length:Int) ≤ x_3))) || (decide (x_5 < 0))) fun x_6=>if x_6 = true then (some (.inr (.inr false))) else (some (.inl (IntKind.i64.wrap (i_1 + 1))))) else (some (.inr (.inl ())))) 0) (bH (fun _=>some true) (fun y=>some y))
theorem kr {F:Nat} {home0:List Int} {l0:List Int} {r:Bool} (h:bV F home0 l0 = some r):aC Try.prog [] 69 [] [.one (.sl 1 (home0.map eI)),.one (.sl 1 (l0.map eI))] (Is [] (.b (.one (.bool r)))):=by
 unfold bV at h
 refine aC.intro 36 Try.func69 Try.ntmps69 rfl (by simp) fun E=>?_
 show ab _ E ⟨36,[],[],[]⟩ _ ⟨[(0,.b (.one (.sl 1 (home0.map eI)))),(1,.b (.one (.sl 1 (l0.map eI))))],[]⟩ _
 refine ab.seq (ab.aa ?_)
 refine Oc oa (ae.ak ⟨[(0,.b (.one (.sl 1 (home0.map eI)))),(1,.b (.one (.sl 1 (l0.map eI))))],[]⟩ rfl ?_)
 obtain ⟨v1,h2,h⟩:=aR h
 refine ab.cJ (v:=v1) (fun (_:Unit)=>⟨[],[]⟩) (fun z=>.inl z) ?_ ?_
 ·refine ab.seq (ab.aa ?_)
  refine Oc oa (ae.ak ⟨[(0,_),(1,_),(5,I 0)],[]⟩ rfl (ab.block (ab.ct h2 (fun (i_1:Int)=>⟨[(0,.b (.one (.sl 1 (home0.map eI)))),(1,.b (.one (.sl 1 (l0.map eI)))),(5,I i_1)],[]⟩) [0,1,5] [] rfl ?_)))
  rintro i_1 o3 h4 hy5
  refine ab.seq (ab.seq (ab.aa ?_))
  refine Oc om (Oc om (Oc (ay cc rfl (List.length_map _)) (Oc (bm rfl rfl) ?_)))
  refine ae.ak ⟨[(0,_),(1,_),(5,_),(9,B (decide (i_1 < (l0.length:Int))))],[]⟩ rfl (ab.ite h4 rfl (fun _ h4=>?_) (fun _ h4=>?_))
  ·refine ab.skip (Fin.ah ⟨[(0,_),(1,_),(5,_)],[]⟩ rfl (Fin.then (ab.seq (ab.block (ab.seq (ab.aa ?_))))))
   refine Oc om (Oc om ?_)
   obtain ⟨x_2,e6,h4⟩:=aR h4
   refine Oc (ar ba (aK e6) (aE (e:=eI) e6) rfl rfl) (Oc (aw aP rfl rfl) (Oc (bm rfl rfl) (Oc om ?_)))
   refine cr (!(decide (x_2 < 0))) [] (fun g7=>trivial) (fun g7=>om) (ae.ah ⟨[(0,_),(1,_),(5,_),(17,B (decide (x_2 < 0))),(18,.opt (!(decide (x_2 < 0))) (.one (.sl 1 (l0.map eI))))],[]⟩ rfl (cr (!(decide (x_2 < 0))) [] (fun g8=>by exact trivial) (fun g8=>om) ?_))
   obtain ⟨x_3,e10,h4⟩:=aR h4
   refine cr (!(decide (x_2 < 0))) [18,19] (fun g9=>⟨g9,g9,trivial⟩) (fun g9=>ar ba (aK (gc e10 g9)) (aE (e:=eI) (gc e10 g9)) rfl rfl) (cr (!(decide (x_2 < 0))) [20] (fun g11=>⟨g11,trivial⟩) (fun g11=>aw aP rfl rfl) (cr (!(decide (x_2 < 0))) [] (fun g12=>trivial) (fun g12=>om) (cr (!(decide (x_2 < 0))) [22] (fun g13=>by exact ⟨g13,trivial⟩) (fun g13=>ay cc rfl (List.length_map _)) (cr (!(decide (x_2 < 0))) [21,23] (fun g14=>by exact ⟨g14,g14,trivial⟩) (fun g14=>fN rfl rfl) (Oc (aL (fun e=>by first | (rw [e]; rfl) | (simp only at e; rw [e]; rfl)) rfl rfl rfl rfl) ?_)))))
   refine ae.ah ⟨[(0,_),(1,_),(5,_),(25,B ((decide (x_2 < 0)) || (decide ((home0.length:Int) ≤ x_3))))],[]⟩ rfl (Oc om (cr (!((decide (x_2 < 0)) || (decide ((home0.length:Int) ≤ x_3)))) [] (fun g15=>by exact trivial) (fun g15=>om) (cr (!((decide (x_2 < 0)) || (decide ((home0.length:Int) ≤ x_3)))) [] (fun g16=>by exact trivial) (fun g16=>om) (cr (!((decide (x_2 < 0)) || (decide ((home0.length:Int) ≤ x_3)))) [] (fun g17=>by exact trivial) (fun g17=>om) ?_))))
   obtain ⟨x_4,e19,h4⟩:=aR h4
   refine cr (!((decide (x_2 < 0)) || (decide ((home0.length:Int) ≤ x_3)))) [28,29] (fun g18=>⟨g18,g18,trivial⟩) (fun g18=>ar ba (aK (gc e19 g18)) (aE (e:=eI) (gc e19 g18)) rfl rfl) (cr (!((decide (x_2 < 0)) || (decide ((home0.length:Int) ≤ x_3)))) [30] (fun g20=>⟨g20,trivial⟩) (fun g20=>aw aP rfl rfl) ?_)
   obtain ⟨x_5,e22,h4⟩:=aR h4
   refine cr (!((decide (x_2 < 0)) || (decide ((home0.length:Int) ≤ x_3)))) [27,31] (fun g21=>⟨g21,g21,trivial⟩) (fun g21=>ar ba (aK (gc e22 g21)) (aE (e:=eI) (gc e22 g21)) rfl rfl) (cr (!((decide (x_2 < 0)) || (decide ((home0.length:Int) ≤ x_3)))) [32] (fun g23=>⟨g23,trivial⟩) (fun g23=>aw aP rfl rfl) (cr (!((decide (x_2 < 0)) || (decide ((home0.length:Int) ≤ x_3)))) [33] (fun g24=>⟨g24,trivial⟩) (fun g24=>bm rfl rfl) (ae.iC h4 rfl (aL (fun e=>by first | (rw [e]; rfl) | (simp only at e; rw [e]; rfl)) rfl rfl rfl rfl) (fun x_6 h4=>?_))))
   refine ae.ak ⟨[(0,_),(1,_),(5,_),(35,B x_6)],[]⟩ rfl (ab.ite h4 rfl (fun _ h4=>?_) (fun _ h4=>?_))
   ·refine ab.seq (ab.aa ?_)
    refine Oc oa (ae.ak ⟨[(4,B false)],[]⟩ rfl (ab.ret (Fin.aD (Fin.aq ?_))))
    obtain rfl:=hy5 _ (Option.some.inj h4).symm
    refine Fin.aq (Fin.aD (Fin.aq ?_))
    obtain rfl:=Option.some.inj h
    refine Fin.ah ⟨[(4,_)],[]⟩ rfl (Fin.bd [.one (.bool false)] (.inl rfl) rfl (.cons (.tmp rfl) .nil) ⟨rfl,rfl⟩)
   ·refine ab.skip (Fin.ax (Fin.ah ⟨[(0,_),(1,_),(5,_)],[]⟩ rfl (Fin.then (ab.aa ?_))))
    refine Oc om (Oc (bq rfl rfl) (Oc oa ?_))
    refine ae.nil ?_
    exact Fin.bK [0,1,5] [] (IntKind.i64.wrap (i_1 + 1)) (Option.some.inj h4) rfl
  ·refine ab.exit (Fin.ao ?_)
   obtain rfl:=hy5 _ (Option.some.inj h4).symm
   refine Fin.ao (Fin.aI ?_)
   exact Fin.join [] [] () rfl rfl
 ·rintro _ hv
  subst v1
  refine ab.seq (ab.aa ?_)
  refine Oc oa (ae.ak ⟨[(4,B true)],[]⟩ rfl (ab.ret ?_))
  obtain rfl:=Option.some.inj h
  refine Fin.ah ⟨[(4,_)],[]⟩ rfl (Fin.bd [.one (.bool true)] (.inl rfl) rfl (.cons (.tmp rfl) .nil) ⟨rfl,rfl⟩)
def bU (F:Nat) (home0:List Int) (sets0:List (List Int)):Option Bool :=
 Option.bind (iter F (fun i_1=>if (decide (i_1 < (sets0.length:Int))) = true then ((aT sets0 i_1).bind fun x_2=>(bV F home0 x_2).bind fun x_3=>if (!x_3) = true then (some (.inr (.inr false))) else (some (.inl (IntKind.i64.wrap (i_1 + 1))))) else (some (.inr (.inl ())))) 0) (bH (fun _=>some true) (fun y=>some y))
theorem ko {F:Nat} {home0:List Int} {sets0:List (List Int)} {r:Bool} (h:bU F home0 sets0 = some r):aC Try.prog [] 25 [] [.one (.sl 1 (home0.map eI)),.one (.sl 1 (sets0.map (eL 1 eI)))] (Is [] (.b (.one (.bool r)))):=by
 unfold bU at h
 refine aC.intro 19 Try.func25 Try.ntmps25 rfl (by simp) fun E=>?_
 show ab _ E ⟨19,[],[],[]⟩ _ ⟨[(0,.b (.one (.sl 1 (home0.map eI)))),(1,.b (.one (.sl 1 (sets0.map (eL 1 eI)))))],[]⟩ _
 refine ab.seq (ab.aa ?_)
 refine Oc oa (ae.ak ⟨[(0,.b (.one (.sl 1 (home0.map eI)))),(1,.b (.one (.sl 1 (sets0.map (eL 1 eI)))))],[]⟩ rfl ?_)
 obtain ⟨v1,h2,h⟩:=aR h
 refine ab.cJ (v:=v1) (fun (_:Unit)=>⟨[],[]⟩) (fun z=>.inl z) ?_ ?_
 ·refine ab.seq (ab.aa ?_)
  refine Oc oa (ae.ak ⟨[(0,_),(1,_),(5,I 0)],[]⟩ rfl (ab.block (ab.ct h2 (fun (i_1:Int)=>⟨[(0,.b (.one (.sl 1 (home0.map eI)))),(1,.b (.one (.sl 1 (sets0.map (eL 1 eI))))),(5,I i_1)],[]⟩) [0,1,5] [] rfl ?_)))
  rintro i_1 o3 h4 hy5
  refine ab.seq (ab.seq (ab.aa ?_))
  refine Oc om (Oc om (Oc (ay nF rfl (List.length_map _)) (Oc (bm rfl rfl) ?_)))
  refine ae.ak ⟨[(0,_),(1,_),(5,_),(9,B (decide (i_1 < (sets0.length:Int))))],[]⟩ rfl (ab.ite h4 rfl (fun _ h4=>?_) (fun _ h4=>?_))
  ·refine ab.skip (Fin.ah ⟨[(0,_),(1,_),(5,_)],[]⟩ rfl (Fin.then (ab.seq (ab.block (ab.seq (ab.aa ?_))))))
   refine Oc om (Oc om (Oc om ?_))
   obtain ⟨x_2,e6,h4⟩:=aR h4
   refine Oc (ar er (aK e6) (aE (e:=(eL 1 eI)) e6) rfl rfl) (Oc (aw bx rfl rfl) ?_)
   obtain ⟨x_3,e7,h4⟩:=aR h4
   refine Oc (aH (kr e7) goes69 rfl rfl) (Oc (dv rfl) ?_)
   refine ae.ak ⟨[(0,_),(1,_),(5,_),(18,B (!x_3))],[]⟩ rfl (ab.ite h4 rfl (fun _ h4=>?_) (fun _ h4=>?_))
   ·refine ab.seq (ab.aa ?_)
    refine Oc oa (ae.ak ⟨[(4,B false)],[]⟩ rfl (ab.ret (Fin.aD (Fin.aq ?_))))
    obtain rfl:=hy5 _ (Option.some.inj h4).symm
    refine Fin.aq (Fin.aD (Fin.aq ?_))
    obtain rfl:=Option.some.inj h
    refine Fin.ah ⟨[(4,_)],[]⟩ rfl (Fin.bd [.one (.bool false)] (.inl rfl) rfl (.cons (.tmp rfl) .nil) ⟨rfl,rfl⟩)
   ·refine ab.skip (Fin.ax (Fin.ah ⟨[(0,_),(1,_),(5,_)],[]⟩ rfl (Fin.then (ab.aa ?_))))
    refine Oc om (Oc (bq rfl rfl) (Oc oa ?_))
    refine ae.nil ?_
    exact Fin.bK [0,1,5] [] (IntKind.i64.wrap (i_1 + 1)) (Option.some.inj h4) rfl
  ·refine ab.exit (Fin.ao ?_)
   obtain rfl:=hy5 _ (Option.some.inj h4).symm
   refine Fin.ao (Fin.aI ?_)
   exact Fin.join [] [] () rfl rfl
 ·rintro _ hv
  subst v1
  refine ab.seq (ab.aa ?_)
  refine Oc oa (ae.ak ⟨[(4,B true)],[]⟩ rfl (ab.ret ?_))
  obtain rfl:=Option.some.inj h
  refine Fin.ah ⟨[(4,_)],[]⟩ rfl (Fin.bd [.one (.bool true)] (.inl rfl) rfl (.cons (.tmp rfl) .nil) ⟨rfl,rfl⟩)
def eG (F:Nat) (l0:List Int) (n0:Int):Option Bool :=
 Option.bind (iter F (fun i_1=>if (decide (i_1 < (l0.length:Int))) = true then ((aT l0 i_1).bind fun x_2=>if (decide (x_2 = n0)) = true then (some (.inr (.inr true))) else (some (.inl (IntKind.i64.wrap (i_1 + 1))))) else (some (.inr (.inl ())))) 0) (bH (fun _=>some false) (fun y=>some y))
def fV (F:Nat) (l0:List Int) (n0:Int):Option (List Int) :=
 (eG F l0 n0).bind fun x_1=>if x_1 = true then (some l0) else (Option.bind (iter F (ml fun out_4 placed_5 i_6=>if (decide (i_6 < (l0.length:Int))) = true then (Option.bind (Option.bind ((aM (!placed_5) (aT l0 i_6)).bind fun x_13=>if ((!placed_5) && (decide (n0 < x_13))) = true then ((dF out_4 [n0]).bind fun x_14=>some (x_14,true)) else (some (out_4,placed_5))) (eD fun out_11 placed_12=>(aT l0 i_6).bind fun x_15=>(dF out_11 [x_15]).bind fun x_16=>some (x_16,placed_12))) (eD fun out_9 placed_10=>some (.inl (out_9,placed_10,IntKind.i64.wrap (i_6 + 1))))) else (some (.inr (out_4,placed_5)))) ([],false,0)) (eD fun out_2 placed_3=>Option.bind (if (!placed_3) = true then ((dF out_2 [n0]).bind fun x_18=>some x_18) else (some out_2)) (fun out_17=>some out_17)))
def dQ (F:Nat) (a0:List Int) (b0:List Int):Option (List Int) :=
 Option.bind (iter F (eD fun out_2 i_3=>if (decide (i_3 < (b0.length:Int))) = true then ((aT b0 i_3).bind fun x_5=>(fV F out_2 x_5).bind fun x_6=>some (.inl (x_6,IntKind.i64.wrap (i_3 + 1)))) else (some (.inr out_2))) (a0,0)) (fun out_1=>some out_1)
def fF (F:Nat) (a0:List Int) (b0:List Int):Option Bool :=
 Option.bind (iter F (fun i_1=>if (decide (i_1 < (a0.length:Int))) = true then ((aT a0 i_1).bind fun x_2=>(eG F b0 x_2).bind fun x_3=>if x_3 = true then (some (.inr (.inr true))) else (some (.inl (IntKind.i64.wrap (i_1 + 1))))) else (some (.inr (.inl ())))) 0) (bH (fun _=>some false) (fun y=>some y))
def gw (F:Nat) (l0:List (List Int)) (x0:List Int):Option (List (List Int)) :=
 Option.bind (iter F (ml fun out_3 placed_4 i_5=>if (decide (i_5 < (l0.length:Int))) = true then (Option.bind (Option.bind ((aM (!placed_4) (aT l0 i_5)).bind fun x_12=>(aM (!placed_4) (aT x_12 0)).bind fun x_13=>(aM (!placed_4) (aT x0 0)).bind fun x_14=>if ((!placed_4) && (decide (x_14 < x_13))) = true then ((dF out_3 [x0]).bind fun x_15=>some (x_15,true)) else (some (out_3,placed_4))) (eD fun out_10 placed_11=>(aT l0 i_5).bind fun x_16=>(dF out_10 [x_16]).bind fun x_17=>some (x_17,placed_11))) (eD fun out_8 placed_9=>some (.inl (out_8,placed_9,IntKind.i64.wrap (i_5 + 1))))) else (some (.inr (out_3,placed_4)))) ([],false,0)) (eD fun out_1 placed_2=>Option.bind (if (!placed_2) = true then ((dF out_1 [x0]).bind fun x_19=>some x_19) else (some out_1)) (fun out_18=>some out_18))
def df (F:Nat) (l0:List (List Int)):Option (List (List Int)) :=
 Option.bind (iter F (eD fun sets_2 i_3=>if (decide (i_3 < (l0.length:Int))) = true then (Option.bind ((aT l0 i_3).bind fun x_6=>(dQ F [] x_6).bind fun x_7=>if (decide ((x_7.length:Int) = 0)) = true then (some sets_2) else (Option.bind (iter F (ml fun x_10 rest_11 k_12=>if (decide (k_12 < (sets_2.length:Int))) = true then (Option.bind ((aT sets_2 k_12).bind fun x_17=>(fF F x_17 x_10).bind fun x_18=>if x_18 = true then ((aT sets_2 k_12).bind fun x_19=>(dQ F x_10 x_19).bind fun x_20=>some (x_20,rest_11)) else ((aT sets_2 k_12).bind fun x_21=>(dF rest_11 [x_21]).bind fun x_22=>some (x_10,x_22))) (eD fun x_15 rest_16=>some (.inl (x_15,rest_16,IntKind.i64.wrap (k_12 + 1))))) else (some (.inr (x_10,rest_11)))) (x_7,[],0)) (eD fun x_8 rest_9=>(dF rest_9 [x_8]).bind fun x_23=>some x_23))) (fun sets_5=>some (.inl (sets_5,IntKind.i64.wrap (i_3 + 1))))) else (some (.inr sets_2))) ([],0)) (fun sets_1=>Option.bind (iter F (eD fun out_25 i_26=>if (decide (i_26 < (sets_1.length:Int))) = true then ((aT sets_1 i_26).bind fun x_28=>(gw F out_25 x_28).bind fun x_29=>some (.inl (x_29,IntKind.i64.wrap (i_26 + 1)))) else (some (.inr out_25))) ([],0)) (fun out_24=>some out_24))
def bu (F:Nat) (b0:Int):Option Str :=
 bR (IntKind.u8.wrap (97 + (IntKind.u8.wrap (Int.tmod b0 26)))) fun x_1=>(te .i64 b0 26).bind fun x_2=>bR (IntKind.u8.wrap (65 + (IntKind.u8.wrap x_2))) fun x_3=>some (toStr [x_1,x_3])
theorem du {F:Nat} {b0:Int} {r:Str} (h:bu F b0 = some r):aC Try.prog [] 28 [] [.one (.i b0)] (Is [] (.b (.one (.str r)))):=by
 unfold bu at h
 refine aC.intro 13 Try.func28 Try.ntmps28 rfl (by simp) fun E=>?_
 show ab _ E ⟨13,[],[],[]⟩ _ ⟨[(0,I b0)],[]⟩ _
 refine ab.seq (ab.aa ?_)
 refine Oc oa (ae.ak ⟨[(0,I b0)],[]⟩ rfl (ab.seq (ab.aa ?_)))
 refine Oc om (Oc (sa (by decide) rfl rfl) (Oc (eo qo rF rfl) ?_))
 refine ae.ti .u8 h rfl (bq rfl rfl) (fun x_1 h=>?_)
 refine Oc om ?_
 obtain ⟨x_2,e1,h⟩:=aR h
 refine Oc (vJ e1 rfl rfl) (Oc (eo qo rF rfl) ?_)
 refine ae.ah ⟨[(6,.b (.one (.int .u8 x_1))),(9,.b (.one (.int .u8 (IntKind.u8.wrap x_2))))],[]⟩ rfl (ae.ti .u8 h rfl (bq rfl rfl) (fun x_3 h=>?_))
 refine Oc (aN (k:=101) (es:=[x_1,x_3].map (eK .u8)) xt rfl rfl (bw fun _=>rfl) rfl (by decide) (by decide) rfl) (ae.br 101 rfl (Oc (ry vt rF und9 rfl) (Oc oa ?_)))
 refine ae.ak ⟨[(2,.b (.one (.str (toStr [x_1,x_3]))))],[]⟩ rfl (ab.ret ?_)
 obtain rfl:=Option.some.inj h
 refine Fin.ah ⟨[(2,_)],[]⟩ rfl (Fin.bd [.one (.str (toStr [x_1,x_3]))] (.inl rfl) rfl (.cons (.tmp rfl) .nil) ⟨rfl,rfl⟩)
def bG (F:Nat) (bodies0:List Int):Option (List Str) :=
 Option.bind (iter F (eD fun all_2 i_3=>if (decide (i_3 < (bodies0.length:Int))) = true then ((aT bodies0 i_3).bind fun x_5=>(bu F x_5).bind fun x_6=>(dF all_2 x_6).bind fun x_7=>some (.inl (x_7,IntKind.i64.wrap (i_3 + 1)))) else (some (.inr all_2))) ([],0)) (fun all_1=>Option.bind (iter F (eD fun out_9 i_10=>if (decide (i_10 < (bodies0.length:Int))) = true then ((aT bodies0 i_10).bind fun x_12=>(bu F x_12).bind fun x_13=>(dF x_13 [58]).bind fun x_14=>(dF x_14 all_1).bind fun x_15=>(dF out_9 [x_15]).bind fun x_16=>some (.inl (x_16,IntKind.i64.wrap (i_10 + 1)))) else (some (.inr out_9))) ([],0)) (fun out_8=>some out_8))
theorem dU (kr0:Nat) {F:Nat} {bodies0:List Int} {r:(List Str)} (h:bG F bodies0 = some r):aC Try.prog [] 29 [] [.one (.sl 1 (bodies0.map eI))] (Is [(kr0,.row 9 1 (r.map eS))] (.b (.row kr0))):=by
 unfold bG at h
 refine aC.intro 38 Try.func29 Try.ntmps29 rfl (by simp) fun E=>?_
 show ab _ E ⟨38,[],[],[]⟩ _ ⟨[(0,.b (.one (.sl 1 (bodies0.map eI))))],[]⟩ _
 refine ab.seq (ab.aa ?_)
 refine Oc oa (ae.ak ⟨[(0,.b (.one (.sl 1 (bodies0.map eI))))],[]⟩ rfl (ab.seq (ab.aa ?_)))
 refine Oc oa (ae.ak ⟨[(0,_),(3,.b (.one (.str [])))],[]⟩ rfl ?_)
 obtain ⟨v1,h2,h⟩:=aR h
 refine ab.cJ (v:=v1) (fun (all_1:Str)=>⟨[(0,.b (.one (.sl 1 (bodies0.map eI)))),(3,.b (.one (.str all_1)))],[]⟩) (fun z=>z) ?_ ?_
 ·refine ab.seq (ab.aa ?_)
  refine Oc oa (ae.ak ⟨[(0,_),(3,_),(4,I 0)],[]⟩ rfl (ab.block (ab.ct h2 (eD fun (all_2:Str) (i_3:Int)=>⟨[(0,.b (.one (.sl 1 (bodies0.map eI)))),(3,.b (.one (.str all_2))),(4,I i_3)],[]⟩) [0,3,4] [] rfl ?_)))
  rintro ⟨all_2,i_3⟩ o3 h4 hy5
  refine ab.seq (ab.seq (ab.aa ?_))
  refine Oc om (Oc om (Oc (ay cc rfl (List.length_map _)) (Oc (bm rfl rfl) ?_)))
  refine ae.ak ⟨[(0,_),(3,_),(4,_),(10,B (decide (i_3 < (bodies0.length:Int))))],[]⟩ rfl (ab.ite h4 rfl (fun _ h4=>?_) (fun _ h4=>?_))
  ·refine ab.skip (Fin.ah ⟨[(0,_),(3,_),(4,_)],[]⟩ rfl (Fin.then (ab.seq (ab.block (ab.aa ?_)))))
   refine Oc om (Oc om (Oc om ?_))
   obtain ⟨x_5,e6,h4⟩:=aR h4
   refine Oc (ar ba (aK e6) (aE (e:=eI) e6) rfl rfl) (Oc (aw aP rfl rfl) ?_)
   refine ae.ah ⟨[(0,_),(3,_),(4,_),(13,.b (.one (.str all_2))),(17,I x_5)],[]⟩ rfl ?_
   obtain ⟨x_6,e7,h4⟩:=aR h4
   refine Oc (aH (du e7) sx rfl rfl) ?_
   obtain ⟨x_7,e8,h4⟩:=aR h4
   refine Oc (mL e8 rfl rfl) (Oc oa ?_)
   refine ae.nil (Fin.ax (Fin.ah ⟨[(0,_),(3,.b (.one (.str x_7))),(4,_)],[]⟩ rfl (Fin.then (ab.aa ?_))))
   refine Oc om (Oc (bq rfl rfl) (Oc oa ?_))
   refine ae.nil ?_
   exact Fin.bK [0,3,4] [] (x_7,IntKind.i64.wrap (i_3 + 1)) (Option.some.inj h4) rfl
  ·refine ab.exit (Fin.ao ?_)
   obtain rfl:=hy5 _ (Option.some.inj h4).symm
   refine Fin.ao (Fin.aI ?_)
   exact Fin.join [0,3] [] all_2 rfl rfl
 ·rintro all_1 hv
  subst v1
  refine ab.seq (ab.aa ?_)
  refine Oc oa (ae.ak ⟨[(0,_),(3,_),(5,.b (.one (.nil)))],[]⟩ rfl ?_)
  obtain ⟨v9,h10,h⟩:=aR h
  refine ab.cJ (v:=v9) (fun (out_8:List Str)=>⟨[(5,.b (.row 102))],[(102,.row 9 1 (out_8.map eS))]⟩) (fun z=>z) ?_ ?_
  ·refine ab.seq (ab.aa ?_)
   refine Oc oa (ae.ak ⟨[(0,_),(3,_),(5,_),(6,I 0)],[]⟩ rfl (ab.block (ab.cT 5 102 1 9 rfl (by decide) rfl (ab.ct h10 (eD fun (out_9:List Str) (i_10:Int)=>⟨[(0,.b (.one (.sl 1 (bodies0.map eI)))),(3,.b (.one (.str all_1))),(5,.b (.row 102)),(6,I i_10)],[(102,.row 9 1 (out_9.map eS))]⟩) [0,3,5,6] [102] rfl ?_))))
   rintro ⟨out_9,i_10⟩ o11 h12 hy13
   refine ab.seq (ab.seq (ab.aa ?_))
   refine Oc om (Oc om (Oc (ay cc rfl (List.length_map _)) (Oc (bm rfl rfl) ?_)))
   refine ae.ak ⟨[(0,_),(3,_),(5,_),(6,_),(23,B (decide (i_10 < (bodies0.length:Int))))],[(102,_)]⟩ rfl (ab.ite h12 rfl (fun _ h12=>?_) (fun _ h12=>?_))
   ·refine ab.skip (Fin.ah ⟨[(0,_),(3,_),(5,_),(6,_)],[(102,_)]⟩ rfl (Fin.then (ab.seq (ab.block (ab.aa ?_)))))
    refine Oc om (Oc om (Oc om ?_))
    obtain ⟨x_12,e14,h12⟩:=aR h12
    refine Oc (ar ba (aK e14) (aE (e:=eI) e14) rfl rfl) (Oc (aw aP rfl rfl) ?_)
    refine ae.ah ⟨[(0,_),(3,_),(5,_),(6,_),(26,.b (.row 102)),(30,I x_12)],[(102,_)]⟩ rfl ?_
    obtain ⟨x_13,e15,h12⟩:=aR h12
    refine Oc (aH (du e15) sx rfl rfl) ?_
    obtain ⟨x_14,e16,h12⟩:=aR h12
    refine Oc (mL e16 rfl rfl) (Oc om ?_)
    obtain ⟨x_15,e17,h12⟩:=aR h12
    refine Oc (mL e17 rfl rfl) (Oc (aN (k:=103) (es:=[x_15].map eS) cS rfl rfl (bw fun _=>rfl) rfl (by decide) (by decide) rfl) ?_)
    obtain ⟨x_16,e18,h12⟩:=aR h12
    refine Oc (dx cS (gn e18) (gm e18) rfl rfl rfl rfl (dt e18) rfl) (Oc oa ?_)
    refine ae.nil (Fin.ax (Fin.ah ⟨[(0,_),(3,_),(5,_),(6,_)],[(102,.row 9 1 (x_16.map eS))]⟩ rfl (Fin.then (ab.aa ?_))))
    refine Oc om (Oc (bq rfl rfl) (Oc oa ?_))
    refine ae.nil ?_
    exact Fin.bK [0,3,5,6] [102] (x_16,IntKind.i64.wrap (i_10 + 1)) (Option.some.inj h12) rfl
   ·refine ab.exit (Fin.ao ?_)
    obtain rfl:=hy13 _ (Option.some.inj h12).symm
    refine Fin.ao (Fin.aI ?_)
    exact Fin.join [5] [102] out_9 rfl rfl
  ·rintro out_8 hv
   subst v9
   refine ab.seq (ab.aa ?_)
   refine Oc om (Oc oa ?_)
   refine ae.ak ⟨[(2,.b (.row 102))],[(102,_)]⟩ rfl (ab.ret ?_)
   obtain rfl:=Option.some.inj h
   refine Fin.ah ⟨[(2,_)],[(102,_)]⟩ rfl (Fin.dr 102 kr0 [.row 102] (.inl rfl) rfl (.cons (.tmp rfl) .nil) rfl rfl rfl rfl ⟨rfl,rfl⟩)
def bL (F:Nat) (r0:Round) (bodies0:List Int):Option Bool :=
 Option.bind (iter F (fun i_1=>if (decide (i_1 < (bodies0.length:Int))) = true then ((aT bodies0 i_1).bind fun x_2=>(aT r0.States x_2).bind fun x_3=>(aT bodies0 i_1).bind fun x_4=>(bu F x_4).bind fun x_5=>if (decide (x_3 ≠ x_5)) = true then (some (.inr (.inr false))) else (some (.inl (IntKind.i64.wrap (i_1 + 1))))) else (some (.inr (.inl ())))) 0) (bH (fun _=>some true) (fun y=>some y))
theorem kY {F:Nat} {r0:Round} {bodies0:List Int} {r:Bool} (h:bL F r0 bodies0 = some r):aC Try.prog [] 30 [] [.agg (aj r0),.one (.sl 1 (bodies0.map eI))] (Is [] (.b (.one (.bool r)))):=by
 unfold bL at h
 refine aC.intro 26 Try.func30 Try.ntmps30 rfl (by simp) fun E=>?_
 show ab _ E ⟨26,[],[],[]⟩ _ ⟨[(0,.b (.agg (aj r0))),(1,.b (.one (.sl 1 (bodies0.map eI))))],[]⟩ _
 refine ab.seq (ab.aa ?_)
 refine Oc (gK (k:=101) rfl rfl) (Oc oa ?_)
 refine ae.ak ⟨[(1,.b (.one (.sl 1 (bodies0.map eI)))),(2,Pt 101 0)],[(101,.box 31 (aj r0))]⟩ rfl ?_
 obtain ⟨v1,h2,h⟩:=aR h
 refine ab.cJ (v:=v1) (fun (_:Unit)=>⟨[],[]⟩) (fun z=>.inl z) ?_ ?_
 ·refine ab.seq (ab.aa ?_)
  refine Oc oa (ae.ak ⟨[(1,_),(2,_),(5,I 0)],[(101,_)]⟩ rfl (ab.block (ab.ct h2 (fun (i_1:Int)=>⟨[(1,.b (.one (.sl 1 (bodies0.map eI)))),(2,Pt 101 0),(5,I i_1)],[(101,.box 31 (aj r0))]⟩) [1,2,5] [101] rfl ?_)))
  rintro i_1 o3 h4 hy5
  refine ab.seq (ab.seq (ab.aa ?_))
  refine Oc om (Oc om (Oc (ay cc rfl (List.length_map _)) (Oc (bm rfl rfl) ?_)))
  refine ae.ak ⟨[(1,_),(2,_),(5,_),(9,B (decide (i_1 < (bodies0.length:Int))))],[(101,_)]⟩ rfl (ab.ite h4 rfl (fun _ h4=>?_) (fun _ h4=>?_))
  ·refine ab.skip (Fin.ah ⟨[(1,_),(2,_),(5,_)],[(101,_)]⟩ rfl (Fin.then (ab.seq (ab.block (ab.seq ?_)))))
   refine ab.ah ⟨[(1,_),(2,_),(5,_)],[(101,_)]⟩ rfl ?_
   obtain ⟨x_2,e6,h4⟩:=aR h4
   obtain ⟨x_3,e7,h4⟩:=aR h4
   obtain ⟨x_4,e8,h4⟩:=aR h4
   obtain ⟨x_5,e9,h4⟩:=aR h4
   refine ab.fe mixed 14 [Pt 101 6,.b (.one (.sl 1 (r0.States.map eS))),.b (.one (.sl 1 (bodies0.map eI))),I i_1,.b (.dS [.i x_2]),I x_2,.b (.dS [.str x_3]),.b (.one (.str x_3)),.b (.one (.sl 1 (bodies0.map eI))),I i_1,.b (.dS [.i x_4]),I x_4,.b (.one (.str x_5)),B (decide (x_3 ≠ x_5))] [1,2,5,25] [101] (s':=⟨[(1,_),(2,_),(5,_),(25,B (decide (x_3 ≠ x_5)))],[(101,_)]⟩) rfl ⟨fun _=>.p (ag lj rfl rfl),fun _=>.p (av dz rfl rfl rfl),fun _=>.p om,fun _=>.p om,fun _=>.p (ar ba (aK e6) (aE (e:=eI) e6) rfl rfl),fun _=>.p (aw aP rfl rfl),fun _=>.p (ar cS (aK e7) (aE (e:=eS) e7) rfl rfl),fun _=>.p (aw gI rfl rfl),fun _=>.p om,fun _=>.p om,fun _=>.p (ar ba (aK e8) (aE (e:=eI) e8) rfl rfl),fun _=>.p (aw aP rfl rfl),fun _=>.p (aH (du e9) sx rfl rfl),fun _=>.p (n5 rfl rfl),trivial⟩ rfl rfl (ab.ite h4 rfl (fun _ h4=>?_) (fun _ h4=>?_))
   ·refine ab.seq (ab.aa ?_)
    refine Oc oa (ae.ak ⟨[(4,B false)],[]⟩ rfl (ab.ret (Fin.aD (Fin.aq ?_))))
    obtain rfl:=hy5 _ (Option.some.inj h4).symm
    refine Fin.aq (Fin.aD (Fin.aq ?_))
    obtain rfl:=Option.some.inj h
    refine Fin.ah ⟨[(4,_)],[]⟩ rfl (Fin.bd [.one (.bool false)] (.inl rfl) rfl (.cons (.tmp rfl) .nil) ⟨rfl,rfl⟩)
   ·refine ab.skip (Fin.ax (Fin.ah ⟨[(1,_),(2,_),(5,_)],[(101,_)]⟩ rfl (Fin.then (ab.aa ?_))))
    refine Oc om (Oc (bq rfl rfl) (Oc oa ?_))
    refine ae.nil ?_
    exact Fin.bK [1,2,5] [101] (IntKind.i64.wrap (i_1 + 1)) (Option.some.inj h4) rfl
  ·refine ab.exit (Fin.ao ?_)
   obtain rfl:=hy5 _ (Option.some.inj h4).symm
   refine Fin.ao (Fin.aI ?_)
   exact Fin.join [] [] () rfl rfl
 ·rintro _ hv
  subst v1
  refine ab.seq (ab.aa ?_)
  refine Oc oa (ae.ak ⟨[(4,B true)],[]⟩ rfl (ab.ret ?_))
  obtain rfl:=Option.some.inj h
  refine Fin.ah ⟨[(4,_)],[]⟩ rfl (Fin.bd [.one (.bool true)] (.inl rfl) rfl (.cons (.tmp rfl) .nil) ⟨rfl,rfl⟩)
end Go.Proofs.Ytnpddoaeoefcnaa

