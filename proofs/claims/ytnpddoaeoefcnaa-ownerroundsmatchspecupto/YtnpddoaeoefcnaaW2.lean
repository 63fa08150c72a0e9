/- printed walks -/
import Derived.Test.YtnpddoaeoefcnaaW1
namespace Go.Proofs.Ytnpddoaeoefcnaa
open Go.Sk Go
set_option maxHeartbeats 4000000
set_option maxRecDepth 4000
set_option linter.unusedSimpArgs false
set_option linter.unusedVariables false
def dA (F:Nat) (s0:List Task) (f0v0Kind:Int) (f0v0Step:Int) (f0v0From:Int) (f0v0To:Int) (f0v0Sets:List (List Int)) (f0v0Bodies:List Int) (f0v0States:List de) (f0v1:Int):Option Int :=
 Option.bind (iter F (fun x_1=>if (decide (x_1 < (s0.length:Int))) = true then ((aV s0 x_1).bind fun x_2=>(cG F x_2 f0v0Kind f0v0Step f0v0From f0v0To f0v0Sets f0v0Bodies f0v0States f0v1).bind fun x_3=>if x_3 = true then (some (.inr (.inr x_1))) else (some (.inl (IntKind.i64.wrap (x_1 + 1))))) else (some (.inr (.inl ())))) 0) (bG (fun _=>some (-1)) (fun y=>some y))
theorem mR {F:Nat} {s0:List Task} {f0v0Kind:Int} {f0v0Step:Int} {f0v0From:Int} {f0v0To:Int} {f0v0Sets:List (List Int)} {f0v0Bodies:List Int} {f0v0States:List de} {f0v1:Int} {r:Int} (h:dA F s0 f0v0Kind f0v0Step f0v0From f0v0To f0v0Sets f0v0Bodies f0v0States f0v1 = some r):aA Try.prog [] 96 [(1,.box 42 [.i f0v0Kind,.i f0v0Step,.i f0v0From,.i f0v0To,.sl 1 (f0v0Sets.map (eL 1 eI)),.sl 1 (f0v0Bodies.map eI),.sl 1 (f0v0States.map eS)]),(2,.box 3 [.i f0v1])] [.one (.sl 3 (s0.map ao)),.iK 88 [] [.ptr 1 0,.ptr 2 0]] (Is [(1,.box 42 [.i f0v0Kind,.i f0v0Step,.i f0v0From,.i f0v0To,.sl 1 (f0v0Sets.map (eL 1 eI)),.sl 1 (f0v0Bodies.map eI),.sl 1 (f0v0States.map eS)]),(2,.box 3 [.i f0v1])] (.b (.one (.i r)))):=by
 unfold dA at h
 refine aA.intro 19 Try.func96 Try.ntmps96 rfl (by simp) fun E=>?_
 show ab _ E ⟨19,[1,2],[1,2],[]⟩ _ ⟨[(0,.b (.one (.sl 3 (s0.map ao)))),(1,.b (.iK 88 [] [.ptr 1 0,.ptr 2 0]))],[(1,.box 42 [.i f0v0Kind,.i f0v0Step,.i f0v0From,.i f0v0To,.sl 1 (f0v0Sets.map (eL 1 eI)),.sl 1 (f0v0Bodies.map eI),.sl 1 (f0v0States.map eS)]),(2,.box 3 [.i f0v1])]⟩ _
 refine ab.seq (ab.aa ?_)
 refine Oc oa (af.ak ⟨[(0,.b (.one (.sl 3 (s0.map ao)))),(1,.b (.iK 88 [] [.ptr 1 0,.ptr 2 0]))],[(1,.box 42 [.i f0v0Kind,.i f0v0Step,.i f0v0From,.i f0v0To,.sl 1 (f0v0Sets.map (eL 1 eI)),.sl 1 (f0v0Bodies.map eI),.sl 1 (f0v0States.map eS)]),(2,.box 3 [.i f0v1])]⟩ rfl ?_)
 obtain ⟨v1,h2,h⟩:=aP h
 refine ab.ca (v:=v1) (fun (_:Unit)=>⟨[],[(1,.box 42 [.i f0v0Kind,.i f0v0Step,.i f0v0From,.i f0v0To,.sl 1 (f0v0Sets.map (eL 1 eI)),.sl 1 (f0v0Bodies.map eI),.sl 1 (f0v0States.map eS)]),(2,.box 3 [.i f0v1])]⟩) (fun z=>.inl z) ?_ ?_
 ·refine ab.seq (ab.aa ?_)
  refine Oc om (Oc (av kW rfl (List.length_map _)) (Oc om ?_))
  refine af.ak ⟨[(0,_),(1,_),(7,I (s0.length:Int)),(8,I 0)],[(1,_),(2,_)]⟩ rfl (ab.block (ab.bZ h2 (fun (x_1:Int)=>⟨[(0,.b (.one (.sl 3 (s0.map ao)))),(1,.b (.iK 88 [] [.ptr 1 0,.ptr 2 0])),(7,I (s0.length:Int)),(8,I x_1)],[(1,.box 42 [.i f0v0Kind,.i f0v0Step,.i f0v0From,.i f0v0To,.sl 1 (f0v0Sets.map (eL 1 eI)),.sl 1 (f0v0Bodies.map eI),.sl 1 (f0v0States.map eS)]),(2,.box 3 [.i f0v1])]⟩) [0,1,7,8] [1,2] rfl ?_))
  rintro x_1 o3 h4 hy5
  refine ab.seq (ab.aa ?_)
  refine Oc (aY rfl rfl) (af.ak ⟨[(0,_),(1,_),(7,_),(8,_),(9,B (decide (x_1 < (s0.length:Int))))],[(1,_),(2,_)]⟩ rfl (ab.seq (ab.ite h4 rfl (fun _ h4=>?_) (fun _ h4=>?_))))
  ·refine ab.skip (Fin.ai ⟨[(0,_),(1,_),(7,_),(8,_)],[(1,_),(2,_)]⟩ rfl (Fin.then (ab.seq (ab.block (ab.seq (ab.aa ?_))))))
   refine Oc om (Oc oa ?_)
   refine af.ak ⟨[(0,_),(1,_),(5,I x_1),(7,_),(8,_)],[(1,_),(2,_)]⟩ rfl (ab.seq (ab.aa ?_))
   refine Oc om (Oc om (Oc om ?_))
   obtain ⟨x_2,e6,h4⟩:=aP h4
   refine Oc (an fF (aL e6) (aB (e:=ao) e6) rfl rfl) (Oc (fl fR rfl rfl rfl) ?_)
   obtain ⟨x_3,e7,h4⟩:=aP h4
   refine Oc (kg (own_a:=[(1,_),(2,_)]) (lI e7) goes88 rfl rfl rfl ⟨rfl,rfl,trivial⟩ rfl rfl) (af.ak ⟨[(0,_),(1,_),(5,_),(7,_),(8,_),(16,B x_3)],[(1,_),(2,_)]⟩ rfl (ab.ite h4 rfl (fun _ h4=>?_) (fun _ h4=>?_)))
   ·refine ab.seq (ab.aa ?_)
    refine Oc om (Oc oa ?_)
    refine af.ak ⟨[(4,I x_1)],[(1,_),(2,_)]⟩ rfl (ab.ret (Fin.aJ (Fin.aw ?_)))
    obtain rfl:=hy5 _ (Option.some.inj h4).symm
    refine Fin.aw (Fin.aJ (Fin.aw ?_))
    obtain rfl:=Option.some.inj h
    refine Fin.ai ⟨[(4,_)],[(1,_),(2,_)]⟩ rfl ?_
    exact Fin.result [.one (.i x_1)] (.inl rfl) rfl (.cons (.tmp rfl) .nil) ⟨rfl,rfl⟩
   ·refine ab.skip (Fin.ar (Fin.ai ⟨[(0,_),(1,_),(7,_),(8,_)],[(1,_),(2,_)]⟩ rfl (Fin.then (ab.aa ?_))))
    refine Oc (bh rfl rfl) (Oc om ?_)
    refine af.nil ?_
    exact Fin.bp [0,1,7,8] [1,2] (IntKind.i64.wrap (x_1 + 1)) (Option.some.inj h4) rfl
  ·refine ab.exit (Fin.aq ?_)
   obtain rfl:=hy5 _ (Option.some.inj h4).symm
   refine Fin.aq (Fin.aE ?_)
   exact Fin.join [] [1,2] () rfl rfl
 ·rintro _ hv
  subst v1
  refine ab.seq (ab.aa ?_)
  refine Oc oa (af.ak ⟨[(4,I (-1))],[(1,_),(2,_)]⟩ rfl (ab.ret ?_))
  obtain rfl:=Option.some.inj h
  refine Fin.ai ⟨[(4,_)],[(1,_),(2,_)]⟩ rfl ?_
  exact Fin.result [.one (.i (-1))] (.inl rfl) rfl (.cons (.tmp rfl) .nil) ⟨rfl,rfl⟩
def cq (F:Nat) (s0:List Task) (f0v0Kind:Int) (f0v0Step:Int) (f0v0From:Int) (f0v0To:Int) (f0v0Sets:List (List Int)) (f0v0Bodies:List Int) (f0v0States:List de) (f0v1:Int):Option Bool :=
 (dA F s0 f0v0Kind f0v0Step f0v0From f0v0To f0v0Sets f0v0Bodies f0v0States f0v1).bind fun x_1=>some (decide (0 ≤ x_1))
theorem lv {F:Nat} {s0:List Task} {f0v0Kind:Int} {f0v0Step:Int} {f0v0From:Int} {f0v0To:Int} {f0v0Sets:List (List Int)} {f0v0Bodies:List Int} {f0v0States:List de} {f0v1:Int} {r:Bool} (h:cq F s0 f0v0Kind f0v0Step f0v0From f0v0To f0v0Sets f0v0Bodies f0v0States f0v1 = some r):aA Try.prog [] 87 [(1,.box 42 [.i f0v0Kind,.i f0v0Step,.i f0v0From,.i f0v0To,.sl 1 (f0v0Sets.map (eL 1 eI)),.sl 1 (f0v0Bodies.map eI),.sl 1 (f0v0States.map eS)]),(2,.box 3 [.i f0v1])] [.one (.sl 3 (s0.map ao)),.iK 88 [] [.ptr 1 0,.ptr 2 0]] (Is [(1,.box 42 [.i f0v0Kind,.i f0v0Step,.i f0v0From,.i f0v0To,.sl 1 (f0v0Sets.map (eL 1 eI)),.sl 1 (f0v0Bodies.map eI),.sl 1 (f0v0States.map eS)]),(2,.box 3 [.i f0v1])] (.b (.one (.bool r)))):=by
 unfold cq at h
 refine aA.intro 9 Try.func87 Try.ntmps87 rfl (by simp) fun E=>?_
 show ab _ E ⟨9,[1,2],[1,2],[]⟩ _ ⟨[(0,.b (.one (.sl 3 (s0.map ao)))),(1,.b (.iK 88 [] [.ptr 1 0,.ptr 2 0]))],[(1,.box 42 [.i f0v0Kind,.i f0v0Step,.i f0v0From,.i f0v0To,.sl 1 (f0v0Sets.map (eL 1 eI)),.sl 1 (f0v0Bodies.map eI),.sl 1 (f0v0States.map eS)]),(2,.box 3 [.i f0v1])]⟩ _
 refine ab.seq (ab.aa ?_)
 refine Oc oa (af.ak ⟨[(0,.b (.one (.sl 3 (s0.map ao)))),(1,.b (.iK 88 [] [.ptr 1 0,.ptr 2 0]))],[(1,.box 42 [.i f0v0Kind,.i f0v0Step,.i f0v0From,.i f0v0To,.sl 1 (f0v0Sets.map (eL 1 eI)),.sl 1 (f0v0Bodies.map eI),.sl 1 (f0v0States.map eS)]),(2,.box 3 [.i f0v1])]⟩ rfl (ab.seq (ab.aa ?_)))
 refine Oc om (Oc om ?_)
 obtain ⟨x_1,e1,h⟩:=aP h
 refine Oc (bL (own_a:=[(1,_),(2,_)]) (mR e1) goes96 rfl ⟨rfl,rfl,trivial⟩ rfl rfl) (Oc (gk rfl rfl) (Oc oa ?_))
 refine af.ak ⟨[(4,B (decide (0 ≤ x_1)))],[(1,_),(2,_)]⟩ rfl (ab.ret ?_)
 obtain rfl:=Option.some.inj h
 refine Fin.ai ⟨[(4,_)],[(1,_),(2,_)]⟩ rfl ?_
 exact Fin.result [.one (.bool (decide (0 ≤ x_1)))] (.inl rfl) rfl (.cons (.tmp rfl) .nil) ⟨rfl,rfl⟩
def c8 (F:Nat) (l0:aI) (n0r:Round) (n0out:List aI):Option Round :=
 (cR F l0 n0r.Me n0r n0out).bind fun x_1=>(aK (!(!x_1)) (cB F n0r.Heard false)).bind fun x_2=>if ((!x_1) || x_2) = true then (some n0r) else (Option.bind (iter F (fun x_3=>if (decide (x_3 < (l0.Bodies.length:Int))) = true then ((aV l0.Bodies x_3).bind fun x_4=>(cq F n0r.Tasks l0.Kind l0.Step l0.From l0.To l0.Sets l0.Bodies l0.States x_4).bind fun x_5=>if (!x_5) = true then (some (.inr (.inr n0r))) else (some (.inl (IntKind.i64.wrap (x_3 + 1))))) else (some (.inr (.inl ())))) 0) (bG (fun _=>(dX F n0r.Results l0.Bodies l0.States).bind fun x_6=>some (⟨n0r.Me,n0r.Regions,n0r.Step,n0r.Home,n0r.Heard,n0r.Sets,n0r.States,n0r.Tasks,n0r.Done,x_6⟩:Round)) (fun y=>some y)))
theorem mX {F:Nat} {l0:aI} {n0r:Round} {n0out:List aI} {r:Round} (h:c8 F l0 n0r n0out = some r):aA Try.prog [] 64 [(1,.aW 95 [.one (.i n0r.Me),.one (.i n0r.Regions),.one (.i n0r.Step),.one (.sl 1 (n0r.Home.map eI)),.one (.sl 1 (n0r.Heard.map eB)),.one (.sl 1 (n0r.Sets.map (eL 1 eI))),.one (.sl 1 (n0r.States.map eS)),.one (.sl 3 (n0r.Tasks.map ao)),.one (.sl 1 (n0r.Done.map eB)),.one (.sl 1 (n0r.Results.map eS)),.row 2]),(2,.row 42 7 (n0out.map ah))] [.ptr 1 0,.agg (ah l0)] (Is [(1,.aW 95 [.one (.i r.Me),.one (.i r.Regions),.one (.i r.Step),.one (.sl 1 (r.Home.map eI)),.one (.sl 1 (r.Heard.map eB)),.one (.sl 1 (r.Sets.map (eL 1 eI))),.one (.sl 1 (r.States.map eS)),.one (.sl 3 (r.Tasks.map ao)),.one (.sl 1 (r.Done.map eB)),.one (.sl 1 (r.Results.map eS)),.row 2]),(2,.row 42 7 (n0out.map ah))] (.gR [])):=by
 unfold c8 at h
 refine aA.intro 53 Try.func64 Try.ntmps64 rfl (by simp) fun E=>?_
 show ab _ E ⟨53,[1],[1,2],[]⟩ _ ⟨[(0,Pt 1 0),(1,.b (.agg (ah l0)))],[(1,.aW 95 [.one (.i n0r.Me),.one (.i n0r.Regions),.one (.i n0r.Step),.one (.sl 1 (n0r.Home.map eI)),.one (.sl 1 (n0r.Heard.map eB)),.one (.sl 1 (n0r.Sets.map (eL 1 eI))),.one (.sl 1 (n0r.States.map eS)),.one (.sl 3 (n0r.Tasks.map ao)),.one (.sl 1 (n0r.Done.map eB)),.one (.sl 1 (n0r.Results.map eS)),.row 2]),(2,.row 42 7 (n0out.map ah))]⟩ _
 refine ab.seq (ab.aa ?_)
 refine Oc (fv (k:=101) rfl rfl) (af.ak ⟨[(0,Pt 1 0),(3,Pt 101 0)],[(1,.aW 95 [.one (.i n0r.Me),.one (.i n0r.Regions),.one (.i n0r.Step),.one (.sl 1 (n0r.Home.map eI)),.one (.sl 1 (n0r.Heard.map eB)),.one (.sl 1 (n0r.Sets.map (eL 1 eI))),.one (.sl 1 (n0r.States.map eS)),.one (.sl 3 (n0r.Tasks.map ao)),.one (.sl 1 (n0r.Done.map eB)),.one (.sl 1 (n0r.Results.map eS)),.row 2]),(2,.row 42 7 (n0out.map ah)),(101,.box 42 (ah l0))]⟩ rfl (ab.seq (ab.seq ?_)))
 refine ab.ai ⟨[(0,_),(3,_)],[(1,_),(2,_),(101,_)]⟩ rfl ?_
 obtain ⟨x_1,e1,h⟩:=aP h
 obtain ⟨x_2,e8,h⟩:=aP h
 refine ab.eX mixed 7 [Pt 1 0,.b (.agg (ah l0)),Pt 1 0,Pt 1 0,Pt 1 0,Pt 1 0,I n0r.Me] [0,3,22] [1,2,101] (s':=⟨[(0,_),(3,_),(22,B ((!x_1) || x_2))],[(1,_),(2,_),(101,_)]⟩) rfl ⟨fun _=>.p om,fun _=>.p (lp gb),fun _=>.p om,fun _=>.p (aG rfl),fun _=>.p (ae bm rfl rfl),fun _=>.p (ae cJ rfl rfl),fun _=>.p (aX aD rfl rfl rfl),trivial⟩ ⟨_,by exact .p (bL (own_a:=[(1,_),(2,_)]) (jE e1) xR rfl ⟨rfl,rfl,trivial⟩ rfl rfl),⟨_,by exact .p (cL rfl),⟨_,by exact .p om,⟨_,by exact .guard (!(!x_1)) 1 [] (.plain rfl) (dQ _) rfl rfl (fun g2=>trivial) (fun g2=>om),⟨_,by exact .guard (!(!x_1)) 2 [16] (.plain rfl) (dQ _) rfl rfl (fun g3=>⟨g3,trivial⟩) (fun g3=>aG rfl),⟨_,by exact .guard (!(!x_1)) 2 [17] (.plain rfl) (dQ _) rfl rfl (fun g4=>⟨g4,trivial⟩) (fun g4=>ae bm rfl rfl),⟨_,by exact .guard (!(!x_1)) 2 [18] (.plain rfl) (dQ _) rfl rfl (fun g5=>⟨g5,trivial⟩) (fun g5=>ae er rfl rfl),⟨_,by exact .guard (!(!x_1)) 2 [19] (.plain rfl) (dQ _) rfl rfl (fun g6=>⟨g6,trivial⟩) (fun g6=>aX dd rfl rfl rfl),⟨_,by exact .guard (!(!x_1)) 3 [20] (.plain rfl) (dQ _) rfl rfl (fun g7=>⟨g7,trivial⟩) (fun g7=>az (ig (gc e8 g7)) uX rfl rfl),⟨_,by exact .p (aF (fun e=>by first | (rw [e]; rfl) | (simp only at e; rw [e]; rfl)) rfl rfl rfl rfl),rfl⟩⟩⟩⟩⟩⟩⟩⟩⟩⟩ rfl (ab.ite h rfl (fun _ h=>?_) (fun _ h=>?_))
 ·refine ab.ret (Fin.aw ?_)
  obtain rfl:=Option.some.inj h
  refine Fin.ai ⟨[],[(1,_),(2,_)]⟩ rfl ?_
  exact Fin.result [] (.inl rfl) rfl (.nil) ⟨rfl,rfl⟩
 ·refine ab.skip (Fin.ai ⟨[(0,_),(3,_)],[(1,_),(2,_),(101,_)]⟩ rfl (Fin.then ?_))
  obtain ⟨v9,h10,h⟩:=aP h
  refine ab.ca (v:=v9) (fun (_:Unit)=>⟨[(0,Pt 1 0),(3,Pt 101 0)],[(1,.aW 95 [.one (.i n0r.Me),.one (.i n0r.Regions),.one (.i n0r.Step),.one (.sl 1 (n0r.Home.map eI)),.one (.sl 1 (n0r.Heard.map eB)),.one (.sl 1 (n0r.Sets.map (eL 1 eI))),.one (.sl 1 (n0r.States.map eS)),.one (.sl 3 (n0r.Tasks.map ao)),.one (.sl 1 (n0r.Done.map eB)),.one (.sl 1 (n0r.Results.map eS)),.row 2]),(2,.row 42 7 (n0out.map ah)),(101,.box 42 (ah l0))]⟩) (fun z=>.inl z) ?_ ?_
  ·refine ab.seq (ab.aa ?_)
   refine Oc (ae du rfl rfl) (Oc (ag aN rfl rfl rfl) (Oc (av bR rfl (List.length_map _)) (Oc om ?_)))
   refine af.ak ⟨[(0,_),(3,_),(24,.b (.one (.sl 1 (l0.Bodies.map eI)))),(25,I (l0.Bodies.length:Int)),(26,I 0)],[(1,_),(2,_),(101,_)]⟩ rfl (ab.block (ab.bZ h10 (fun (x_3:Int)=>⟨[(0,Pt 1 0),(3,Pt 101 0),(24,.b (.one (.sl 1 (l0.Bodies.map eI)))),(25,I (l0.Bodies.length:Int)),(26,I x_3)],[(1,.aW 95 [.one (.i n0r.Me),.one (.i n0r.Regions),.one (.i n0r.Step),.one (.sl 1 (n0r.Home.map eI)),.one (.sl 1 (n0r.Heard.map eB)),.one (.sl 1 (n0r.Sets.map (eL 1 eI))),.one (.sl 1 (n0r.States.map eS)),.one (.sl 3 (n0r.Tasks.map ao)),.one (.sl 1 (n0r.Done.map eB)),.one (.sl 1 (n0r.Results.map eS)),.row 2]),(2,.row 42 7 (n0out.map ah)),(101,.box 42 (ah l0))]⟩) [0,3,24,25,26] [1,2,101] rfl ?_))
   rintro x_3 o11 h12 hy13
   refine ab.seq (ab.aa ?_)
   refine Oc (aY rfl rfl) (af.ak ⟨[(0,_),(3,_),(24,_),(25,_),(26,_),(27,B (decide (x_3 < (l0.Bodies.length:Int))))],[(1,_),(2,_),(101,_)]⟩ rfl (ab.seq (ab.ite h12 rfl (fun _ h12=>?_) (fun _ h12=>?_))))
   ·refine ab.skip (Fin.ai ⟨[(0,_),(3,_),(24,_),(25,_),(26,_)],[(1,_),(2,_),(101,_)]⟩ rfl (Fin.then (ab.seq (ab.block (ab.seq (ab.aa ?_))))))
    obtain ⟨x_4,e14,h12⟩:=aP h12
    refine Oc (an aQ (aL e14) (aB (e:=eI) e14) rfl rfl) (Oc (au aD rfl rfl) (Oc (cz (k:=102) tyZero3 rfl) (Oc (ew aD rfl rfl rfl (Nat.le_of_ble_eq_true rfl) rfl) ?_)))
    refine af.ak ⟨[(0,_),(3,_),(5,Pt 102 0),(24,_),(25,_),(26,_)],[(1,_),(2,_),(101,_),(102,.box 3 [.i x_4])]⟩ rfl (ab.seq (ab.aa ?_))
    refine Oc om (Oc (aG rfl) (Oc (ae bm rfl rfl) (Oc (ae c9 rfl rfl) (Oc (aX ey rfl rfl rfl) (Oc (hZ rfl rfl) ?_)))))
    obtain ⟨x_5,e15,h12⟩:=aP h12
    refine Oc (bL (own_a:=[(101,_),(102,_)]) (((lv e15).sw 1 101).sw 2 102) goes87 rfl ⟨rfl,rfl,trivial⟩ rfl rfl) (Oc (cL rfl) ?_)
    refine af.ak ⟨[(0,_),(3,_),(24,_),(25,_),(26,_),(37,B (!x_5))],[(1,_),(2,_),(101,_)]⟩ rfl (ab.ite h12 rfl (fun _ h12=>?_) (fun _ h12=>?_))
    ·refine ab.ret (Fin.aJ (Fin.aw ?_))
     obtain rfl:=hy13 _ (Option.some.inj h12).symm
     refine Fin.aw (Fin.aJ (Fin.aw ?_))
     obtain rfl:=Option.some.inj h
     refine Fin.ai ⟨[],[(1,_),(2,_)]⟩ rfl ?_
     exact Fin.result [] (.inl rfl) rfl (.nil) ⟨rfl,rfl⟩
    ·refine ab.skip (Fin.ar (Fin.ai ⟨[(0,_),(3,_),(24,_),(25,_),(26,_)],[(1,_),(2,_),(101,_)]⟩ rfl (Fin.then (ab.aa ?_))))
     refine Oc (bh rfl rfl) (Oc om ?_)
     refine af.nil ?_
     exact Fin.bp [0,3,24,25,26] [1,2,101] (IntKind.i64.wrap (x_3 + 1)) (Option.some.inj h12) rfl
   ·refine ab.exit (Fin.aq ?_)
    obtain rfl:=hy13 _ (Option.some.inj h12).symm
    refine Fin.aq (Fin.aE ?_)
    exact Fin.join [0,3] [1,2,101] () rfl rfl
  ·rintro _ hv
   subst v9
   refine ab.ai ⟨[(0,_),(3,_)],[(1,_),(2,_),(101,_)]⟩ rfl ?_
   obtain ⟨x_6,e16,h⟩:=aP h
   refine ab.fy mixed 14 [Pt 1 0,Pt 1 0,Pt 1 0,Pt 1 0,Pt 1 9,.b (.one (.sl 1 (n0r.Results.map eS))),Pt 101 5,.b (.one (.sl 1 (l0.Bodies.map eI))),Pt 101 6,.b (.one (.sl 1 (l0.States.map eS))),.b (.one (.sl 1 (x_6.map eS))),Pt 1 0,Pt 1 0,Pt 1 9] [] [1,2] (s':=⟨[],[(1,.aW 95 [.one (.i n0r.Me),.one (.i n0r.Regions),.one (.i n0r.Step),.one (.sl 1 (n0r.Home.map eI)),.one (.sl 1 (n0r.Heard.map eB)),.one (.sl 1 (n0r.Sets.map (eL 1 eI))),.one (.sl 1 (n0r.States.map eS)),.one (.sl 3 (n0r.Tasks.map ao)),.one (.sl 1 (n0r.Done.map eB)),.one (.sl 1 (x_6.map eS)),.row 2]),(2,_)]⟩) rfl ⟨fun _=>.p om,fun _=>.p om,fun _=>.p (aG rfl),fun _=>.p (ae bm rfl rfl),fun _=>.p (ae ep rfl rfl),fun _=>.p (aX b6 rfl rfl rfl),fun _=>.p (ae du rfl rfl),fun _=>.p (ag aN rfl rfl rfl),fun _=>.p (ae fK rfl rfl),fun _=>.p (ag b6 rfl rfl rfl),fun _=>.p (az (jT 0 e16).fp u5 rfl rfl),fun _=>.p (aG rfl),fun _=>.p (ae bm rfl rfl),fun _=>.p (ae ep rfl rfl),trivial⟩ ⟨_,by exact .p (fU b6 rfl rfl rfl rfl (Nat.le_of_ble_eq_true rfl) rfl),rfl⟩ rfl ?_
   obtain rfl:=Option.some.inj h
   refine Fin.ai ⟨[],[(1,_),(2,_)]⟩ rfl ?_
   exact Fin.result [] (.inr rfl) rfl (.nil) ⟨rfl,rfl⟩
def dG (F:Nat) (r0:Round) (l0:aI):Option (Round × (List aI)) :=
 bu (((decide (l0.To ≠ r0.Me)) || (decide (l0.Step ≠ r0.Step))) || (decide (l0.From = r0.Me))) fun x_1=>bu ((x_1 || (decide (l0.From < 0))) || (decide (r0.Regions ≤ l0.From))) fun x_2=>if x_2 = true then (some (r0,[])) else (Option.bind (if decide (l0.Kind = 1) = true then (Option.bind (dr F l0 r0 []) (eU fun x_14 x_15=>some (x_14.Me,x_14.Regions,x_14.Step,x_14.Home,x_14.Heard,x_14.Sets,x_14.States,x_14.Tasks,x_14.Done,x_14.Results,x_15))) else (if decide (l0.Kind = 2) = true then ((dh F l0 r0 []).bind fun x_16=>some (x_16.Me,x_16.Regions,x_16.Step,x_16.Home,x_16.Heard,x_16.Sets,x_16.States,x_16.Tasks,x_16.Done,x_16.Results,[])) else (if decide (l0.Kind = 3) = true then ((c8 F l0 r0 []).bind fun x_17=>some (x_17.Me,x_17.Regions,x_17.Step,x_17.Home,x_17.Heard,x_17.Sets,x_17.States,x_17.Tasks,x_17.Done,x_17.Results,[])) else (some (r0.Me,r0.Regions,r0.Step,r0.Home,r0.Heard,r0.Sets,r0.States,r0.Tasks,r0.Done,r0.Results,[]))))) (un11 fun r_3 nf1_4 nf2_5 nf3_6 nf4_7 nf5_8 nf6_9 nf7_10 nf8_11 nf9_12 out_13=>some ((⟨r_3,nf1_4,nf2_5,nf3_6,nf4_7,nf5_8,nf6_9,nf7_10,nf8_11,nf9_12⟩:Round),out_13)))
theorem gG (kr0:Nat) {F:Nat} {r0:Round} {l0:aI} {r:Round × (List aI)} (h:dG F r0 l0 = some r):aA Try.prog [] 17 [] [.agg (ay r0),.agg (ah l0)] (Is [(kr0,.row 42 7 (r.2.map ah))] (.gR [.agg (ay r.1),.row kr0])):=by
 unfold dG at h
 refine aA.intro 67 Try.func17 Try.ntmps17 rfl (by simp) fun E=>?_
 show ab _ E ⟨67,[],[],[]⟩ _ ⟨[(0,.b (.agg (ay r0))),(1,.b (.agg (ah l0)))],[]⟩ _
 refine ab.seq (ab.aa ?_)
 refine Oc (fv (k:=101) rfl rfl) (Oc (fv (k:=102) rfl rfl) (Oc (cz (k:=103) hC rfl) (Oc oa ?_)))
 refine af.ak ⟨[(2,Pt 101 0),(3,Pt 102 0),(4,Pt 103 0)],[(101,.box 31 (ay r0)),(102,.box 42 (ah l0)),(103,.box 31 [.i 0,.i 0,.i 0,.nil,.nil,.nil,.nil,.nil,.nil,.nil])]⟩ rfl (ab.seq (ab.seq (ab.aa ?_)))
 refine Oc (ae oq rfl rfl) (Oc (ag aD rfl rfl rfl) (Oc (ae cJ rfl rfl) (Oc (ag aD rfl rfl rfl) (Oc (cY rfl rfl) (Oc om ?_)))))
 refine bF (!(decide (l0.To ≠ r0.Me))) [] (fun g1=>trivial) (fun g1=>ae mE rfl rfl) (af.ai ⟨[(2,_),(3,_),(4,_),(13,B (decide (l0.To ≠ r0.Me))),(14,.opt (!(decide (l0.To ≠ r0.Me))) (.ptr 102 1))],[(101,_),(102,_),(103,_)]⟩ rfl (bF (!(decide (l0.To ≠ r0.Me))) [14] (fun g2=>⟨g2,trivial⟩) (fun g2=>ag aD rfl rfl rfl) (bF (!(decide (l0.To ≠ r0.Me))) [] (fun g3=>trivial) (fun g3=>ae jL rfl rfl) (bF (!(decide (l0.To ≠ r0.Me))) [16] (fun g4=>⟨g4,trivial⟩) (fun g4=>ag aD rfl rfl rfl) (bF (!(decide (l0.To ≠ r0.Me))) [15,17] (fun g5=>⟨g5,g5,trivial⟩) (fun g5=>cY rfl rfl) ?_)))))
 refine Oc (aF (fun e=>by first | (rw [e]; rfl) | (simp only at e; rw [e]; rfl)) rfl rfl rfl rfl) (Oc om ?_)
 refine bF (!((decide (l0.To ≠ r0.Me)) || (decide (l0.Step ≠ r0.Step)))) [] (fun g6=>trivial) (fun g6=>ae dR rfl rfl) (bF (!((decide (l0.To ≠ r0.Me)) || (decide (l0.Step ≠ r0.Step)))) [21] (fun g7=>⟨g7,trivial⟩) (fun g7=>ag aD rfl rfl rfl) (af.ai ⟨[(2,_),(3,_),(4,_),(20,B ((decide (l0.To ≠ r0.Me)) || (decide (l0.Step ≠ r0.Step)))),(22,.opt (!((decide (l0.To ≠ r0.Me)) || (decide (l0.Step ≠ r0.Step)))) (.one (.i l0.From)))],[(101,_),(102,_),(103,_)]⟩ rfl (bF (!((decide (l0.To ≠ r0.Me)) || (decide (l0.Step ≠ r0.Step)))) [] (fun g8=>trivial) (fun g8=>ae cJ rfl rfl) (bF (!((decide (l0.To ≠ r0.Me)) || (decide (l0.Step ≠ r0.Step)))) [23] (fun g9=>⟨g9,trivial⟩) (fun g9=>ag aD rfl rfl rfl) (bF (!((decide (l0.To ≠ r0.Me)) || (decide (l0.Step ≠ r0.Step)))) [22,24] (fun g10=>⟨g10,g10,trivial⟩) (fun g10=>di rfl rfl) ?_)))))
 refine af.fQ h rfl (aF (fun e=>by first | (rw [e]; rfl) | (simp only at e; rw [e]; rfl)) rfl rfl rfl rfl) (fun x_1 h=>?_)
 refine Oc om (bF (!x_1) [] (fun g11=>by exact trivial) (fun g11=>ae dR rfl rfl) (bF (!x_1) [28] (fun g12=>by exact ⟨g12,trivial⟩) (fun g12=>ag aD rfl rfl rfl) (bF (!x_1) [29] (fun g13=>by exact ⟨g13,trivial⟩) (fun g13=>aY rfl rfl) (af.ai ⟨[(2,_),(3,_),(4,_),(27,B x_1),(30,.opt (!x_1) (.one (.bool (decide (l0.From < 0)))))],[(101,_),(102,_),(103,_)]⟩ rfl (Oc (aF (fun e=>by first | (rw [e]; rfl) | (simp only at e; rw [e]; rfl)) rfl rfl rfl rfl) (Oc om ?_))))))
 refine bF (!(x_1 || (decide (l0.From < 0)))) [] (fun g14=>trivial) (fun g14=>ae dR rfl rfl) (bF (!(x_1 || (decide (l0.From < 0)))) [33] (fun g15=>⟨g15,trivial⟩) (fun g15=>ag aD rfl rfl rfl) (bF (!(x_1 || (decide (l0.From < 0)))) [] (fun g16=>trivial) (fun g16=>ae ot rfl rfl) (bF (!(x_1 || (decide (l0.From < 0)))) [35] (fun g17=>⟨g17,trivial⟩) (fun g17=>ag aD rfl rfl rfl) (bF (!(x_1 || (decide (l0.From < 0)))) [34,36] (fun g18=>⟨g18,g18,trivial⟩) (fun g18=>gk rfl rfl) (af.fQ h rfl (aF (fun e=>by first | (rw [e]; rfl) | (simp only at e; rw [e]; rfl)) rfl rfl rfl rfl) (fun x_2 h=>?_))))))
 refine af.ak ⟨[(2,_),(3,_),(4,_),(38,B x_2)],[(101,_),(102,_),(103,_)]⟩ rfl (ab.ite h rfl (fun _ h=>?_) (fun _ h=>?_))
 ·refine ab.seq (ab.aa ?_)
  refine Oc (lp aU) (Oc (aR aU rfl rfl rfl rfl (Nat.le_of_ble_eq_true rfl) rfl) (Oc oa ?_))
  refine af.ak ⟨[(4,_),(5,.b (.one (.nil)))],[(103,.box 31 (ay r0))]⟩ rfl (ab.ret (Fin.aw ?_))
  obtain rfl:=Option.some.inj h
  refine Fin.ai ⟨[(4,_),(5,_)],[(103,_)]⟩ rfl (Fin.dc 5 104 7 42 rfl (by decide) rfl (Fin.dD 104 kr0 [.agg (ay r0),.row 104] (.inl rfl) rfl (.cons (.agg aU rfl rfl rfl rfl) (.cons (.tmp rfl) .nil)) rfl rfl rfl rfl ⟨rfl,rfl⟩))
 ·refine ab.skip (Fin.ai ⟨[(2,_),(3,_),(4,_)],[(101,_),(102,_),(103,_)]⟩ rfl (Fin.then (ab.seq (ab.aa ?_))))
  refine Oc (lp aU) (Oc (cc qh rfl rfl) (Oc (fv (k:=105) rfl rfl) (Oc oa ?_)))
  refine af.ak ⟨[(3,_),(4,_),(6,Pt 105 0)],[(102,_),(103,_),(105,.box 95 (ay r0 ++ ([.nil])))]⟩ rfl ?_
  obtain ⟨v19,h20,h⟩:=aP h
  refine ab.ca (v:=v19) (un11 fun (r_3:Int) (nf1_4:Int) (nf2_5:Int) (nf3_6:List Int) (nf4_7:List Bool) (nf5_8:List (List Int)) (nf6_9:List de) (nf7_10:List Task) (nf8_11:List Bool) (nf9_12:List de) (out_13:List aI)=>⟨[(4,Pt 103 0),(6,Pt 105 0)],[(103,.box 31 [.i 0,.i 0,.i 0,.nil,.nil,.nil,.nil,.nil,.nil,.nil]),(105,.aW 95 [.one (.i r_3),.one (.i nf1_4),.one (.i nf2_5),.one (.sl 1 (nf3_6.map eI)),.one (.sl 1 (nf4_7.map eB)),.one (.sl 1 (nf5_8.map (eL 1 eI))),.one (.sl 1 (nf6_9.map eS)),.one (.sl 3 (nf7_10.map ao)),.one (.sl 1 (nf8_11.map eB)),.one (.sl 1 (nf9_12.map eS)),.row 107]),(107,.row 42 7 (out_13.map ah))]⟩) (fun z=>z) ?_ ?_
  ·refine ab.seq (ab.aa ?_)
   refine Oc (vz (k:=106) undm111 rfl) (Oc om (Oc (hZ rfl rfl) (Oc (tm (l:=[]) k6 rfl rfl rfl rfl) (Oc om (Oc (hZ rfl rfl) ?_)))))
   refine Oc (tm (l:=[(1,.iK 62 [.ptr 105 0] [])]) k6 rfl rfl rfl rfl) (af.ai ⟨[(3,_),(4,_),(6,_),(43,.b (.row 106))],[(102,_),(103,_),(105,_),(106,.mp (eM .i64 [(1,.iK 62 [.ptr 105 0] []),(2,.iK 63 [.ptr 105 0] [])]))]⟩ rfl (Oc om (Oc (hZ rfl rfl) (Oc (tm (l:=[(1,.iK 62 [.ptr 105 0] []),(2,.iK 63 [.ptr 105 0] [])]) k6 rfl rfl rfl rfl) (Oc om (Oc (ae kN rfl rfl) (Oc (ag aD rfl rfl rfl) ?_)))))))
   refine af.ite h20 (fun hc21 h20=>?_) (fun hc21 h20=>?_)
   ·refine Oc (pM (l:=[(1,.iK 62 [.ptr 105 0] []),(2,.iK 63 [.ptr 105 0] []),(3,.iK 64 [.ptr 105 0] [])]) k6 rfl rfl rfl (rB hc21)) (Oc oa ?_)
    refine af.ak ⟨[(3,_),(4,_),(6,_),(7,.b (.iK 62 [.ptr 105 0] []))],[(102,_),(103,_),(105,_)]⟩ rfl (ab.seq (ab.aa ?_))
    refine Oc om (Oc (qn vU rfl) ?_)
    refine af.ak ⟨[(3,_),(4,_),(6,_),(7,_),(55,B true)],[(102,_),(103,_),(105,_)]⟩ rfl (ab.tL rfl (ab.aa (Oc om (Oc (lp gb) ?_))))
    refine af.uF 105 rfl (af.iW 105 10 107 7 42 rfl rfl (by decide) (by decide) rfl ?_)
    obtain ⟨⟨x_14,x_15⟩,e22,h20⟩:=aP h20
    refine Oc (kg (own_a:=[(105,_),(107,_)]) (((n3 e22).sw 1 105).sw 2 107) goes62 rfl rfl rfl ⟨rfl,rfl,trivial⟩ rfl rfl) (af.nil ?_)
    exact Fin.join [4,6] [103,105,107] (x_14.Me,x_14.Regions,x_14.Step,x_14.Home,x_14.Heard,x_14.Sets,x_14.States,x_14.Tasks,x_14.Done,x_14.Results,x_15) (Option.some.inj h20) rfl
   ·refine af.ite h20 (fun hc23 h20=>?_) (fun hc23 h20=>?_)
    ·refine Oc (pM (l:=[(1,.iK 62 [.ptr 105 0] []),(2,.iK 63 [.ptr 105 0] []),(3,.iK 64 [.ptr 105 0] [])]) k6 rfl rfl rfl (kQ hc21 (rB hc23))) (Oc oa ?_)
     refine af.ak ⟨[(3,_),(4,_),(6,_),(7,.b (.iK 63 [.ptr 105 0] []))],[(102,_),(103,_),(105,_)]⟩ rfl (ab.seq (ab.aa ?_))
     refine Oc om (Oc (qn vU rfl) ?_)
     refine af.ak ⟨[(3,_),(4,_),(6,_),(7,_),(55,B true)],[(102,_),(103,_),(105,_)]⟩ rfl (ab.tL rfl (ab.aa (Oc om (Oc (lp gb) ?_))))
     refine af.uF 105 rfl (af.iW 105 10 108 7 42 rfl rfl (by decide) (by decide) rfl ?_)
     obtain ⟨x_16,e24,h20⟩:=aP h20
     refine Oc (kg (own_a:=[(105,_),(108,_)]) (((ns e24).sw 1 105).sw 2 108) goes63 rfl rfl rfl ⟨rfl,rfl,trivial⟩ rfl rfl) (af.nil (Fin.ai ⟨[(4,Pt 103 0),(6,Pt 105 0)],[(103,.box 31 [.i 0,.i 0,.i 0,.nil,.nil,.nil,.nil,.nil,.nil,.nil]),(105,.aW 95 [.one (.i x_16.Me),.one (.i x_16.Regions),.one (.i x_16.Step),.one (.sl 1 (x_16.Home.map eI)),.one (.sl 1 (x_16.Heard.map eB)),.one (.sl 1 (x_16.Sets.map (eL 1 eI))),.one (.sl 1 (x_16.States.map eS)),.one (.sl 3 (x_16.Tasks.map ao)),.one (.sl 1 (x_16.Done.map eB)),.one (.sl 1 (x_16.Results.map eS)),.row 108]),(108,.row 42 7 ([].map ah))]⟩ rfl (Fin.rename 108 107 rfl (by decide) rfl ?_)))
     exact Fin.join [4,6] [103,105,107] (x_16.Me,x_16.Regions,x_16.Step,x_16.Home,x_16.Heard,x_16.Sets,x_16.States,x_16.Tasks,x_16.Done,x_16.Results,[]) (Option.some.inj h20) rfl
    ·refine af.ite h20 (fun hc25 h20=>?_) (fun hc25 h20=>?_)
     ·refine Oc (pM (l:=[(1,.iK 62 [.ptr 105 0] []),(2,.iK 63 [.ptr 105 0] []),(3,.iK 64 [.ptr 105 0] [])]) k6 rfl rfl rfl (kQ hc21 (kQ hc23 (rB hc25)))) (Oc oa ?_)
      refine af.ak ⟨[(3,_),(4,_),(6,_),(7,.b (.iK 64 [.ptr 105 0] []))],[(102,_),(103,_),(105,_)]⟩ rfl (ab.seq (ab.aa ?_))
      refine Oc om (Oc (qn vU rfl) ?_)
      refine af.ak ⟨[(3,_),(4,_),(6,_),(7,_),(55,B true)],[(102,_),(103,_),(105,_)]⟩ rfl (ab.tL rfl (ab.aa (Oc om (Oc (lp gb) ?_))))
      refine af.uF 105 rfl (af.iW 105 10 109 7 42 rfl rfl (by decide) (by decide) rfl ?_)
      obtain ⟨x_17,e26,h20⟩:=aP h20
      refine Oc (kg (own_a:=[(105,_),(109,_)]) (((mX e26).sw 1 105).sw 2 109) goes64 rfl rfl rfl ⟨rfl,rfl,trivial⟩ rfl rfl) (af.nil (Fin.ai ⟨[(4,Pt 103 0),(6,Pt 105 0)],[(103,.box 31 [.i 0,.i 0,.i 0,.nil,.nil,.nil,.nil,.nil,.nil,.nil]),(105,.aW 95 [.one (.i x_17.Me),.one (.i x_17.Regions),.one (.i x_17.Step),.one (.sl 1 (x_17.Home.map eI)),.one (.sl 1 (x_17.Heard.map eB)),.one (.sl 1 (x_17.Sets.map (eL 1 eI))),.one (.sl 1 (x_17.States.map eS)),.one (.sl 3 (x_17.Tasks.map ao)),.one (.sl 1 (x_17.Done.map eB)),.one (.sl 1 (x_17.Results.map eS)),.row 109]),(109,.row 42 7 ([].map ah))]⟩ rfl (Fin.rename 109 107 rfl (by decide) rfl ?_)))
      exact Fin.join [4,6] [103,105,107] (x_17.Me,x_17.Regions,x_17.Step,x_17.Home,x_17.Heard,x_17.Sets,x_17.States,x_17.Tasks,x_17.Done,x_17.Results,[]) (Option.some.inj h20) rfl
     ·refine Oc (pM (l:=[(1,.iK 62 [.ptr 105 0] []),(2,.iK 63 [.ptr 105 0] []),(3,.iK 64 [.ptr 105 0] [])]) k6 rfl rfl rfl (kQ hc21 (kQ hc23 (kQ hc25 rfl)))) (Oc oa ?_)
      refine af.ak ⟨[(3,_),(4,_),(6,_),(7,.b (.one (.raw .nilFunc)))],[(102,_),(103,_),(105,_)]⟩ rfl (ab.seq (ab.aa ?_))
      refine Oc om (Oc (ur vU rfl) ?_)
      refine af.ak ⟨[(3,Pt 102 0),(4,Pt 103 0),(6,Pt 105 0),(7,.b (.one (.raw .nilFunc))),(55,B false)],[(102,.box 42 (ah l0)),(103,.box 31 [.i 0,.i 0,.i 0,.nil,.nil,.nil,.nil,.nil,.nil,.nil]),(105,.box 95 (ay r0 ++ ([.nil])))]⟩ rfl (ab.xE rfl (ab.skip (Fin.ai ⟨[(4,_),(6,_)],[(103,_),(105,_)]⟩ rfl (Fin.uF 105 rfl (Fin.iW 105 10 107 7 42 rfl rfl (by decide) (by decide) rfl ?_)))))
      exact Fin.join [4,6] [103,105,107] (r0.Me,r0.Regions,r0.Step,r0.Home,r0.Heard,r0.Sets,r0.States,r0.Tasks,r0.Done,r0.Results,[]) (Option.some.inj h20) rfl
  ·rintro ⟨r_3,nf1_4,nf2_5,nf3_6,nf4_7,nf5_8,nf6_9,nf7_10,nf8_11,nf9_12,out_13⟩ hv
   subst v19
   refine ab.seq (ab.ai ⟨[(4,_),(6,_)],[(103,_),(105,_),(107,_)]⟩ rfl (ab.ff mixed [false,false,false,false,false,false,false,false,true,false] [Pt 105 0,Pt 105 0,Pt 105 0,.b (.agg [.i r_3,.i nf1_4,.i nf2_5,.sl 1 (nf3_6.map eI),.sl 1 (nf4_7.map eB),.sl 1 (nf5_8.map (eL 1 eI)),.sl 1 (nf6_9.map eS),.sl 3 (nf7_10.map ao),.sl 1 (nf8_11.map eB),.sl 1 (nf9_12.map eS)]),Pt 105 0,Pt 105 0,Pt 105 10,.b (.row 107),B true,.b (.row 107)] [⟨[false,false,false,false,false,false,false,false,false,false],[(4,Pt 103 0),(6,Pt 105 0)],[(103,.box 31 [.i 0,.i 0,.i 0,.nil,.nil,.nil,.nil,.nil,.nil,.nil]),(105,.aW 95 [.one (.i r_3),.one (.i nf1_4),.one (.i nf2_5),.one (.sl 1 (nf3_6.map eI)),.one (.sl 1 (nf4_7.map eB)),.one (.sl 1 (nf5_8.map (eL 1 eI))),.one (.sl 1 (nf6_9.map eS)),.one (.sl 3 (nf7_10.map ao)),.one (.sl 1 (nf8_11.map eB)),.one (.sl 1 (nf9_12.map eS)),.row 107]),(107,.row 42 7 (out_13.map ah))],[true,true,true,true,true,true,true,true,true,true],[],[9]⟩,⟨[false,false,false,false,false,false,false,false,true,false],[(4,Pt 103 0),(6,Pt 105 0)],[(103,.box 31 [.i r_3,.i nf1_4,.i nf2_5,.sl 1 (nf3_6.map eI),.sl 1 (nf4_7.map eB),.sl 1 (nf5_8.map (eL 1 eI)),.sl 1 (nf6_9.map eS),.sl 3 (nf7_10.map ao),.sl 1 (nf8_11.map eB),.sl 1 (nf9_12.map eS)]),(105,.aW 95 [.one (.i r_3),.one (.i nf1_4),.one (.i nf2_5),.one (.sl 1 (nf3_6.map eI)),.one (.sl 1 (nf4_7.map eB)),.one (.sl 1 (nf5_8.map (eL 1 eI))),.one (.sl 1 (nf6_9.map eS)),.one (.sl 3 (nf7_10.map ao)),.one (.sl 1 (nf8_11.map eB)),.one (.sl 1 (nf9_12.map eS)),.row 107]),(107,.row 42 7 (out_13.map ah))],[true,true,true,true,true,true,true,true,true,true],[0,1,2,3,8],[]⟩] rfl (⟨by kernel_rfl,⟨⟨Pt 105 0,fun _=>rfl,fun _=>.p (by exact ax rfl)⟩,⟨Pt 105 0,fun _=>rfl,fun _=>.p (by exact aG rfl)⟩,⟨Pt 105 0,fun _=>rfl,fun _=>.p (by exact ae bm rfl rfl)⟩,⟨.b (.agg [.i r_3,.i nf1_4,.i nf2_5,.sl 1 (nf3_6.map eI),.sl 1 (nf4_7.map eB),.sl 1 (nf5_8.map (eL 1 eI)),.sl 1 (nf6_9.map eS),.sl 3 (nf7_10.map ao),.sl 1 (nf8_11.map eB),.sl 1 (nf9_12.map eS)]),fun _=>rfl,fun _=>.p (by exact ld aU rfl rfl rfl rfl)⟩,⟨Pt 105 0,fun _=>rfl,fun _=>.p (by exact ax rfl)⟩,⟨Pt 105 0,fun _=>rfl,fun _=>.p (by exact aG rfl)⟩,⟨Pt 105 10,fun _=>rfl,fun _=>.p (by exact ae jh rfl rfl)⟩,⟨.b (.row 107),fun _=>rfl,fun _=>.p (by exact aX jX rfl rfl rfl)⟩,⟨_,[],.b (.one .any),rfl,(fun e=>by simp at e),rfl,rfl,fun _=>.jG [103,105,107] (by exact .p (by exact aR aU rfl rfl rfl rfl (Nat.le_of_ble_eq_true rfl) rfl)) (by exact rfl)⟩,trivial,trivial⟩,⟨by kernel_rfl,⟨trivial,trivial,trivial,trivial,⟨Pt 105 0,fun _=>rfl,fun _=>.p (by exact ax rfl)⟩,⟨Pt 105 0,fun _=>rfl,fun _=>.p (by exact aG rfl)⟩,⟨Pt 105 10,fun _=>rfl,fun _=>.p (by exact ae jh rfl rfl)⟩,⟨.b (.row 107),fun _=>rfl,fun _=>.p (by exact aX jX rfl rfl rfl)⟩,trivial,⟨.b (.row 107),fun _=>rfl,fun _=>.p (by exact dH rfl)⟩,trivial⟩,trivial⟩⟩) rfl rfl rfl [4,5] [103,107] (s':=⟨[(4,_),(5,.b (.row 107))],[(103,.box 31 [.i r_3,.i nf1_4,.i nf2_5,.sl 1 (nf3_6.map eI),.sl 1 (nf4_7.map eB),.sl 1 (nf5_8.map (eL 1 eI)),.sl 1 (nf6_9.map eS),.sl 3 (nf7_10.map ao),.sl 1 (nf8_11.map eB),.sl 1 (nf9_12.map eS)]),(107,_)]⟩) rfl ?_))
   refine ab.ret ?_
   obtain rfl:=Option.some.inj h
   refine Fin.ai ⟨[(4,_),(5,_)],[(103,_),(107,_)]⟩ rfl (Fin.dD 107 kr0 [.agg [.i r_3,.i nf1_4,.i nf2_5,.sl 1 (nf3_6.map eI),.sl 1 (nf4_7.map eB),.sl 1 (nf5_8.map (eL 1 eI)),.sl 1 (nf6_9.map eS),.sl 3 (nf7_10.map ao),.sl 1 (nf8_11.map eB),.sl 1 (nf9_12.map eS)],.row 107] (.inl rfl) rfl (.cons (.agg aU rfl rfl rfl rfl) (.cons (.tmp rfl) .nil)) rfl rfl rfl rfl ⟨rfl,rfl⟩)
def dO (F:Nat) (r0:Round) (k0:Int):Option Bool :=
 (aV r0.Tasks k0).bind fun x_1=>(aK (decide (x_1.Owner = r0.Me)) (aV r0.Done k0)).bind fun x_2=>(aK ((decide (x_1.Owner = r0.Me)) && (!x_2)) (dV F r0.States x_1.Bodies)).bind fun x_3=>(aK ((decide (x_1.Owner = r0.Me)) && (!x_2)) (cr F x_3 [])).bind fun x_4=>some (((decide (x_1.Owner = r0.Me)) && (!x_2)) && (!x_4))
theorem lq {F:Nat} {r0:Round} {k0:Int} {r:Bool} (h:dO F r0 k0 = some r):aA Try.prog [] 50 [] [.agg (ay r0),.one (.i k0)] (Is [] (.b (.one (.bool r)))):=by
 unfold dO at h
 refine aA.intro 33 Try.func50 Try.ntmps50 rfl (by simp) fun E=>?_
 show ab _ E ⟨33,[],[],[]⟩ _ ⟨[(0,.b (.agg (ay r0))),(1,I k0)],[]⟩ _
 refine ab.seq (ab.aa ?_)
 refine Oc (fv (k:=101) rfl rfl) (Oc oa ?_)
 refine af.ak ⟨[(1,I k0),(2,Pt 101 0)],[(101,.box 31 (ay r0))]⟩ rfl (ab.seq (ab.aa ?_))
 refine Oc (ae c9 rfl rfl) (Oc (ag ey rfl rfl rfl) (Oc om ?_))
 obtain ⟨x_1,e1,h⟩:=aP h
 refine Oc (an fF (aL e1) (aB (e:=ao) e1) rfl rfl) (Oc (fl fR rfl rfl rfl) (Oc (cz (k:=102) ke rfl) (Oc (aR fR rfl rfl rfl rfl (Nat.le_of_ble_eq_true rfl) rfl) ?_)))
 refine af.ak ⟨[(1,_),(2,_),(5,Pt 102 0)],[(101,_),(102,.box 59 (ao x_1))]⟩ rfl (ab.seq (ab.aa ?_))
 refine Oc (ae fJ rfl rfl) (Oc (ag aD rfl rfl rfl) (Oc (ae cJ rfl rfl) (Oc (ag aD rfl rfl rfl) (Oc (di rfl rfl) (Oc om ?_)))))
 refine dt (decide (x_1.Owner = r0.Me)) [] (fun g2=>trivial) (fun g2=>ae eG rfl rfl) (af.ai ⟨[(1,_),(2,_),(5,_),(16,B (decide (x_1.Owner = r0.Me))),(17,.opt (decide (x_1.Owner = r0.Me)) (.ptr 101 8))],[(101,_),(102,_)]⟩ rfl (dt (decide (x_1.Owner = r0.Me)) [17] (fun g3=>⟨g3,trivial⟩) (fun g3=>ag dd rfl rfl rfl) (dt (decide (x_1.Owner = r0.Me)) [] (fun g4=>trivial) (fun g4=>om) ?_)))
 obtain ⟨x_2,e6,h⟩:=aP h
 refine dt (decide (x_1.Owner = r0.Me)) [18,19] (fun g5=>⟨g5,g5,trivial⟩) (fun g5=>an dK (aL (gc e6 g5)) (aB (e:=eB) (gc e6 g5)) rfl rfl) (dt (decide (x_1.Owner = r0.Me)) [20] (fun g7=>⟨g7,trivial⟩) (fun g7=>au gx rfl rfl) (dt (decide (x_1.Owner = r0.Me)) [21] (fun g8=>⟨g8,trivial⟩) (fun g8=>cL rfl) (Oc (aT (fun e=>e) rfl rfl rfl rfl) (Oc om ?_))))
 refine dt ((decide (x_1.Owner = r0.Me)) && (!x_2)) [] (fun g9=>trivial) (fun g9=>ae gO rfl rfl) (af.ai ⟨[(5,_),(24,B ((decide (x_1.Owner = r0.Me)) && (!x_2))),(25,.opt ((decide (x_1.Owner = r0.Me)) && (!x_2)) (.ptr 101 6))],[(101,_),(102,_)]⟩ rfl (dt ((decide (x_1.Owner = r0.Me)) && (!x_2)) [25] (fun g10=>⟨g10,trivial⟩) (fun g10=>ag b6 rfl rfl rfl) (dt ((decide (x_1.Owner = r0.Me)) && (!x_2)) [] (fun g11=>trivial) (fun g11=>ae dE rfl rfl) (dt ((decide (x_1.Owner = r0.Me)) && (!x_2)) [27] (fun g12=>⟨g12,trivial⟩) (fun g12=>ag aN rfl rfl rfl) ?_))))
 obtain ⟨x_3,e14,h⟩:=aP h
 refine dt ((decide (x_1.Owner = r0.Me)) && (!x_2)) [26,28] (fun g13=>⟨g13,g13,trivial⟩) (fun g13=>az (jR 0 (gc e14 g13)).fp u4 rfl rfl) (af.ai ⟨[(24,_),(29,.opt ((decide (x_1.Owner = r0.Me)) && (!x_2)) (.one (.sl 1 (x_3.map eS))))],[]⟩ rfl ?_)
 obtain ⟨x_4,e16,h⟩:=aP h
 refine dt ((decide (x_1.Owner = r0.Me)) && (!x_2)) [29] (fun g15=>⟨g15,trivial⟩) (fun g15=>az (gA (gc e16 g15)) u6 rfl rfl) (dt ((decide (x_1.Owner = r0.Me)) && (!x_2)) [30] (fun g17=>⟨g17,trivial⟩) (fun g17=>cL rfl) (Oc (aT (fun e=>e) rfl rfl rfl rfl) (Oc oa ?_)))
 refine af.ak ⟨[(4,B (((decide (x_1.Owner = r0.Me)) && (!x_2)) && (!x_4)))],[]⟩ rfl (ab.ret ?_)
 obtain rfl:=Option.some.inj h
 refine Fin.ai ⟨[(4,_)],[]⟩ rfl (Fin.aM [.one (.bool (((decide (x_1.Owner = r0.Me)) && (!x_2)) && (!x_4)))] (.inl rfl) rfl (.cons (.tmp rfl) .nil) ⟨rfl,rfl⟩)
def dY (F:Nat) (r0:Round):Option (List Int) :=
 Option.bind (iter F (eU fun out_2 x_3=>if (decide (x_3 < (r0.Tasks.length:Int))) = true then (Option.bind ((dO F r0 x_3).bind fun x_6=>if x_6 = true then ((eF out_2 [x_3]).bind fun x_7=>some x_7) else (some out_2)) (fun out_5=>some (.inl (out_5,IntKind.i64.wrap (x_3 + 1))))) else (some (.inr out_2))) ([],0)) (fun out_1=>some out_1)
theorem jV (kr0:Nat) {F:Nat} {r0:Round} {r:(List Int)} (h:dY F r0 = some r):aA Try.prog [] 20 [] [.agg (ay r0)] (Is [(kr0,.row 3 1 (r.map eI))] (.b (.row kr0))):=by
 unfold dY at h
 refine aA.intro 20 Try.func20 Try.ntmps20 rfl (by simp) fun E=>?_
 show ab _ E ⟨20,[],[],[]⟩ _ ⟨[(0,.b (.agg (ay r0)))],[]⟩ _
 refine ab.seq (ab.aa ?_)
 refine Oc (fv (k:=101) rfl rfl) (Oc oa ?_)
 refine af.ak ⟨[(1,Pt 101 0)],[(101,.box 31 (ay r0))]⟩ rfl (ab.seq (ab.aa ?_))
 refine Oc oa (af.ak ⟨[(1,_),(3,.b (.one (.nil)))],[(101,_)]⟩ rfl ?_)
 obtain ⟨v1,h2,h⟩:=aP h
 refine ab.ca (v:=v1) (fun (out_1:List Int)=>⟨[(3,.b (.row 103))],[(103,.row 3 1 (out_1.map eI))]⟩) (fun z=>z) ?_ ?_
 ·refine ab.seq (ab.aa ?_)
  refine Oc (ae c9 rfl rfl) (Oc (ag ey rfl rfl rfl) (Oc (av kW rfl (List.length_map _)) (Oc om ?_)))
  refine af.ak ⟨[(1,_),(3,_),(7,I (r0.Tasks.length:Int)),(8,I 0)],[(101,_)]⟩ rfl (ab.block (ab.dc 3 103 1 3 rfl (by decide) rfl (ab.bZ h2 (eU fun (out_2:List Int) (x_3:Int)=>⟨[(1,Pt 101 0),(3,.b (.row 103)),(7,I (r0.Tasks.length:Int)),(8,I x_3)],[(101,.box 31 (ay r0)),(103,.row 3 1 (out_2.map eI))]⟩) [1,3,7,8] [101,103] rfl ?_)))
  rintro ⟨out_2,x_3⟩ o3 h4 hy5
  refine ab.seq (ab.aa ?_)
  refine Oc (aY rfl rfl) (af.ak ⟨[(1,_),(3,_),(7,_),(8,_),(9,B (decide (x_3 < (r0.Tasks.length:Int))))],[(101,_),(103,_)]⟩ rfl (ab.seq (ab.ite h4 rfl (fun _ h4=>?_) (fun _ h4=>?_))))
  ·refine ab.skip (Fin.ai ⟨[(1,_),(3,_),(7,_),(8,_)],[(101,_),(103,_)]⟩ rfl (Fin.then ?_))
   obtain ⟨v6,h7,h4⟩:=aP h4
   refine ab.ca (v:=v6) (fun (out_5:List Int)=>⟨[(1,Pt 101 0),(3,.b (.row 103)),(7,I (r0.Tasks.length:Int)),(8,I x_3)],[(101,.box 31 (ay r0)),(103,.row 3 1 (out_5.map eI))]⟩) (fun z=>z) ?_ ?_
   ·refine ab.block (ab.seq (ab.aa ?_))
    refine Oc om (Oc oa ?_)
    refine af.ak ⟨[(1,_),(3,_),(4,I x_3),(7,_),(8,_)],[(101,_),(103,_)]⟩ rfl (ab.seq (ab.aa ?_))
    refine Oc (lp aU) (Oc om ?_)
    obtain ⟨x_6,e8,h7⟩:=aP h7
    refine Oc (az (lq e8) xZ rfl rfl) (af.ak ⟨[(1,_),(3,_),(4,_),(7,_),(8,_),(13,B x_6)],[(101,_),(103,_)]⟩ rfl (ab.ite h7 rfl (fun _ h7=>?_) (fun _ h7=>?_)))
    ·refine ab.aa (Oc om (Oc om (Oc (aO (k:=104) (es:=[x_3].map eI) aQ rfl rfl (bc fun _=>rfl) rfl (by decide) (by decide) rfl) ?_)))
     obtain ⟨x_7,e9,h7⟩:=aP h7
     refine Oc (b4 aQ (ec e9) (dZ e9) rfl rfl rfl rfl (cf e9) rfl) (Oc oa ?_)
     refine af.nil (Fin.ar ?_)
     exact Fin.join [1,3,7,8] [101,103] x_7 (Option.some.inj h7) rfl
    ·refine ab.skip (Fin.ar ?_)
     exact Fin.join [1,3,7,8] [101,103] out_2 (Option.some.inj h7) rfl
   ·rintro out_5 hv
    subst v6
    refine ab.aa (Oc (bh rfl rfl) (Oc om ?_))
    refine af.nil ?_
    exact Fin.bp [1,3,7,8] [101,103] (out_5,IntKind.i64.wrap (x_3 + 1)) (Option.some.inj h4) rfl
  ·refine ab.exit (Fin.aq ?_)
   obtain rfl:=hy5 _ (Option.some.inj h4).symm
   refine Fin.aq (Fin.aE ?_)
   exact Fin.join [3] [103] out_2 rfl rfl
 ·rintro out_1 hv
  subst v1
  refine ab.seq (ab.aa ?_)
  refine Oc om (Oc oa ?_)
  refine af.ak ⟨[(2,.b (.row 103))],[(103,_)]⟩ rfl (ab.ret ?_)
  obtain rfl:=Option.some.inj h
  refine Fin.ai ⟨[(2,_)],[(103,_)]⟩ rfl (Fin.dD 103 kr0 [.row 103] (.inl rfl) rfl (.cons (.tmp rfl) .nil) rfl rfl rfl rfl ⟨rfl,rfl⟩)
def eK (F:Nat) (s0:List de):Option (List de) :=
 (eF [] s0).bind fun x_2=>some x_2
theorem oG (kr0:Nat) {F:Nat} {s0:List de} {r:(List de)} (h:eK F s0 = some r):aA Try.prog [] 53 [] [.one (.sl 1 (s0.map eS))] (Is [(kr0,.row 9 1 (r.map eS))] (.b (.row kr0))):=by
 unfold eK at h
 refine aA.intro 8 Try.func53 Try.ntmps53 rfl (by simp) fun E=>?_
 show ab _ E ⟨8,[],[],[]⟩ _ ⟨[(0,.b (.one (.sl 1 (s0.map eS))))],[]⟩ _
 refine ab.seq (ab.aa ?_)
 refine Oc oa (af.ak ⟨[(0,.b (.one (.sl 1 (s0.map eS))))],[]⟩ rfl (ab.seq (ab.seq (ab.aa ?_))))
 refine Oc om (af.wE lM rfl (fun nb_1 hnb1=>?_))
 refine af.ak ⟨[(0,_),(4,B nb_1)],[]⟩ rfl (ab.cond rfl (fun hc2=>?_) (fun _=>?_))
 ·
  obtain rfl:s0 = []:=by simpa using hnb1 hc2
  refine ab.seq (ab.aa ?_)
  refine Oc oa (af.ak ⟨[(2,.b (.one (.nil)))],[]⟩ rfl (ab.ret (Fin.aw ?_)))
  obtain rfl:[] = r:=by first | (simp [eF] at h; exact h) | (simp [eF] at h; exact h.symm)
  refine Fin.ai ⟨[(2,_)],[]⟩ rfl (Fin.dc 2 101 1 9 rfl (by decide) rfl (Fin.dD 101 kr0 [.row 101] (.inl rfl) rfl (.cons (.tmp rfl) .nil) rfl rfl rfl rfl ⟨rfl,rfl⟩))
 ·refine ab.skip (Fin.ai ⟨[(0,_)],[]⟩ rfl (Fin.then (ab.seq (ab.aa ?_))))
  refine Oc (iB (k:=101) cw rfl) (Oc om ?_)
  obtain ⟨x_2,e3,h⟩:=aP h
  refine Oc (gq cw (ec e3) (dZ e3) rfl rfl rfl (cf e3) rfl) (Oc oa ?_)
  refine af.ak ⟨[(2,.b (.row 101))],[(101,.row 9 1 (x_2.map eS))]⟩ rfl (ab.ret ?_)
  obtain rfl:=Option.some.inj h
  refine Fin.ai ⟨[(2,_)],[(101,_)]⟩ rfl (Fin.dD 101 kr0 [.row 101] (.inl rfl) rfl (.cons (.tmp rfl) .nil) rfl rfl rfl rfl ⟨rfl,rfl⟩)
def eh (F:Nat) (r0:Round) (task0:Int) (states0:List de):Option (Round × (List aI) × Int) :=
 bu ((decide (task0 < 0)) || (decide ((r0.Tasks.length:Int) ≤ task0))) fun x_1=>if x_1 = true then (some ((⟨0,0,0,[],[],[],[],[],[],[]⟩:Round),[],5)) else ((aV r0.Tasks task0).bind fun x_2=>(aV r0.Done task0).bind fun x_3=>if x_3 = true then (some ((⟨0,0,0,[],[],[],[],[],[],[]⟩:Round),[],6)) else ((dO F r0 task0).bind fun x_4=>if (!x_4) = true then (some ((⟨0,0,0,[],[],[],[],[],[],[]⟩:Round),[],4)) else ((aK (!(decide ((states0.length:Int) ≠ (x_2.Bodies.length:Int)))) (cr F states0 [])).bind fun x_5=>bu ((decide ((states0.length:Int) ≠ (x_2.Bodies.length:Int))) || x_5) fun x_6=>if x_6 = true then (some ((⟨0,0,0,[],[],[],[],[],[],[]⟩:Round),[],1)) else ((ee F r0.Done).bind fun x_7=>(eK F r0.Results).bind fun x_8=>(aV x_7 task0).bind fun x_9=>Option.bind (mk? ([]:de) (r0.Home.length:Int) (r0.Home.length:Int)) (fun x_10=>(dX F x_10 x_2.Bodies states0).bind fun x_11=>Option.bind ((eo F x_2.Bodies r0.Me (⟨r0.Me,r0.Regions,r0.Step,r0.Home,r0.Heard,r0.Sets,r0.States,r0.Tasks,x_7.set (task0:Int).toNat true,x_8⟩:Round) []).bind fun x_13=>iter F (eU fun nf9_14 x_15=>if (decide (x_15 < (x_13.length:Int))) = true then ((aV x_13 x_15).bind fun x_17=>(aV x_11 x_17).bind fun x_18=>(aV nf9_14 x_17).bind fun x_19=>some (.inl (nf9_14.set (x_17:Int).toNat x_18,IntKind.i64.wrap (x_15 + 1)))) else (some (.inr nf9_14))) (x_8,0)) (fun nf9_12=>Option.bind (iter F (wJ fun nf8_23 nf9_24 out_25 x_26=>if (decide (x_26 < (x_2.Helpers.length:Int))) = true then ((aV x_2.Helpers x_26).bind fun x_30=>(dB F x_2.Bodies x_30 (⟨r0.Me,r0.Regions,r0.Step,r0.Home,r0.Heard,r0.Sets,r0.States,r0.Tasks,nf8_23,nf9_24⟩:Round) out_25).bind fun x_31=>(dV F x_11 x_31).bind fun x_32=>bu (⟨3,0,0,x_30,[],x_31,x_32⟩:aI) fun x_33=>(cW F x_33 (⟨r0.Me,r0.Regions,r0.Step,r0.Home,r0.Heard,r0.Sets,r0.States,r0.Tasks,nf8_23,nf9_24⟩:Round) out_25).bind fun x_34=>some (.inl (nf8_23,nf9_24,x_34,IntKind.i64.wrap (x_26 + 1)))) else (some (.inr (nf8_23,nf9_24,out_25)))) (x_7.set (task0:Int).toNat true,nf9_12,[],0)) (rf fun nf8_20 nf9_21 out_22=>some ((⟨r0.Me,r0.Regions,r0.Step,r0.Home,r0.Heard,r0.Sets,r0.States,r0.Tasks,nf8_20,nf9_21⟩:Round),out_22,0))))))))
theorem lY (kr0:Nat) {F:Nat} {r0:Round} {task0:Int} {states0:List de} {r:Round × (List aI) × Int} (h:eh F r0 task0 states0 = some r):aA Try.prog [] 15 [] [.agg (ay r0),.one (.i task0),.one (.sl 1 (states0.map eS))] (Is [(kr0,.row 42 7 (r.2.1.map ah))] (.gR [.agg (ay r.1),.row kr0,.one (.i r.2.2)])):=by
 unfold eh at h
 refine aA.intro 141 Try.func15 Try.ntmps15 rfl (by simp) fun E=>?_
 show ab _ E ⟨141,[],[],[]⟩ _ ⟨[(0,.b (.agg (ay r0))),(1,I task0),(2,.b (.one (.sl 1 (states0.map eS))))],[]⟩ _
 refine ab.seq (ab.aa ?_)
 refine Oc (fv (k:=101) rfl rfl) (Oc (cz (k:=102) hC rfl) (Oc oa (Oc oa ?_)))
 refine af.ak ⟨[(1,I task0),(2,.b (.one (.sl 1 (states0.map eS)))),(3,Pt 101 0),(6,Pt 102 0)],[(101,.box 31 (ay r0)),(102,.box 31 [.i 0,.i 0,.i 0,.nil,.nil,.nil,.nil,.nil,.nil,.nil])]⟩ rfl (ab.seq (ab.seq (ab.aa ?_)))
 refine Oc om (Oc (aY rfl rfl) (Oc om ?_))
 refine bF (!(decide (task0 < 0))) [] (fun g1=>trivial) (fun g1=>om) (bF (!(decide (task0 < 0))) [] (fun g2=>by exact trivial) (fun g2=>ae c9 rfl rfl) (bF (!(decide (task0 < 0))) [21] (fun g3=>by exact ⟨g3,trivial⟩) (fun g3=>ag ey rfl rfl rfl) (af.ai ⟨[(1,_),(2,_),(3,_),(6,_),(19,B (decide (task0 < 0))),(20,.opt (!(decide (task0 < 0))) (.one (.i task0))),(22,.opt (!(decide (task0 < 0))) (.one (.sl 3 (r0.Tasks.map ao))))],[(101,_),(102,_)]⟩ rfl (bF (!(decide (task0 < 0))) [22] (fun g4=>by exact ⟨g4,trivial⟩) (fun g4=>av kW rfl (List.length_map _)) (bF (!(decide (task0 < 0))) [20,23] (fun g5=>by exact ⟨g5,g5,trivial⟩) (fun g5=>gk rfl rfl) ?_)))))
 refine af.fQ h rfl (aF (fun e=>by first | (rw [e]; rfl) | (simp only at e; rw [e]; rfl)) rfl rfl rfl rfl) (fun x_1 h=>?_)
 refine af.ak ⟨[(1,_),(2,_),(3,_),(6,_),(25,B x_1)],[(101,_),(102,_)]⟩ rfl (ab.ite h rfl (fun _ h=>?_) (fun _ h=>?_))
 ·refine ab.seq (ab.aa ?_)
  refine Oc (bD.jH (.same (.same (.same (.sl (size:=1) (by decide) (.sl (size:=1) (by decide) (.sl (size:=1) (by decide) (.sl (size:=1) (by decide) (.sl (size:=3) (by decide) (.same (.same (.nil))))))))))) (cc iz rfl rfl)) (Oc (aR aU rfl rfl rfl rfl (Nat.le_of_ble_eq_true rfl) rfl) (Oc oa (Oc oa ?_)))
  refine af.ak ⟨[(6,_),(7,.b (.one (.nil))),(8,I 5)],[(102,.box 31 [.i 0,.i 0,.i 0,.sl 1 ([].map eI),.sl 1 ([].map eB),.sl 1 ([].map (eL 1 eI)),.sl 1 ([].map eS),.sl 3 ([].map ao),.nil,.nil])]⟩ rfl (ab.ret (Fin.aw ?_))
  obtain rfl:=Option.some.inj h
  refine Fin.ai ⟨[(6,_),(7,_),(8,_)],[(102,_)]⟩ rfl (Fin.bE 102 8 1 rfl rfl (by decide) (Fin.bE 102 9 1 rfl rfl (by decide) (Fin.dc 7 103 7 42 rfl (by decide) rfl (Fin.dD 103 kr0 [.agg [.i 0,.i 0,.i 0,.sl 1 ([].map eI),.sl 1 ([].map eB),.sl 1 ([].map (eL 1 eI)),.sl 1 ([].map eS),.sl 3 ([].map ao),.sl 1 ([].map eB),.sl 1 ([].map eS)],.row 103,.one (.i 5)] (.inl rfl) rfl (.cons (.agg aU rfl rfl rfl rfl) (.cons (.tmp rfl) (.cons (.tmp rfl) .nil))) rfl rfl rfl rfl ⟨rfl,rfl⟩))))
 ·refine ab.skip (Fin.ai ⟨[(1,_),(2,_),(3,_),(6,_)],[(101,_),(102,_)]⟩ rfl (Fin.then (ab.seq (ab.aa ?_))))
  refine Oc (ae c9 rfl rfl) (Oc (ag ey rfl rfl rfl) (Oc om ?_))
  obtain ⟨x_2,e6,h⟩:=aP h
  refine Oc (an fF (aL e6) (aB (e:=ao) e6) rfl rfl) (Oc (fl fR rfl rfl rfl) (Oc (cz (k:=104) ke rfl) (Oc (aR fR rfl rfl rfl rfl (Nat.le_of_ble_eq_true rfl) rfl) ?_)))
  refine af.ak ⟨[(1,_),(2,_),(3,_),(6,_),(9,Pt 104 0)],[(101,_),(102,_),(104,.box 59 (ao x_2))]⟩ rfl (ab.seq (ab.block (ab.seq (ab.aa ?_))))
  refine Oc (ae eG rfl rfl) (Oc (ag dd rfl rfl rfl) (Oc om ?_))
  obtain ⟨x_3,e7,h⟩:=aP h
  refine Oc (an dK (aL e7) (aB (e:=eB) e7) rfl rfl) (Oc (au gx rfl rfl) (Oc oa ?_))
  refine af.ak ⟨[(1,_),(2,_),(3,_),(6,_),(9,_),(32,B x_3)],[(101,_),(102,_),(104,_)]⟩ rfl (ab.ite h rfl (fun _ h=>?_) (fun _ h=>?_))
  ·refine ab.seq (ab.aa ?_)
   refine Oc (bD.jH (.same (.same (.same (.sl (size:=1) (by decide) (.sl (size:=1) (by decide) (.sl (size:=1) (by decide) (.sl (size:=1) (by decide) (.sl (size:=3) (by decide) (.same (.same (.nil))))))))))) (cc iz rfl rfl)) (Oc (aR aU rfl rfl rfl rfl (Nat.le_of_ble_eq_true rfl) rfl) (Oc oa (Oc oa ?_)))
   refine af.ak ⟨[(6,_),(7,.b (.one (.nil))),(8,I 6)],[(102,.box 31 [.i 0,.i 0,.i 0,.sl 1 ([].map eI),.sl 1 ([].map eB),.sl 1 ([].map (eL 1 eI)),.sl 1 ([].map eS),.sl 3 ([].map ao),.nil,.nil])]⟩ rfl (ab.ret (Fin.aJ (Fin.aw ?_)))
   obtain rfl:=Option.some.inj h
   refine Fin.ai ⟨[(6,_),(7,_),(8,_)],[(102,_)]⟩ rfl (Fin.bE 102 8 1 rfl rfl (by decide) (Fin.bE 102 9 1 rfl rfl (by decide) (Fin.dc 7 105 7 42 rfl (by decide) rfl (Fin.dD 105 kr0 [.agg [.i 0,.i 0,.i 0,.sl 1 ([].map eI),.sl 1 ([].map eB),.sl 1 ([].map (eL 1 eI)),.sl 1 ([].map eS),.sl 3 ([].map ao),.sl 1 ([].map eB),.sl 1 ([].map eS)],.row 105,.one (.i 6)] (.inl rfl) rfl (.cons (.agg aU rfl rfl rfl rfl) (.cons (.tmp rfl) (.cons (.tmp rfl) .nil))) rfl rfl rfl rfl ⟨rfl,rfl⟩))))
  ·refine ab.seq (ab.aa ?_)
   refine Oc (lp aU) (Oc om ?_)
   obtain ⟨x_4,e8,h⟩:=aP h
   refine Oc (az (lq e8) xZ rfl rfl) (Oc (cL rfl) (Oc oa ?_))
   refine af.ak ⟨[(1,_),(2,_),(3,_),(6,_),(9,_),(39,B (!x_4))],[(101,_),(102,_),(104,_)]⟩ rfl (ab.ite h rfl (fun _ h=>?_) (fun _ h=>?_))
   ·refine ab.seq (ab.aa ?_)
    refine Oc (bD.jH (.same (.same (.same (.sl (size:=1) (by decide) (.sl (size:=1) (by decide) (.sl (size:=1) (by decide) (.sl (size:=1) (by decide) (.sl (size:=3) (by decide) (.same (.same (.nil))))))))))) (cc iz rfl rfl)) (Oc (aR aU rfl rfl rfl rfl (Nat.le_of_ble_eq_true rfl) rfl) (Oc oa (Oc oa ?_)))
    refine af.ak ⟨[(6,_),(7,.b (.one (.nil))),(8,I 4)],[(102,.box 31 [.i 0,.i 0,.i 0,.sl 1 ([].map eI),.sl 1 ([].map eB),.sl 1 ([].map (eL 1 eI)),.sl 1 ([].map eS),.sl 3 ([].map ao),.nil,.nil])]⟩ rfl (ab.ret (Fin.aJ (Fin.aw ?_)))
    obtain rfl:=Option.some.inj h
    refine Fin.ai ⟨[(6,_),(7,_),(8,_)],[(102,_)]⟩ rfl (Fin.bE 102 8 1 rfl rfl (by decide) (Fin.bE 102 9 1 rfl rfl (by decide) (Fin.dc 7 106 7 42 rfl (by decide) rfl (Fin.dD 106 kr0 [.agg [.i 0,.i 0,.i 0,.sl 1 ([].map eI),.sl 1 ([].map eB),.sl 1 ([].map (eL 1 eI)),.sl 1 ([].map eS),.sl 3 ([].map ao),.sl 1 ([].map eB),.sl 1 ([].map eS)],.row 106,.one (.i 4)] (.inl rfl) rfl (.cons (.agg aU rfl rfl rfl rfl) (.cons (.tmp rfl) (.cons (.tmp rfl) .nil))) rfl rfl rfl rfl ⟨rfl,rfl⟩))))
   ·refine ab.seq (ab.aa ?_)
    refine Oc om (Oc (av lM rfl (List.length_map _)) (Oc (ae dE rfl rfl) (Oc (ag aN rfl rfl rfl) (Oc (av bR rfl (List.length_map _)) ?_))))
    refine af.ai ⟨[(1,_),(2,_),(3,_),(6,_),(9,_),(47,I (states0.length:Int)),(50,I (x_2.Bodies.length:Int))],[(101,_),(102,_),(104,_)]⟩ rfl (Oc (cY rfl rfl) (Oc om ?_))
    refine bF (!(decide ((states0.length:Int) ≠ (x_2.Bodies.length:Int)))) [] (fun g9=>trivial) (fun g9=>om) ?_
    obtain ⟨x_5,e11,h⟩:=aP h
    refine bF (!(decide ((states0.length:Int) ≠ (x_2.Bodies.length:Int)))) [53] (fun g10=>⟨g10,trivial⟩) (fun g10=>az (gA (gc e11 g10)) u6 rfl rfl) (af.fQ h rfl (aF (fun e=>by first | (rw [e]; rfl) | (simp only at e; rw [e]; rfl)) rfl rfl rfl rfl) (fun x_6 h=>?_))
    refine Oc oa (af.ak ⟨[(1,_),(2,_),(3,_),(6,_),(9,_),(45,B x_6)],[(101,_),(102,_),(104,_)]⟩ rfl (ab.ite h rfl (fun _ h=>?_) (fun _ h=>?_)))
    ·refine ab.seq (ab.aa ?_)
     refine Oc (bD.jH (.same (.same (.same (.sl (size:=1) (by decide) (.sl (size:=1) (by decide) (.sl (size:=1) (by decide) (.sl (size:=1) (by decide) (.sl (size:=3) (by decide) (.same (.same (.nil))))))))))) (cc iz rfl rfl)) (Oc (aR aU rfl rfl rfl rfl (Nat.le_of_ble_eq_true rfl) rfl) (Oc oa (Oc oa ?_)))
     refine af.ak ⟨[(6,_),(7,.b (.one (.nil))),(8,I 1)],[(102,.box 31 [.i 0,.i 0,.i 0,.sl 1 ([].map eI),.sl 1 ([].map eB),.sl 1 ([].map (eL 1 eI)),.sl 1 ([].map eS),.sl 3 ([].map ao),.nil,.nil])]⟩ rfl (ab.ret (Fin.aJ (Fin.aw ?_)))
     obtain rfl:=Option.some.inj h
     refine Fin.ai ⟨[(6,_),(7,_),(8,_)],[(102,_)]⟩ rfl (Fin.bE 102 8 1 rfl rfl (by decide) (Fin.bE 102 9 1 rfl rfl (by decide) (Fin.dc 7 107 7 42 rfl (by decide) rfl (Fin.dD 107 kr0 [.agg [.i 0,.i 0,.i 0,.sl 1 ([].map eI),.sl 1 ([].map eB),.sl 1 ([].map (eL 1 eI)),.sl 1 ([].map eS),.sl 3 ([].map ao),.sl 1 ([].map eB),.sl 1 ([].map eS)],.row 107,.one (.i 1)] (.inl rfl) rfl (.cons (.agg aU rfl rfl rfl rfl) (.cons (.tmp rfl) (.cons (.tmp rfl) .nil))) rfl rfl rfl rfl ⟨rfl,rfl⟩))))
    ·refine ab.skip (Fin.ar (Fin.ai ⟨[(1,_),(2,_),(3,_),(6,_),(9,_)],[(101,_),(102,_),(104,_)]⟩ rfl (Fin.then (ab.seq (ab.aa ?_)))))
     refine Oc (lp aU) (Oc (cc qh rfl rfl) (Oc (fv (k:=108) rfl rfl) (Oc oa ?_)))
     refine af.ak ⟨[(1,_),(2,_),(3,_),(6,_),(9,_),(10,Pt 108 0)],[(101,_),(102,_),(104,_),(108,.box 95 (ay r0 ++ ([.nil])))]⟩ rfl (ab.seq ?_)
     obtain ⟨x_7,e12,h⟩:=aP h
     obtain ⟨x_8,e13,h⟩:=aP h
     refine ab.ff mixed [false,false,false,false,true,false,false,true,false,false,false,true,false,false,false,true] [Pt 108 0,Pt 108 0,Pt 101 8,.b (.one (.sl 1 (r0.Done.map eB))),.b (.row 109),Pt 101 9,.b (.one (.sl 1 (r0.Results.map eS))),.b (.row 110),Pt 108 0,Pt 108 0,Pt 108 8,B true,Pt 108 0,Pt 108 0,Pt 108 9,B true] [⟨[false,false,false,false,false,false,false,false,false,false,false,false,false,false,false,false],[(1,I task0),(2,.b (.one (.sl 1 (states0.map eS)))),(3,Pt 101 0),(6,Pt 102 0),(9,Pt 104 0),(10,Pt 108 0)],[(101,.box 31 (ay r0)),(102,.box 31 [.i 0,.i 0,.i 0,.nil,.nil,.nil,.nil,.nil,.nil,.nil]),(104,.box 59 (ao x_2)),(108,.box 95 (ay r0 ++ ([.nil])))],[true,true,true,true,true,true,true,true,true,true,true,true,true,true,true,true],[],[7,8,9,10,11,12,13,14,15]⟩,⟨[false,false,false,false,true,false,false,false,false,false,false,false,false,false,false,false],[(1,I task0),(2,.b (.one (.sl 1 (states0.map eS)))),(3,Pt 101 0),(6,Pt 102 0),(9,Pt 104 0),(10,Pt 108 0)],[(101,.box 31 (ay r0)),(102,.box 31 [.i 0,.i 0,.i 0,.nil,.nil,.nil,.nil,.nil,.nil,.nil]),(104,.box 59 (ao x_2)),(108,.box 95 (ay r0 ++ ([.nil]))),(109,.row 4 1 (x_7.map eB))],[true,true,true,true,true,true,true,true,true,true,true,true,true,true,true,true],[2,3,4],[8,9,10,11,12,13,14,15]⟩,⟨[false,false,false,false,true,false,false,true,false,false,false,false,false,false,false,false],[(1,I task0),(2,.b (.one (.sl 1 (states0.map eS)))),(3,Pt 101 0),(6,Pt 102 0),(9,Pt 104 0),(10,Pt 108 0)],[(101,.box 31 (ay r0)),(102,.box 31 [.i 0,.i 0,.i 0,.nil,.nil,.nil,.nil,.nil,.nil,.nil]),(104,.box 59 (ao x_2)),(108,.box 95 (ay r0 ++ ([.nil]))),(109,.row 4 1 (x_7.map eB)),(110,.row 9 1 (x_8.map eS))],[true,true,true,true,true,true,true,true,true,true,true,true,true,true,true,true],[2,3,4,5,6,7],[12,13,14,15]⟩,⟨[false,false,false,false,true,false,false,true,false,false,false,true,false,false,false,false],[(1,I task0),(2,.b (.one (.sl 1 (states0.map eS)))),(3,Pt 101 0),(6,Pt 102 0),(9,Pt 104 0),(10,Pt 108 0)],[(101,.box 31 (ay r0)),(102,.box 31 [.i 0,.i 0,.i 0,.nil,.nil,.nil,.nil,.nil,.nil,.nil]),(104,.box 59 (ao x_2)),(108,.aW 95 [.one (.i r0.Me),.one (.i r0.Regions),.one (.i r0.Step),.one (.sl 1 (r0.Home.map eI)),.one (.sl 1 (r0.Heard.map eB)),.one (.sl 1 (r0.Sets.map (eL 1 eI))),.one (.sl 1 (r0.States.map eS)),.one (.sl 3 (r0.Tasks.map ao)),.row 109,.one (.sl 1 (r0.Results.map eS)),.one (.nil)]),(109,.row 4 1 (x_7.map eB)),(110,.row 9 1 (x_8.map eS))],[true,true,true,true,true,true,true,true,true,true,true,true,true,true,true,true],[0,2,3,4,5,6,7,8,9,10,11],[]⟩,⟨[false,false,false,false,true,false,false,true,false,false,false,true,false,false,false,true],[(1,I task0),(2,.b (.one (.sl 1 (states0.map eS)))),(3,Pt 101 0),(6,Pt 102 0),(9,Pt 104 0),(10,Pt 108 0)],[(101,.box 31 (ay r0)),(102,.box 31 [.i 0,.i 0,.i 0,.nil,.nil,.nil,.nil,.nil,.nil,.nil]),(104,.box 59 (ao x_2)),(108,.aW 95 [.one (.i r0.Me),.one (.i r0.Regions),.one (.i r0.Step),.one (.sl 1 (r0.Home.map eI)),.one (.sl 1 (r0.Heard.map eB)),.one (.sl 1 (r0.Sets.map (eL 1 eI))),.one (.sl 1 (r0.States.map eS)),.one (.sl 3 (r0.Tasks.map ao)),.row 109,.row 110,.one (.nil)]),(109,.row 4 1 (x_7.map eB)),(110,.row 9 1 (x_8.map eS))],[true,true,true,true,true,true,true,true,true,true,true,true,true,true,true,true],[0,1,2,3,4,5,6,7,8,9,10,11,12,13,14,15],[]⟩] rfl (⟨by kernel_rfl,⟨⟨Pt 108 0,fun _=>rfl,fun _=>.p (by exact ax rfl)⟩,⟨Pt 108 0,fun _=>rfl,fun _=>.p (by exact ax rfl)⟩,⟨Pt 101 8,fun _=>rfl,fun _=>.p (by exact ae eG rfl rfl)⟩,⟨.b (.one (.sl 1 (r0.Done.map eB))),fun _=>rfl,fun _=>.p (by exact ag dd rfl rfl rfl)⟩,⟨_,[109],.b (.row 109),rfl,fun _=>rfl,rfl,rfl,fun _=>.jG [101,102,104,108,109] (by exact .p (by exact bL (lW 109 e12) xY rfl trivial rfl rfl)) (by exact rfl)⟩,⟨Pt 101 9,fun _=>rfl,fun _=>.p (by exact ae ep rfl rfl)⟩,⟨.b (.one (.sl 1 (r0.Results.map eS))),fun _=>rfl,fun _=>.p (by exact ag b6 rfl rfl rfl)⟩,trivial,trivial,trivial,trivial,trivial,trivial,trivial,trivial,trivial,trivial⟩,⟨by kernel_rfl,⟨⟨Pt 108 0,fun _=>rfl,fun _=>.p (by exact ax rfl)⟩,⟨Pt 108 0,fun _=>rfl,fun _=>.p (by exact ax rfl)⟩,trivial,trivial,trivial,⟨Pt 101 9,fun _=>rfl,fun _=>.p (by exact ae ep rfl rfl)⟩,⟨.b (.one (.sl 1 (r0.Results.map eS))),fun _=>rfl,fun _=>.p (by exact ag b6 rfl rfl rfl)⟩,⟨_,[110],.b (.row 110),rfl,fun _=>rfl,rfl,rfl,fun _=>.jG [101,102,104,108,109,110] (by exact .p (by exact bL (oG 110 e13) goes53 rfl trivial rfl rfl)) (by exact rfl)⟩,trivial,trivial,trivial,trivial,trivial,trivial,trivial,trivial,trivial⟩,⟨by kernel_rfl,⟨⟨Pt 108 0,fun _=>rfl,fun _=>.p (by exact ax rfl)⟩,⟨Pt 108 0,fun _=>rfl,fun _=>.p (by exact ax rfl)⟩,trivial,trivial,trivial,trivial,trivial,trivial,⟨Pt 108 0,fun _=>rfl,fun _=>.p (by exact aG rfl)⟩,⟨Pt 108 0,fun _=>rfl,fun _=>.p (by exact ae bm rfl rfl)⟩,⟨Pt 108 8,fun _=>rfl,fun _=>.p (by exact ae eG rfl rfl)⟩,⟨_,[],.b (.one .any),rfl,(fun e=>by simp at e),rfl,rfl,fun _=>.jG [101,102,104,108,109,110] (by exact .uF 108 rfl (.plain rfl (fU dd rfl rfl rfl rfl (Nat.le_of_ble_eq_true rfl) rfl))) (by exact rfl)⟩,trivial,trivial,trivial,trivial,trivial⟩,⟨by kernel_rfl,⟨trivial,⟨Pt 108 0,fun _=>rfl,fun _=>.p (by exact ax rfl)⟩,trivial,trivial,trivial,trivial,trivial,trivial,trivial,trivial,trivial,trivial,⟨Pt 108 0,fun _=>rfl,fun _=>.p (by exact aG rfl)⟩,⟨Pt 108 0,fun _=>rfl,fun _=>.p (by exact ae bm rfl rfl)⟩,⟨Pt 108 9,fun _=>rfl,fun _=>.p (by exact ae ep rfl rfl)⟩,⟨_,[],.b (.one .any),rfl,(fun e=>by simp at e),rfl,rfl,fun _=>.jG [101,102,104,108,109,110] (by exact .p (by exact fU b6 rfl rfl rfl rfl (Nat.le_of_ble_eq_true rfl) rfl)) (by exact rfl)⟩,trivial⟩,⟨by kernel_rfl,⟨trivial,trivial,trivial,trivial,trivial,trivial,trivial,trivial,trivial,trivial,trivial,trivial,trivial,trivial,trivial,trivial,trivial⟩,trivial⟩⟩⟩⟩⟩) rfl rfl rfl [1,2,3,6,9,10] [101,102,104,108,109,110] (s':=⟨[(1,I task0),(2,.b (.one (.sl 1 (states0.map eS)))),(3,Pt 101 0),(6,Pt 102 0),(9,Pt 104 0),(10,Pt 108 0)],[(101,.box 31 (ay r0)),(102,.box 31 [.i 0,.i 0,.i 0,.nil,.nil,.nil,.nil,.nil,.nil,.nil]),(104,.box 59 (ao x_2)),(108,.aW 95 [.one (.i r0.Me),.one (.i r0.Regions),.one (.i r0.Step),.one (.sl 1 (r0.Home.map eI)),.one (.sl 1 (r0.Heard.map eB)),.one (.sl 1 (r0.Sets.map (eL 1 eI))),.one (.sl 1 (r0.States.map eS)),.one (.sl 3 (r0.Tasks.map ao)),.row 109,.row 110,.one (.nil)]),(109,.row 4 1 (x_7.map eB)),(110,.row 9 1 (x_8.map eS))]⟩) rfl ?_
     refine ab.seq (ab.aa ?_)
     refine Oc om (Oc (aG rfl) (Oc (ae bm rfl rfl) (Oc (ae eG rfl rfl) (Oc (aX dd rfl rfl rfl) (Oc om ?_)))))
     obtain ⟨x_9,e14,h⟩:=aP h
     refine Oc (bq dK (aL e14) (dy e14) rfl rfl rfl rfl) (Oc (fi (i:=(task0:Int).toNat) gx rfl rfl rfl rfl (nD e14) (map_set _ _ _ _)) ?_)
     refine af.ak ⟨[(2,_),(3,_),(6,_),(9,_),(10,_)],[(101,_),(102,_),(104,_),(108,_),(109,.row 4 1 ((x_7.set (task0:Int).toNat true).map eB)),(110,_)]⟩ rfl (ab.seq ?_)
     obtain ⟨x_10,e15,h⟩:=aP h
     obtain ⟨x_11,e16,h⟩:=aP h
     refine ab.ff mixed [false,false,false,true,false,false,false,false,false] [Pt 101 3,.b (.one (.sl 1 (r0.Home.map eI))),I (r0.Home.length:Int),.b (.one (.sl 1 (x_10.map eS))),Pt 104 1,.b (.one (.sl 1 (x_2.Bodies.map eI))),.b (.one (.sl 1 (states0.map eS))),.b (.one (.sl 1 (x_11.map eS))),.b (.one (.sl 1 (x_11.map eS)))] [⟨[false,false,false,false,false,false,false,false,false],[(2,.b (.one (.sl 1 (states0.map eS)))),(3,Pt 101 0),(6,Pt 102 0),(9,Pt 104 0),(10,Pt 108 0)],[(101,.box 31 (ay r0)),(102,.box 31 [.i 0,.i 0,.i 0,.nil,.nil,.nil,.nil,.nil,.nil,.nil]),(104,.box 59 (ao x_2)),(108,.aW 95 [.one (.i r0.Me),.one (.i r0.Regions),.one (.i r0.Step),.one (.sl 1 (r0.Home.map eI)),.one (.sl 1 (r0.Heard.map eB)),.one (.sl 1 (r0.Sets.map (eL 1 eI))),.one (.sl 1 (r0.States.map eS)),.one (.sl 3 (r0.Tasks.map ao)),.row 109,.row 110,.one (.nil)]),(109,.row 4 1 ((x_7.set (task0:Int).toNat true).map eB)),(110,.row 9 1 (x_8.map eS))],[true,true,true,true,true,true,true,true,true],[],[7,8]⟩,⟨[false,false,false,true,false,false,false,false,false],[(2,.b (.one (.sl 1 (states0.map eS)))),(3,Pt 101 0),(6,Pt 102 0),(9,Pt 104 0),(10,Pt 108 0)],[(101,.box 31 (ay r0)),(102,.box 31 [.i 0,.i 0,.i 0,.nil,.nil,.nil,.nil,.nil,.nil,.nil]),(104,.box 59 (ao x_2)),(108,.aW 95 [.one (.i r0.Me),.one (.i r0.Regions),.one (.i r0.Step),.one (.sl 1 (r0.Home.map eI)),.one (.sl 1 (r0.Heard.map eB)),.one (.sl 1 (r0.Sets.map (eL 1 eI))),.one (.sl 1 (r0.States.map eS)),.one (.sl 3 (r0.Tasks.map ao)),.row 109,.row 110,.one (.nil)]),(109,.row 4 1 ((x_7.set (task0:Int).toNat true).map eB)),(110,.row 9 1 (x_8.map eS))],[true,true,true,true,true,true,true,true,true],[0,1,2,3],[]⟩] rfl (⟨by kernel_rfl,⟨⟨Pt 101 3,fun _=>rfl,fun _=>.p (by exact ae dF rfl rfl)⟩,⟨.b (.one (.sl 1 (r0.Home.map eI))),fun _=>rfl,fun _=>.p (by exact ag aN rfl rfl rfl)⟩,⟨I (r0.Home.length:Int),fun _=>rfl,fun _=>.p (by exact av bR rfl (List.length_map _))⟩,⟨_,[111],.b (.one (.sl 1 (x_10.map eS))),rfl,fun _=>rfl,rfl,rfl,fun _=>.jG [101,102,104,108,109,110] (by exact .p (by exact bD.qG 111 (cA (k:=111) (enc:=eS) cw e15 (by decide) (.cons .refl .nil) rfl rfl rfl) rfl)) (by exact rfl)⟩,⟨Pt 104 1,fun _=>rfl,fun _=>.p (by exact ae dE rfl rfl)⟩,⟨.b (.one (.sl 1 (x_2.Bodies.map eI))),fun _=>rfl,fun _=>.p (by exact ag aN rfl rfl rfl)⟩,⟨.b (.one (.sl 1 (states0.map eS))),fun _=>rfl,fun _=>.p (by exact ax rfl)⟩,trivial,trivial,trivial⟩,⟨by kernel_rfl,⟨trivial,trivial,trivial,trivial,⟨Pt 104 1,fun _=>rfl,fun _=>.p (by exact ae dE rfl rfl)⟩,⟨.b (.one (.sl 1 (x_2.Bodies.map eI))),fun _=>rfl,fun _=>.p (by exact ag aN rfl rfl rfl)⟩,⟨.b (.one (.sl 1 (states0.map eS))),fun _=>rfl,fun _=>.p (by exact ax rfl)⟩,⟨.b (.one (.sl 1 (x_11.map eS))),fun _=>rfl,fun _=>.p (by exact az (jT 0 e16).fp u5 rfl rfl)⟩,⟨.b (.one (.sl 1 (x_11.map eS))),fun _=>rfl,fun _=>.p (by exact dH rfl)⟩,trivial⟩,trivial⟩⟩) rfl rfl rfl [3,6,9,10,11] [101,102,104,108,109,110] (s':=⟨[(3,_),(6,_),(9,_),(10,_),(11,.b (.one (.sl 1 (x_11.map eS))))],[(101,_),(102,_),(104,_),(108,_),(109,_),(110,_)]⟩) rfl ?_
     obtain ⟨v17,h18,h⟩:=aP h
     refine ab.ca (v:=v17) (fun (nf9_12:List de)=>⟨[(6,Pt 102 0),(9,Pt 104 0),(10,Pt 108 0),(11,.b (.one (.sl 1 (x_11.map eS))))],[(102,.box 31 [.i 0,.i 0,.i 0,.nil,.nil,.nil,.nil,.nil,.nil,.nil]),(104,.box 59 (ao x_2)),(108,.aW 95 [.one (.i r0.Me),.one (.i r0.Regions),.one (.i r0.Step),.one (.sl 1 (r0.Home.map eI)),.one (.sl 1 (r0.Heard.map eB)),.one (.sl 1 (r0.Sets.map (eL 1 eI))),.one (.sl 1 (r0.States.map eS)),.one (.sl 3 (r0.Tasks.map ao)),.row 109,.row 110,.row 113]),(109,.row 4 1 ((x_7.set (task0:Int).toNat true).map eB)),(110,.row 9 1 (nf9_12.map eS)),(113,.row 42 7 ([].map ah))]⟩) (fun z=>z) ?_ ?_
     ·refine ab.seq (ab.aa ?_)
      refine Oc om (Oc (ae dE rfl rfl) (Oc (ag aN rfl rfl rfl) (Oc (ae cJ rfl rfl) (Oc (ag aD rfl rfl rfl) ?_))))
      refine af.iW 108 10 113 7 42 rfl rfl (by decide) (by decide) rfl (af.ai ⟨[(6,Pt 102 0),(9,Pt 104 0),(10,Pt 108 0),(11,.b (.one (.sl 1 (x_11.map eS)))),(89,Pt 108 0),(91,.b (.one (.sl 1 (x_2.Bodies.map eI)))),(93,I r0.Me)],[(102,.box 31 [.i 0,.i 0,.i 0,.nil,.nil,.nil,.nil,.nil,.nil,.nil]),(104,.box 59 (ao x_2)),(108,.aW 95 [.one (.i r0.Me),.one (.i r0.Regions),.one (.i r0.Step),.one (.sl 1 (r0.Home.map eI)),.one (.sl 1 (r0.Heard.map eB)),.one (.sl 1 (r0.Sets.map (eL 1 eI))),.one (.sl 1 (r0.States.map eS)),.one (.sl 3 (r0.Tasks.map ao)),.row 109,.row 110,.row 113]),(109,.row 4 1 ((x_7.set (task0:Int).toNat true).map eB)),(110,.row 9 1 (x_8.map eS)),(113,.row 42 7 ([].map ah))]⟩ rfl ?_)
      obtain ⟨x_13,e19,h18⟩:=aP h18
      refine Oc (bL (own_a:=[(108,_),(113,_),(109,_),(110,_)]) (show aA Try.prog [] 55 [(108,.aW 95 [.one (.i r0.Me),.one (.i r0.Regions),.one (.i r0.Step),.one (.sl 1 (r0.Home.map eI)),.one (.sl 1 (r0.Heard.map eB)),.one (.sl 1 (r0.Sets.map (eL 1 eI))),.one (.sl 1 (r0.States.map eS)),.one (.sl 3 (r0.Tasks.map ao)),.row 109,.row 110,.row 113]),(113,.row 42 7 ([].map ah)),(109,.row 4 1 ((x_7.set (task0:Int).toNat true).map eB)),(110,.row 9 1 (x_8.map eS))] [.ptr 108 0,.one (.sl 1 (x_2.Bodies.map eI)),.one (.i r0.Me)] (Is [(108,.aW 95 [.one (.i r0.Me),.one (.i r0.Regions),.one (.i r0.Step),.one (.sl 1 (r0.Home.map eI)),.one (.sl 1 (r0.Heard.map eB)),.one (.sl 1 (r0.Sets.map (eL 1 eI))),.one (.sl 1 (r0.States.map eS)),.one (.sl 3 (r0.Tasks.map ao)),.row 109,.row 110,.row 113]),(113,.row 42 7 ([].map ah)),(109,.row 4 1 ((x_7.set (task0:Int).toNat true).map eB)),(110,.row 9 1 (x_8.map eS)),(114,.row 3 1 (x_13.map eI))] (.b (.row 114))) from ((((((n5 e19).sw 1 108).sw 2 113).sw 3 109).sw 4 110).sw 51 114)) te rfl ⟨rfl,rfl,rfl,rfl,trivial⟩ rfl rfl) (Oc (fN bR rfl rfl (List.length_map _)) (Oc om ?_))
      refine af.ak ⟨[(6,_),(9,_),(10,_),(11,_),(94,.b (.row 114)),(95,I (x_13.length:Int)),(96,I 0)],[(102,_),(104,_),(108,_),(109,_),(110,_),(113,_),(114,.row 3 1 (x_13.map eI))]⟩ rfl (ab.block (ab.bZ h18 (eU fun (nf9_14:List de) (x_15:Int)=>⟨[(6,Pt 102 0),(9,Pt 104 0),(10,Pt 108 0),(11,.b (.one (.sl 1 (x_11.map eS)))),(94,.b (.row 114)),(95,I (x_13.length:Int)),(96,I x_15)],[(102,.box 31 [.i 0,.i 0,.i 0,.nil,.nil,.nil,.nil,.nil,.nil,.nil]),(104,.box 59 (ao x_2)),(108,.aW 95 [.one (.i r0.Me),.one (.i r0.Regions),.one (.i r0.Step),.one (.sl 1 (r0.Home.map eI)),.one (.sl 1 (r0.Heard.map eB)),.one (.sl 1 (r0.Sets.map (eL 1 eI))),.one (.sl 1 (r0.States.map eS)),.one (.sl 3 (r0.Tasks.map ao)),.row 109,.row 110,.row 113]),(109,.row 4 1 ((x_7.set (task0:Int).toNat true).map eB)),(110,.row 9 1 (nf9_14.map eS)),(113,.row 42 7 ([].map ah)),(114,.row 3 1 (x_13.map eI))]⟩) [6,9,10,11,94,95,96] [102,104,108,109,110,113,114] rfl ?_))
      rintro ⟨nf9_14,x_15⟩ o20 h21 hy22
      refine ab.seq (ab.aa ?_)
      refine Oc (aY rfl rfl) (af.ak ⟨[(6,_),(9,_),(10,_),(11,_),(94,_),(95,_),(96,_),(97,B (decide (x_15 < (x_13.length:Int))))],[(102,_),(104,_),(108,_),(109,_),(110,_),(113,_),(114,_)]⟩ rfl (ab.seq (ab.ite h21 rfl (fun _ h21=>?_) (fun _ h21=>?_))))
      ·refine ab.skip (Fin.ai ⟨[(6,_),(9,_),(10,_),(11,_),(94,_),(95,_),(96,_)],[(102,_),(104,_),(108,_),(109,_),(110,_),(113,_),(114,_)]⟩ rfl (Fin.then (ab.seq (ab.block (ab.seq (ab.aa ?_))))))
       obtain ⟨x_17,e23,h21⟩:=aP h21
       refine Oc (bq aQ (aL e23) (dy e23) rfl rfl rfl rfl) (Oc (cS (i:=(x_15:Int).toNat) (f:=0) aD rfl rfl rfl (aB (e:=eI) e23) rfl) (Oc oa ?_))
       refine af.ak ⟨[(6,_),(9,_),(10,_),(11,_),(13,I x_17),(94,_),(95,_),(96,_)],[(102,_),(104,_),(108,_),(109,_),(110,_),(113,_),(114,_)]⟩ rfl ?_
       obtain ⟨x_18,e24,h21⟩:=aP h21
       obtain ⟨x_19,e25,h21⟩:=aP h21
       refine ab.fy mixed 11 [Pt 108 0,Pt 108 0,Pt 108 0,Pt 108 9,.b (.row 110),I x_17,.b (.one (.sl 1 (x_11.map eS))),I x_17,.b (.cx [.str x_18]),.b (.one (.str x_18)),.b (.eQ 110 ((x_17:Int).toNat * 1))] [6,9,10,11,94,95,96] [102,104,108,109,110,113,114] (s':=⟨[(6,_),(9,_),(10,_),(11,_),(94,_),(95,_),(96,_)],[(102,_),(104,_),(108,_),(109,_),(110,.row 9 1 ((nf9_14.set (x_17:Int).toNat x_18).map eS)),(113,_),(114,_)]⟩) rfl ⟨fun _=>.p om,fun _=>.p (aG rfl),fun _=>.p (ae bm rfl rfl),fun _=>.p (ae ep rfl rfl),fun _=>.p (aX b6 rfl rfl rfl),fun _=>.p om,fun _=>.p om,fun _=>.p om,fun _=>.p (an cw (aL e24) (aB (e:=eS) e24) rfl rfl),fun _=>.p (au fG rfl rfl),fun _=>.p (bq cw (aL e25) (dy e25) rfl rfl rfl rfl),trivial⟩ ⟨_,by exact .p (fi (i:=(x_17:Int).toNat) fG rfl rfl rfl rfl (nD e25) (map_set _ _ _ _)),rfl⟩ rfl (Fin.ar (Fin.ai ⟨[(6,_),(9,_),(10,_),(11,_),(94,_),(95,_),(96,_)],[(102,_),(104,_),(108,_),(109,_),(110,_),(113,_),(114,_)]⟩ rfl (Fin.then (ab.aa ?_))))
       refine Oc (bh rfl rfl) (Oc om ?_)
       refine af.nil ?_
       exact Fin.bp [6,9,10,11,94,95,96] [102,104,108,109,110,113,114] (nf9_14.set (x_17:Int).toNat x_18,IntKind.i64.wrap (x_15 + 1)) (Option.some.inj h21) rfl
      ·refine ab.exit (Fin.aq ?_)
       obtain rfl:=hy22 _ (Option.some.inj h21).symm
       refine Fin.aq (Fin.aE ?_)
       exact Fin.join [6,9,10,11] [102,104,108,109,110,113] nf9_14 rfl rfl
     ·rintro nf9_12 hv
      subst v17
      obtain ⟨v26,h27,h⟩:=aP h
      refine ab.ca (v:=v26) (rf fun (nf8_20:List Bool) (nf9_21:List de) (out_22:List aI)=>⟨[(6,Pt 102 0),(10,Pt 108 0)],[(102,.box 31 [.i 0,.i 0,.i 0,.nil,.nil,.nil,.nil,.nil,.nil,.nil]),(108,.aW 95 [.one (.i r0.Me),.one (.i r0.Regions),.one (.i r0.Step),.one (.sl 1 (r0.Home.map eI)),.one (.sl 1 (r0.Heard.map eB)),.one (.sl 1 (r0.Sets.map (eL 1 eI))),.one (.sl 1 (r0.States.map eS)),.one (.sl 3 (r0.Tasks.map ao)),.one (.sl 1 (nf8_20.map eB)),.one (.sl 1 (nf9_21.map eS)),.row 113]),(113,.row 42 7 (out_22.map ah))]⟩) (fun z=>z) ?_ ?_
      ·refine ab.seq (ab.aa ?_)
       refine Oc (ae iy rfl rfl) (Oc (ag aN rfl rfl rfl) (Oc (av bR rfl (List.length_map _)) (Oc om ?_)))
       refine af.ak ⟨[(6,Pt 102 0),(9,Pt 104 0),(10,Pt 108 0),(11,.b (.one (.sl 1 (x_11.map eS)))),(113,.b (.one (.sl 1 (x_2.Helpers.map eI)))),(114,I (x_2.Helpers.length:Int)),(115,I 0)],[(102,.box 31 [.i 0,.i 0,.i 0,.nil,.nil,.nil,.nil,.nil,.nil,.nil]),(104,.box 59 (ao x_2)),(108,.aW 95 [.one (.i r0.Me),.one (.i r0.Regions),.one (.i r0.Step),.one (.sl 1 (r0.Home.map eI)),.one (.sl 1 (r0.Heard.map eB)),.one (.sl 1 (r0.Sets.map (eL 1 eI))),.one (.sl 1 (r0.States.map eS)),.one (.sl 3 (r0.Tasks.map ao)),.row 109,.row 110,.row 113]),(109,.row 4 1 ((x_7.set (task0:Int).toNat true).map eB)),(110,.row 9 1 (nf9_12.map eS)),(113,.row 42 7 ([].map ah))]⟩ rfl (ab.block (ab.bg 109 rfl (ab.bg 110 rfl (ab.bZ h27 (wJ fun (nf8_23:List Bool) (nf9_24:List de) (out_25:List aI) (x_26:Int)=>⟨[(6,Pt 102 0),(9,Pt 104 0),(10,Pt 108 0),(11,.b (.one (.sl 1 (x_11.map eS)))),(113,.b (.one (.sl 1 (x_2.Helpers.map eI)))),(114,I (x_2.Helpers.length:Int)),(115,I x_26)],[(102,.box 31 [.i 0,.i 0,.i 0,.nil,.nil,.nil,.nil,.nil,.nil,.nil]),(104,.box 59 (ao x_2)),(108,.aW 95 [.one (.i r0.Me),.one (.i r0.Regions),.one (.i r0.Step),.one (.sl 1 (r0.Home.map eI)),.one (.sl 1 (r0.Heard.map eB)),.one (.sl 1 (r0.Sets.map (eL 1 eI))),.one (.sl 1 (r0.States.map eS)),.one (.sl 3 (r0.Tasks.map ao)),.one (.sl 1 (nf8_23.map eB)),.one (.sl 1 (nf9_24.map eS)),.row 113]),(113,.row 42 7 (out_25.map ah))]⟩) [6,9,10,11,113,114,115] [102,104,108,113] rfl ?_))))
       rintro ⟨nf8_23,nf9_24,out_25,x_26⟩ o28 h29 hy30
       refine ab.seq (ab.aa ?_)
       refine Oc (aY rfl rfl) (af.ak ⟨[(6,_),(9,_),(10,_),(11,_),(113,_),(114,_),(115,_),(116,B (decide (x_26 < (x_2.Helpers.length:Int))))],[(102,_),(104,_),(108,_),(113,_)]⟩ rfl (ab.seq (ab.ite h29 rfl (fun _ h29=>?_) (fun _ h29=>?_))))
       ·refine ab.skip (Fin.ai ⟨[(6,_),(9,_),(10,_),(11,_),(113,_),(114,_),(115,_)],[(102,_),(104,_),(108,_),(113,_)]⟩ rfl (Fin.then (ab.seq (ab.block (ab.seq (ab.aa ?_))))))
        obtain ⟨x_30,e31,h29⟩:=aP h29
        refine Oc (an aQ (aL e31) (aB (e:=eI) e31) rfl rfl) (Oc (au aD rfl rfl) (Oc oa ?_))
        refine af.ak ⟨[(6,_),(9,_),(10,_),(11,_),(15,I x_30),(113,_),(114,_),(115,_)],[(102,_),(104,_),(108,_),(113,_)]⟩ rfl (ab.seq (ab.aa ?_))
        refine Oc om (Oc (ae dE rfl rfl) (Oc (ag aN rfl rfl rfl) (Oc om ?_)))
        obtain ⟨x_31,e32,h29⟩:=aP h29
        refine Oc (bL (own_a:=[(108,_),(113,_)]) ((((jc e32).sw 1 108).sw 2 113).sw 51 115) te rfl ⟨rfl,rfl,trivial⟩ rfl rfl) (Oc oa ?_)
        refine af.ak ⟨[(6,_),(9,_),(10,_),(11,_),(15,_),(16,.b (.row 115)),(113,_),(114,_),(115,_)],[(102,_),(104,_),(108,_),(113,_),(115,.row 3 1 (x_31.map eI))]⟩ rfl (ab.aa (Oc om (Oc om (Oc om (Oc om (Oc om ?_))))))
        refine af.bg 115 rfl (af.ai ⟨[(6,Pt 102 0),(9,Pt 104 0),(10,Pt 108 0),(11,.b (.one (.sl 1 (x_11.map eS)))),(113,.b (.one (.sl 1 (x_2.Helpers.map eI)))),(114,I (x_2.Helpers.length:Int)),(115,I x_26),(124,Pt 108 0),(125,I x_30),(126,.b (.one (.sl 1 (x_31.map eI)))),(127,.b (.one (.sl 1 (x_11.map eS)))),(128,.b (.one (.sl 1 (x_31.map eI))))],[(102,.box 31 [.i 0,.i 0,.i 0,.nil,.nil,.nil,.nil,.nil,.nil,.nil]),(104,.box 59 (ao x_2)),(108,.aW 95 [.one (.i r0.Me),.one (.i r0.Regions),.one (.i r0.Step),.one (.sl 1 (r0.Home.map eI)),.one (.sl 1 (r0.Heard.map eB)),.one (.sl 1 (r0.Sets.map (eL 1 eI))),.one (.sl 1 (r0.States.map eS)),.one (.sl 3 (r0.Tasks.map ao)),.one (.sl 1 (nf8_23.map eB)),.one (.sl 1 (nf9_24.map eS)),.row 113]),(113,.row 42 7 (out_25.map ah))]⟩ rfl ?_)
        obtain ⟨x_32,e33,h29⟩:=aP h29
        refine Oc (bL (jR 116 e33) u4 rfl trivial rfl rfl) (af.bg 116 rfl (af.rm ah h29 rfl (bD.jH (.same (.same (.same (.same (.sl (size:=1) (by decide) (.same (.same (.nil)))))))) (cc kP rfl rfl)) (fun x_33 h29=>?_)))
        obtain ⟨x_34,e34,h29⟩:=aP h29
        refine Oc (bL (own_a:=[(108,_),(113,_)]) (((ik e34).sw 1 108).sw 2 113) u9 rfl ⟨rfl,rfl,trivial⟩ rfl rfl) (af.nil (Fin.ar (Fin.ai ⟨[(6,Pt 102 0),(9,Pt 104 0),(10,Pt 108 0),(11,.b (.one (.sl 1 (x_11.map eS)))),(113,.b (.one (.sl 1 (x_2.Helpers.map eI)))),(114,I (x_2.Helpers.length:Int)),(115,I x_26)],[(102,.box 31 [.i 0,.i 0,.i 0,.nil,.nil,.nil,.nil,.nil,.nil,.nil]),(104,.box 59 (ao x_2)),(108,.aW 95 [.one (.i r0.Me),.one (.i r0.Regions),.one (.i r0.Step),.one (.sl 1 (r0.Home.map eI)),.one (.sl 1 (r0.Heard.map eB)),.one (.sl 1 (r0.Sets.map (eL 1 eI))),.one (.sl 1 (r0.States.map eS)),.one (.sl 3 (r0.Tasks.map ao)),.one (.sl 1 (nf8_23.map eB)),.one (.sl 1 (nf9_24.map eS)),.row 113]),(113,.row 42 7 (x_34.map ah))]⟩ rfl (Fin.then (ab.aa ?_)))))
        refine Oc (bh rfl rfl) (Oc om ?_)
        refine af.nil ?_
        exact Fin.bp [6,9,10,11,113,114,115] [102,104,108,113] (nf8_23,nf9_24,x_34,IntKind.i64.wrap (x_26 + 1)) (Option.some.inj h29) rfl
       ·refine ab.exit (Fin.aq ?_)
        obtain rfl:=hy30 _ (Option.some.inj h29).symm
        refine Fin.aq (Fin.aE ?_)
        exact Fin.join [6,10] [102,108,113] (nf8_23,nf9_24,out_25) rfl rfl
      ·rintro ⟨nf8_20,nf9_21,out_22⟩ hv
       subst v26
       refine ab.seq (ab.ai ⟨[(6,_),(10,_)],[(102,_),(108,_),(113,_)]⟩ rfl (ab.ff mixed [false,false,false,false,false,false,false,false,true,false,false] [Pt 108 0,Pt 108 0,Pt 108 0,.b (.agg [.i r0.Me,.i r0.Regions,.i r0.Step,.sl 1 (r0.Home.map eI),.sl 1 (r0.Heard.map eB),.sl 1 (r0.Sets.map (eL 1 eI)),.sl 1 (r0.States.map eS),.sl 3 (r0.Tasks.map ao),.sl 1 (nf8_20.map eB),.sl 1 (nf9_21.map eS)]),Pt 108 0,Pt 108 0,Pt 108 10,.b (.row 113),B true,.b (.row 113),I 0] [⟨[false,false,false,false,false,false,false,false,false,false,false],[(6,Pt 102 0),(10,Pt 108 0)],[(102,.box 31 [.i 0,.i 0,.i 0,.nil,.nil,.nil,.nil,.nil,.nil,.nil]),(108,.aW 95 [.one (.i r0.Me),.one (.i r0.Regions),.one (.i r0.Step),.one (.sl 1 (r0.Home.map eI)),.one (.sl 1 (r0.Heard.map eB)),.one (.sl 1 (r0.Sets.map (eL 1 eI))),.one (.sl 1 (r0.States.map eS)),.one (.sl 3 (r0.Tasks.map ao)),.one (.sl 1 (nf8_20.map eB)),.one (.sl 1 (nf9_21.map eS)),.row 113]),(113,.row 42 7 (out_22.map ah))],[true,true,true,true,true,true,true,true,true,true,true],[],[9,10]⟩,⟨[false,false,false,false,false,false,false,false,true,false,false],[(6,Pt 102 0),(10,Pt 108 0)],[(102,.box 31 [.i r0.Me,.i r0.Regions,.i r0.Step,.sl 1 (r0.Home.map eI),.sl 1 (r0.Heard.map eB),.sl 1 (r0.Sets.map (eL 1 eI)),.sl 1 (r0.States.map eS),.sl 3 (r0.Tasks.map ao),.sl 1 (nf8_20.map eB),.sl 1 (nf9_21.map eS)]),(108,.aW 95 [.one (.i r0.Me),.one (.i r0.Regions),.one (.i r0.Step),.one (.sl 1 (r0.Home.map eI)),.one (.sl 1 (r0.Heard.map eB)),.one (.sl 1 (r0.Sets.map (eL 1 eI))),.one (.sl 1 (r0.States.map eS)),.one (.sl 3 (r0.Tasks.map ao)),.one (.sl 1 (nf8_20.map eB)),.one (.sl 1 (nf9_21.map eS)),.row 113]),(113,.row 42 7 (out_22.map ah))],[true,true,true,true,true,true,true,true,true,true,true],[0,1,2,3,8],[]⟩] rfl (⟨by kernel_rfl,⟨⟨Pt 108 0,fun _=>rfl,fun _=>.p (by exact ax rfl)⟩,⟨Pt 108 0,fun _=>rfl,fun _=>.p (by exact aG rfl)⟩,⟨Pt 108 0,fun _=>rfl,fun _=>.p (by exact ae bm rfl rfl)⟩,⟨.b (.agg [.i r0.Me,.i r0.Regions,.i r0.Step,.sl 1 (r0.Home.map eI),.sl 1 (r0.Heard.map eB),.sl 1 (r0.Sets.map (eL 1 eI)),.sl 1 (r0.States.map eS),.sl 3 (r0.Tasks.map ao),.sl 1 (nf8_20.map eB),.sl 1 (nf9_21.map eS)]),fun _=>rfl,fun _=>.p (by exact ld aU rfl rfl rfl rfl)⟩,⟨Pt 108 0,fun _=>rfl,fun _=>.p (by exact ax rfl)⟩,⟨Pt 108 0,fun _=>rfl,fun _=>.p (by exact aG rfl)⟩,⟨Pt 108 10,fun _=>rfl,fun _=>.p (by exact ae jh rfl rfl)⟩,⟨.b (.row 113),fun _=>rfl,fun _=>.p (by exact aX jX rfl rfl rfl)⟩,⟨_,[],.b (.one .any),rfl,(fun e=>by simp at e),rfl,rfl,fun _=>.jG [102,108,113] (by exact .p (by exact aR aU rfl rfl rfl rfl (Nat.le_of_ble_eq_true rfl) rfl)) (by exact rfl)⟩,trivial,trivial,trivial⟩,⟨by kernel_rfl,⟨trivial,trivial,trivial,trivial,⟨Pt 108 0,fun _=>rfl,fun _=>.p (by exact ax rfl)⟩,⟨Pt 108 0,fun _=>rfl,fun _=>.p (by exact aG rfl)⟩,⟨Pt 108 10,fun _=>rfl,fun _=>.p (by exact ae jh rfl rfl)⟩,⟨.b (.row 113),fun _=>rfl,fun _=>.p (by exact aX jX rfl rfl rfl)⟩,trivial,⟨.b (.row 113),fun _=>rfl,fun _=>.p (by exact dH rfl)⟩,⟨I 0,fun _=>rfl,fun _=>.p (by exact dH rfl)⟩,trivial⟩,trivial⟩⟩) rfl rfl rfl [6,7,8] [102,113] (s':=⟨[(6,_),(7,.b (.row 113)),(8,I 0)],[(102,.box 31 [.i r0.Me,.i r0.Regions,.i r0.Step,.sl 1 (r0.Home.map eI),.sl 1 (r0.Heard.map eB),.sl 1 (r0.Sets.map (eL 1 eI)),.sl 1 (r0.States.map eS),.sl 3 (r0.Tasks.map ao),.sl 1 (nf8_20.map eB),.sl 1 (nf9_21.map eS)]),(113,_)]⟩) rfl ?_))
       refine ab.ret ?_
       obtain rfl:=Option.some.inj h
       refine Fin.ai ⟨[(6,_),(7,_),(8,_)],[(102,_),(113,_)]⟩ rfl (Fin.dD 113 kr0 [.agg [.i r0.Me,.i r0.Regions,.i r0.Step,.sl 1 (r0.Home.map eI),.sl 1 (r0.Heard.map eB),.sl 1 (r0.Sets.map (eL 1 eI)),.sl 1 (r0.States.map eS),.sl 3 (r0.Tasks.map ao),.sl 1 (nf8_20.map eB),.sl 1 (nf9_21.map eS)],.row 113,.one (.i 0)] (.inl rfl) rfl (.cons (.agg aU rfl rfl rfl rfl) (.cons (.tmp rfl) (.cons (.tmp rfl) .nil))) rfl rfl rfl rfl ⟨rfl,rfl⟩)
def bA (F:Nat) (a0:List Int) (b0:List Int):Option Bool :=
 if (decide ((a0.length:Int) ≠ (b0.length:Int))) = true then (some false) else (Option.bind (iter F (fun i_1=>if (decide (i_1 < (a0.length:Int))) = true then ((aV a0 i_1).bind fun x_2=>(aV b0 i_1).bind fun x_3=>if (decide (x_2 ≠ x_3)) = true then (some (.inr (.inr false))) else (some (.inl (IntKind.i64.wrap (i_1 + 1))))) else (some (.inr (.inl ())))) 0) (bG (fun _=>some true) (fun y=>some y)))
theorem dw {F:Nat} {a0:List Int} {b0:List Int} {r:Bool} (h:bA F a0 b0 = some r):aA Try.prog [] 19 [] [.one (.sl 1 (a0.map eI)),.one (.sl 1 (b0.map eI))] (Is [] (.b (.one (.bool r)))):=by
 unfold bA at h
 refine aA.intro 26 Try.func19 Try.ntmps19 rfl (by simp) fun E=>?_
 show ab _ E ⟨26,[],[],[]⟩ _ ⟨[(0,.b (.one (.sl 1 (a0.map eI)))),(1,.b (.one (.sl 1 (b0.map eI))))],[]⟩ _
 refine ab.seq (ab.aa ?_)
 refine Oc oa (af.ak ⟨[(0,.b (.one (.sl 1 (a0.map eI)))),(1,.b (.one (.sl 1 (b0.map eI))))],[]⟩ rfl (ab.seq (ab.seq (ab.aa ?_))))
 refine Oc om (Oc (av bR rfl (List.length_map _)) (Oc om (Oc (av bR rfl (List.length_map _)) (Oc (cY rfl rfl) ?_))))
 refine af.ak ⟨[(0,_),(1,_),(10,B (decide ((a0.length:Int) ≠ (b0.length:Int))))],[]⟩ rfl (ab.ite h rfl (fun _ h=>?_) (fun _ h=>?_))
 ·refine ab.seq (ab.aa ?_)
  refine Oc oa (af.ak ⟨[(4,B false)],[]⟩ rfl (ab.ret (Fin.aw ?_)))
  obtain rfl:=Option.some.inj h
  refine Fin.ai ⟨[(4,_)],[]⟩ rfl (Fin.aM [.one (.bool false)] (.inl rfl) rfl (.cons (.tmp rfl) .nil) ⟨rfl,rfl⟩)
 ·refine ab.skip (Fin.ai ⟨[(0,_),(1,_)],[]⟩ rfl (Fin.then ?_))
  obtain ⟨v1,h2,h⟩:=aP h
  refine ab.ca (v:=v1) (fun (_:Unit)=>⟨[],[]⟩) (fun z=>.inl z) ?_ ?_
  ·refine ab.seq (ab.aa ?_)
   refine Oc oa (af.ak ⟨[(0,_),(1,_),(5,I 0)],[]⟩ rfl (ab.block (ab.bZ h2 (fun (i_1:Int)=>⟨[(0,.b (.one (.sl 1 (a0.map eI)))),(1,.b (.one (.sl 1 (b0.map eI)))),(5,I i_1)],[]⟩) [0,1,5] [] rfl ?_)))
   rintro i_1 o3 h4 hy5
   refine ab.seq (ab.seq (ab.aa ?_))
   refine Oc om (Oc om (Oc (av bR rfl (List.length_map _)) (Oc (aY rfl rfl) ?_)))
   refine af.ak ⟨[(0,_),(1,_),(5,_),(14,B (decide (i_1 < (a0.length:Int))))],[]⟩ rfl (ab.ite h4 rfl (fun _ h4=>?_) (fun _ h4=>?_))
   ·refine ab.skip (Fin.ai ⟨[(0,_),(1,_),(5,_)],[]⟩ rfl (Fin.then (ab.seq (ab.block (ab.seq ?_)))))
    refine ab.ai ⟨[(0,_),(1,_),(5,_)],[]⟩ rfl ?_
    obtain ⟨x_2,e6,h4⟩:=aP h4
    obtain ⟨x_3,e7,h4⟩:=aP h4
    refine ab.eX mixed 9 [.b (.one (.sl 1 (a0.map eI))),I i_1,.b (.cx [.i x_2]),I x_2,.b (.one (.sl 1 (b0.map eI))),I i_1,.b (.cx [.i x_3]),I x_3,B (decide (x_2 ≠ x_3))] [0,1,5,25] [] (s':=⟨[(0,_),(1,_),(5,_),(25,B (decide (x_2 ≠ x_3)))],[]⟩) rfl ⟨fun _=>.p om,fun _=>.p om,fun _=>.p (an aQ (aL e6) (aB (e:=eI) e6) rfl rfl),fun _=>.p (au aD rfl rfl),fun _=>.p om,fun _=>.p om,fun _=>.p (an aQ (aL e7) (aB (e:=eI) e7) rfl rfl),fun _=>.p (au aD rfl rfl),fun _=>.p (cY rfl rfl),trivial⟩ rfl rfl (ab.ite h4 rfl (fun _ h4=>?_) (fun _ h4=>?_))
    ·refine ab.seq (ab.aa ?_)
     refine Oc oa (af.ak ⟨[(4,B false)],[]⟩ rfl (ab.ret (Fin.aJ (Fin.aw ?_))))
     obtain rfl:=hy5 _ (Option.some.inj h4).symm
     refine Fin.aw (Fin.aJ (Fin.aw ?_))
     obtain rfl:=Option.some.inj h
     refine Fin.ai ⟨[(4,_)],[]⟩ rfl (Fin.aM [.one (.bool false)] (.inl rfl) rfl (.cons (.tmp rfl) .nil) ⟨rfl,rfl⟩)
    ·refine ab.skip (Fin.ar (Fin.ai ⟨[(0,_),(1,_),(5,_)],[]⟩ rfl (Fin.then (ab.aa ?_))))
     refine Oc om (Oc (bh rfl rfl) (Oc oa ?_))
     refine af.nil ?_
     exact Fin.bp [0,1,5] [] (IntKind.i64.wrap (i_1 + 1)) (Option.some.inj h4) rfl
   ·refine ab.exit (Fin.aq ?_)
    obtain rfl:=hy5 _ (Option.some.inj h4).symm
    refine Fin.aq (Fin.aE ?_)
    exact Fin.join [] [] () rfl rfl
  ·rintro _ hv
   subst v1
   refine ab.seq (ab.aa ?_)
   refine Oc oa (af.ak ⟨[(4,B true)],[]⟩ rfl (ab.ret ?_))
   obtain rfl:=Option.some.inj h
   refine Fin.ai ⟨[(4,_)],[]⟩ rfl (Fin.aM [.one (.bool true)] (.inl rfl) rfl (.cons (.tmp rfl) .nil) ⟨rfl,rfl⟩)
def bJ (F:Nat) (a0:List Task) (b0:List Task):Option Bool :=
 if (decide ((a0.length:Int) ≠ (b0.length:Int))) = true then (some false) else (Option.bind (iter F (fun i_1=>if (decide (i_1 < (a0.length:Int))) = true then ((aV a0 i_1).bind fun x_2=>(aV b0 i_1).bind fun x_3=>(aK (!(decide (x_2.Owner ≠ x_3.Owner))) (aV a0 i_1)).bind fun x_4=>(aK (!(decide (x_2.Owner ≠ x_3.Owner))) (aV b0 i_1)).bind fun x_5=>(aK (!(decide (x_2.Owner ≠ x_3.Owner))) (bA F x_4.Bodies x_5.Bodies)).bind fun x_6=>(aK (!((decide (x_2.Owner ≠ x_3.Owner)) || (!x_6))) (aV a0 i_1)).bind fun x_7=>(aK (!((decide (x_2.Owner ≠ x_3.Owner)) || (!x_6))) (aV b0 i_1)).bind fun x_8=>(aK (!((decide (x_2.Owner ≠ x_3.Owner)) || (!x_6))) (bA F x_7.Helpers x_8.Helpers)).bind fun x_9=>if (((decide (x_2.Owner ≠ x_3.Owner)) || (!x_6)) || (!x_9)) = true then (some (.inr (.inr false))) else (some (.inl (IntKind.i64.wrap (i_1 + 1))))) else (some (.inr (.inl ())))) 0) (bG (fun _=>some true) (fun y=>some y)))
theorem gJ {F:Nat} {a0:List Task} {b0:List Task} {r:Bool} (h:bJ F a0 b0 = some r):aA Try.prog [] 32 [] [.one (.sl 3 (a0.map ao)),.one (.sl 3 (b0.map ao))] (Is [] (.b (.one (.bool r)))):=by
 unfold bJ at h
 refine aA.intro 56 Try.func32 Try.ntmps32 rfl (by simp) fun E=>?_
 show ab _ E ⟨56,[],[],[]⟩ _ ⟨[(0,.b (.one (.sl 3 (a0.map ao)))),(1,.b (.one (.sl 3 (b0.map ao))))],[]⟩ _
 refine ab.seq (ab.aa ?_)
 refine Oc oa (af.ak ⟨[(0,.b (.one (.sl 3 (a0.map ao)))),(1,.b (.one (.sl 3 (b0.map ao))))],[]⟩ rfl (ab.seq (ab.seq (ab.aa ?_))))
 refine Oc om (Oc (av kW rfl (List.length_map _)) (Oc om (Oc (av kW rfl (List.length_map _)) (Oc (cY rfl rfl) ?_))))
 refine af.ak ⟨[(0,_),(1,_),(10,B (decide ((a0.length:Int) ≠ (b0.length:Int))))],[]⟩ rfl (ab.ite h rfl (fun _ h=>?_) (fun _ h=>?_))
 ·refine ab.seq (ab.aa ?_)
  refine Oc oa (af.ak ⟨[(4,B false)],[]⟩ rfl (ab.ret (Fin.aw ?_)))
  obtain rfl:=Option.some.inj h
  refine Fin.ai ⟨[(4,_)],[]⟩ rfl (Fin.aM [.one (.bool false)] (.inl rfl) rfl (.cons (.tmp rfl) .nil) ⟨rfl,rfl⟩)
 ·refine ab.skip (Fin.ai ⟨[(0,_),(1,_)],[]⟩ rfl (Fin.then ?_))
  obtain ⟨v1,h2,h⟩:=aP h
  refine ab.ca (v:=v1) (fun (_:Unit)=>⟨[],[]⟩) (fun z=>.inl z) ?_ ?_
  ·refine ab.seq (ab.aa ?_)
   refine Oc oa (af.ak ⟨[(0,_),(1,_),(5,I 0)],[]⟩ rfl (ab.block (ab.bZ h2 (fun (i_1:Int)=>⟨[(0,.b (.one (.sl 3 (a0.map ao)))),(1,.b (.one (.sl 3 (b0.map ao)))),(5,I i_1)],[]⟩) [0,1,5] [] rfl ?_)))
   rintro i_1 o3 h4 hy5
   refine ab.seq (ab.seq (ab.aa ?_))
   refine Oc om (Oc om (Oc (av kW rfl (List.length_map _)) (Oc (aY rfl rfl) ?_)))
   refine af.ak ⟨[(0,_),(1,_),(5,_),(14,B (decide (i_1 < (a0.length:Int))))],[]⟩ rfl (ab.ite h4 rfl (fun _ h4=>?_) (fun _ h4=>?_))
   ·refine ab.skip (Fin.ai ⟨[(0,_),(1,_),(5,_)],[]⟩ rfl (Fin.then (ab.seq (ab.block (ab.seq ?_)))))
    refine ab.ai ⟨[(0,_),(1,_),(5,_)],[]⟩ rfl ?_
    obtain ⟨x_2,e6,h4⟩:=aP h4
    obtain ⟨x_3,e7,h4⟩:=aP h4
    obtain ⟨x_4,e11,h4⟩:=aP h4
    obtain ⟨x_5,e17,h4⟩:=aP h4
    obtain ⟨x_6,e21,h4⟩:=aP h4
    obtain ⟨x_7,e26,h4⟩:=aP h4
    obtain ⟨x_8,e32,h4⟩:=aP h4
    obtain ⟨x_9,e36,h4⟩:=aP h4
    refine ab.eX mixed 39 [.b (.one (.sl 3 (a0.map ao))),I i_1,.b (.cx (ao x_2)),.b (.cx (ao x_2)),I x_2.Owner,.b (.one (.sl 3 (b0.map ao))),I i_1,.b (.cx (ao x_3)),.b (.cx (ao x_3)),I x_3.Owner,B (decide (x_2.Owner ≠ x_3.Owner)),B (decide (x_2.Owner ≠ x_3.Owner)),.opt (!(decide (x_2.Owner ≠ x_3.Owner))) (.one (.sl 3 (a0.map ao))),.opt (!(decide (x_2.Owner ≠ x_3.Owner))) (.one (.i i_1)),.opt (!(decide (x_2.Owner ≠ x_3.Owner))) (.cx (ao x_4)),.opt (!(decide (x_2.Owner ≠ x_3.Owner))) (.cx [.sl 1 (x_4.Bodies.map eI),.sl 1 (x_4.Helpers.map eI)]),.opt (!(decide (x_2.Owner ≠ x_3.Owner))) (.one (.sl 1 (x_4.Bodies.map eI))),.opt (!(decide (x_2.Owner ≠ x_3.Owner))) (.one (.sl 3 (b0.map ao))),.opt (!(decide (x_2.Owner ≠ x_3.Owner))) (.one (.i i_1)),.opt (!(decide (x_2.Owner ≠ x_3.Owner))) (.cx (ao x_5)),.opt (!(decide (x_2.Owner ≠ x_3.Owner))) (.cx [.sl 1 (x_5.Bodies.map eI),.sl 1 (x_5.Helpers.map eI)]),.opt (!(decide (x_2.Owner ≠ x_3.Owner))) (.one (.sl 1 (x_5.Bodies.map eI))),.opt (!(decide (x_2.Owner ≠ x_3.Owner))) (.one (.bool x_6)),.opt (!(decide (x_2.Owner ≠ x_3.Owner))) (.one (.bool (!x_6))),B ((decide (x_2.Owner ≠ x_3.Owner)) || (!x_6)),B ((decide (x_2.Owner ≠ x_3.Owner)) || (!x_6)),.opt (!((decide (x_2.Owner ≠ x_3.Owner)) || (!x_6))) (.one (.sl 3 (a0.map ao))),.opt (!((decide (x_2.Owner ≠ x_3.Owner)) || (!x_6))) (.one (.i i_1)),.opt (!((decide (x_2.Owner ≠ x_3.Owner)) || (!x_6))) (.cx (ao x_7)),.opt (!((decide (x_2.Owner ≠ x_3.Owner)) || (!x_6))) (.cx [.sl 1 (x_7.Helpers.map eI)]),.opt (!((decide (x_2.Owner ≠ x_3.Owner)) || (!x_6))) (.one (.sl 1 (x_7.Helpers.map eI))),.opt (!((decide (x_2.Owner ≠ x_3.Owner)) || (!x_6))) (.one (.sl 3 (b0.map ao))),.opt (!((decide (x_2.Owner ≠ x_3.Owner)) || (!x_6))) (.one (.i i_1)),.opt (!((decide (x_2.Owner ≠ x_3.Owner)) || (!x_6))) (.cx (ao x_8)),.opt (!((decide (x_2.Owner ≠ x_3.Owner)) || (!x_6))) (.cx [.sl 1 (x_8.Helpers.map eI)]),.opt (!((decide (x_2.Owner ≠ x_3.Owner)) || (!x_6))) (.one (.sl 1 (x_8.Helpers.map eI))),.opt (!((decide (x_2.Owner ≠ x_3.Owner)) || (!x_6))) (.one (.bool x_9)),.opt (!((decide (x_2.Owner ≠ x_3.Owner)) || (!x_6))) (.one (.bool (!x_9))),B (((decide (x_2.Owner ≠ x_3.Owner)) || (!x_6)) || (!x_9))] [0,1,5,55] [] (s':=⟨[(0,_),(1,_),(5,_),(55,B (((decide (x_2.Owner ≠ x_3.Owner)) || (!x_6)) || (!x_9)))],[]⟩) rfl ⟨fun _=>.p om,fun _=>.p om,fun _=>.p (an fF (aL e6) (aB (e:=ao) e6) rfl rfl),fun _=>by exact .p (cH fJ rfl rfl),fun _=>.p (au aD rfl rfl),fun _=>.p om,fun _=>.p om,fun _=>.p (an fF (aL e7) (aB (e:=ao) e7) rfl rfl),fun _=>by exact .p (cH fJ rfl rfl),fun _=>.p (au aD rfl rfl),fun _=>.p (cY rfl rfl),fun _=>.p om,fun _=>by exact .guard (!(decide (x_2.Owner ≠ x_3.Owner))) 1 [] (.plain rfl) (dQ _) rfl rfl (fun g8=>trivial) (fun g8=>om),fun _=>by exact .guard (!(decide (x_2.Owner ≠ x_3.Owner))) 1 [] (.plain rfl) (dQ _) rfl rfl (fun g9=>trivial) (fun g9=>om),fun _=>by exact .guard (!(decide (x_2.Owner ≠ x_3.Owner))) 3 [29,30] (.plain rfl) (dQ _) rfl rfl (fun g10=>⟨g10,g10,trivial⟩) (fun g10=>an fF (aL (gc e11 g10)) (aB (e:=ao) (gc e11 g10)) rfl rfl),fun _=>by exact .guard (!(decide (x_2.Owner ≠ x_3.Owner))) 2 [31] (.plain rfl) (dQ _) rfl rfl (fun g12=>⟨g12,trivial⟩) (fun g12=>cH dE rfl rfl),fun _=>by exact .guard (!(decide (x_2.Owner ≠ x_3.Owner))) 2 [32] (.plain rfl) (dQ _) rfl rfl (fun g13=>⟨g13,trivial⟩) (fun g13=>au aN rfl rfl),fun _=>by exact .guard (!(decide (x_2.Owner ≠ x_3.Owner))) 1 [] (.plain rfl) (dQ _) rfl rfl (fun g14=>trivial) (fun g14=>om),fun _=>by exact .guard (!(decide (x_2.Owner ≠ x_3.Owner))) 1 [] (.plain rfl) (dQ _) rfl rfl (fun g15=>trivial) (fun g15=>om),fun _=>by exact .guard (!(decide (x_2.Owner ≠ x_3.Owner))) 3 [34,35] (.plain rfl) (dQ _) rfl rfl (fun g16=>⟨g16,g16,trivial⟩) (fun g16=>an fF (aL (gc e17 g16)) (aB (e:=ao) (gc e17 g16)) rfl rfl),fun _=>by exact .guard (!(decide (x_2.Owner ≠ x_3.Owner))) 2 [36] (.plain rfl) (dQ _) rfl rfl (fun g18=>⟨g18,trivial⟩) (fun g18=>cH dE rfl rfl),fun _=>by exact .guard (!(decide (x_2.Owner ≠ x_3.Owner))) 2 [37] (.plain rfl) (dQ _) rfl rfl (fun g19=>⟨g19,trivial⟩) (fun g19=>au aN rfl rfl),fun _=>by exact .guard (!(decide (x_2.Owner ≠ x_3.Owner))) 4 [33,38] (.plain rfl) (dQ _) rfl rfl (fun g20=>⟨g20,g20,trivial⟩) (fun g20=>az (dw (gc e21 g20)) qe rfl rfl),fun _=>by exact .guard (!(decide (x_2.Owner ≠ x_3.Owner))) 2 [39] (.plain rfl) (dQ _) rfl rfl (fun g22=>⟨g22,trivial⟩) (fun g22=>cL rfl),fun _=>.p (aF (fun e=>by first | (rw [e]; rfl) | (simp only at e; rw [e]; rfl)) rfl rfl rfl rfl),fun _=>.p om,fun _=>by exact .guard (!((decide (x_2.Owner ≠ x_3.Owner)) || (!x_6))) 1 [] (.plain rfl) (dQ _) rfl rfl (fun g23=>trivial) (fun g23=>om),fun _=>by exact .guard (!((decide (x_2.Owner ≠ x_3.Owner)) || (!x_6))) 1 [] (.plain rfl) (dQ _) rfl rfl (fun g24=>trivial) (fun g24=>om),fun _=>by exact .guard (!((decide (x_2.Owner ≠ x_3.Owner)) || (!x_6))) 3 [43,44] (.plain rfl) (dQ _) rfl rfl (fun g25=>⟨g25,g25,trivial⟩) (fun g25=>an fF (aL (gc e26 g25)) (aB (e:=ao) (gc e26 g25)) rfl rfl),fun _=>by exact .guard (!((decide (x_2.Owner ≠ x_3.Owner)) || (!x_6))) 2 [45] (.plain rfl) (dQ _) rfl rfl (fun g27=>⟨g27,trivial⟩) (fun g27=>cH iy rfl rfl),fun _=>by exact .guard (!((decide (x_2.Owner ≠ x_3.Owner)) || (!x_6))) 2 [46] (.plain rfl) (dQ _) rfl rfl (fun g28=>⟨g28,trivial⟩) (fun g28=>au aN rfl rfl),fun _=>by exact .guard (!((decide (x_2.Owner ≠ x_3.Owner)) || (!x_6))) 1 [] (.plain rfl) (dQ _) rfl rfl (fun g29=>trivial) (fun g29=>om),fun _=>by exact .guard (!((decide (x_2.Owner ≠ x_3.Owner)) || (!x_6))) 1 [] (.plain rfl) (dQ _) rfl rfl (fun g30=>trivial) (fun g30=>om),fun _=>by exact .guard (!((decide (x_2.Owner ≠ x_3.Owner)) || (!x_6))) 3 [48,49] (.plain rfl) (dQ _) rfl rfl (fun g31=>⟨g31,g31,trivial⟩) (fun g31=>an fF (aL (gc e32 g31)) (aB (e:=ao) (gc e32 g31)) rfl rfl),fun _=>by exact .guard (!((decide (x_2.Owner ≠ x_3.Owner)) || (!x_6))) 2 [50] (.plain rfl) (dQ _) rfl rfl (fun g33=>⟨g33,trivial⟩) (fun g33=>cH iy rfl rfl),fun _=>by exact .guard (!((decide (x_2.Owner ≠ x_3.Owner)) || (!x_6))) 2 [51] (.plain rfl) (dQ _) rfl rfl (fun g34=>⟨g34,trivial⟩) (fun g34=>au aN rfl rfl),fun _=>by exact .guard (!((decide (x_2.Owner ≠ x_3.Owner)) || (!x_6))) 4 [47,52] (.plain rfl) (dQ _) rfl rfl (fun g35=>⟨g35,g35,trivial⟩) (fun g35=>az (dw (gc e36 g35)) qe rfl rfl),fun _=>by exact .guard (!((decide (x_2.Owner ≠ x_3.Owner)) || (!x_6))) 2 [53] (.plain rfl) (dQ _) rfl rfl (fun g37=>⟨g37,trivial⟩) (fun g37=>cL rfl),fun _=>.p (aF (fun e=>by first | (rw [e]; rfl) | (simp only at e; rw [e]; rfl)) rfl rfl rfl rfl),trivial⟩ rfl rfl ?_
    refine ab.ite h4 rfl (fun _ h4=>?_) (fun _ h4=>?_)
    ·refine ab.seq (ab.aa ?_)
     refine Oc oa (af.ak ⟨[(4,B false)],[]⟩ rfl (ab.ret (Fin.aJ (Fin.aw ?_))))
     obtain rfl:=hy5 _ (Option.some.inj h4).symm
     refine Fin.aw (Fin.aJ (Fin.aw ?_))
     obtain rfl:=Option.some.inj h
     refine Fin.ai ⟨[(4,_)],[]⟩ rfl (Fin.aM [.one (.bool false)] (.inl rfl) rfl (.cons (.tmp rfl) .nil) ⟨rfl,rfl⟩)
    ·refine ab.skip (Fin.ar (Fin.ai ⟨[(0,_),(1,_),(5,_)],[]⟩ rfl (Fin.then (ab.aa ?_))))
     refine Oc om (Oc (bh rfl rfl) (Oc oa ?_))
     refine af.nil ?_
     exact Fin.bp [0,1,5] [] (IntKind.i64.wrap (i_1 + 1)) (Option.some.inj h4) rfl
   ·refine ab.exit (Fin.aq ?_)
    obtain rfl:=hy5 _ (Option.some.inj h4).symm
    refine Fin.aq (Fin.aE ?_)
    exact Fin.join [] [] () rfl rfl
  ·rintro _ hv
   subst v1
   refine ab.seq (ab.aa ?_)
   refine Oc oa (af.ak ⟨[(4,B true)],[]⟩ rfl (ab.ret ?_))
   obtain rfl:=Option.some.inj h
   refine Fin.ai ⟨[(4,_)],[]⟩ rfl (Fin.aM [.one (.bool true)] (.inl rfl) rfl (.cons (.tmp rfl) .nil) ⟨rfl,rfl⟩)
def cy (F:Nat) (r0:Round):Option Bool :=
 Option.bind (iter F (fun x_1=>if (decide (x_1 < (r0.Tasks.length:Int))) = true then ((aV r0.Tasks x_1).bind fun x_2=>(aK (decide (x_2.Owner = r0.Me)) (aV r0.Done x_1)).bind fun x_3=>if ((decide (x_2.Owner = r0.Me)) && (!x_3)) = true then (some (.inr (.inr false))) else (some (.inl (IntKind.i64.wrap (x_1 + 1))))) else (some (.inr (.inl ())))) 0) (bG (fun _=>Option.bind (iter F (fun x_4=>if (decide (x_4 < (r0.Home.length:Int))) = true then ((aV r0.Home x_4).bind fun x_5=>(aK (decide (x_5 = r0.Me)) (aV r0.Results x_4)).bind fun x_6=>if ((decide (x_5 = r0.Me)) && (decide (x_6 = []))) = true then (some (.inr (.inr false))) else (some (.inl (IntKind.i64.wrap (x_4 + 1))))) else (some (.inr (.inl ())))) 0) (bG (fun _=>(cB F r0.Heard false).bind fun x_7=>some (!x_7)) (fun y=>some y))) (fun y=>some y))
theorem iN {F:Nat} {r0:Round} {r:Bool} (h:cy F r0 = some r):aA Try.prog [] 22 [] [.agg (ay r0)] (Is [] (.b (.one (.bool r)))):=by
 unfold cy at h
 refine aA.intro 54 Try.func22 Try.ntmps22 rfl (by simp) fun E=>?_
 show ab _ E ⟨54,[],[],[]⟩ _ ⟨[(0,.b (.agg (ay r0)))],[]⟩ _
 refine ab.seq (ab.aa ?_)
 refine Oc (fv (k:=101) rfl rfl) (Oc oa ?_)
 refine af.ak ⟨[(1,Pt 101 0)],[(101,.box 31 (ay r0))]⟩ rfl ?_
 obtain ⟨v1,h2,h⟩:=aP h
 refine ab.ca (v:=v1) (fun (_:Unit)=>⟨[(1,Pt 101 0)],[(101,.box 31 (ay r0))]⟩) (fun z=>.inl z) ?_ ?_
 ·refine ab.seq (ab.aa ?_)
  refine Oc (ae c9 rfl rfl) (Oc (ag ey rfl rfl rfl) (Oc (av kW rfl (List.length_map _)) (Oc om ?_)))
  refine af.ak ⟨[(1,_),(8,.b (.one (.sl 3 (r0.Tasks.map ao)))),(9,I (r0.Tasks.length:Int)),(10,I 0)],[(101,_)]⟩ rfl (ab.block (ab.bZ h2 (fun (x_1:Int)=>⟨[(1,Pt 101 0),(8,.b (.one (.sl 3 (r0.Tasks.map ao)))),(9,I (r0.Tasks.length:Int)),(10,I x_1)],[(101,.box 31 (ay r0))]⟩) [1,8,9,10] [101] rfl ?_))
  rintro x_1 o3 h4 hy5
  refine ab.seq (ab.aa ?_)
  refine Oc (aY rfl rfl) (af.ak ⟨[(1,_),(8,_),(9,_),(10,_),(11,B (decide (x_1 < (r0.Tasks.length:Int))))],[(101,_)]⟩ rfl (ab.seq (ab.ite h4 rfl (fun _ h4=>?_) (fun _ h4=>?_))))
  ·refine ab.skip (Fin.ai ⟨[(1,_),(8,_),(9,_),(10,_)],[(101,_)]⟩ rfl (Fin.then (ab.seq (ab.block (ab.seq (ab.aa ?_))))))
   refine Oc om ?_
   obtain ⟨x_2,e6,h4⟩:=aP h4
   refine Oc (an fF (aL e6) (aB (e:=ao) e6) rfl rfl) (Oc (fl fR rfl rfl rfl) (Oc (cz (k:=102) ke rfl) (Oc oa (Oc (aR fR rfl rfl rfl rfl (Nat.le_of_ble_eq_true rfl) rfl) ?_))))
   refine af.ak ⟨[(1,_),(3,I x_1),(4,Pt 102 0),(8,_),(9,_),(10,_)],[(101,_),(102,.box 59 (ao x_2))]⟩ rfl (ab.seq (ab.aa ?_))
   refine Oc (ae fJ rfl rfl) (Oc (ag aD rfl rfl rfl) (Oc (ae cJ rfl rfl) (Oc (ag aD rfl rfl rfl) (Oc (di rfl rfl) (Oc om ?_)))))
   refine dt (decide (x_2.Owner = r0.Me)) [] (fun g7=>trivial) (fun g7=>ae eG rfl rfl) (af.ai ⟨[(1,_),(3,_),(8,_),(9,_),(10,_),(20,B (decide (x_2.Owner = r0.Me))),(21,.opt (decide (x_2.Owner = r0.Me)) (.ptr 101 8))],[(101,_)]⟩ rfl (dt (decide (x_2.Owner = r0.Me)) [21] (fun g8=>⟨g8,trivial⟩) (fun g8=>ag dd rfl rfl rfl) (dt (decide (x_2.Owner = r0.Me)) [] (fun g9=>trivial) (fun g9=>om) ?_)))
   obtain ⟨x_3,e11,h4⟩:=aP h4
   refine dt (decide (x_2.Owner = r0.Me)) [22,23] (fun g10=>⟨g10,g10,trivial⟩) (fun g10=>an dK (aL (gc e11 g10)) (aB (e:=eB) (gc e11 g10)) rfl rfl) (dt (decide (x_2.Owner = r0.Me)) [24] (fun g12=>⟨g12,trivial⟩) (fun g12=>au gx rfl rfl) (dt (decide (x_2.Owner = r0.Me)) [25] (fun g13=>⟨g13,trivial⟩) (fun g13=>cL rfl) (Oc (aT (fun e=>e) rfl rfl rfl rfl) (af.ak ⟨[(1,_),(8,_),(9,_),(10,_),(27,B ((decide (x_2.Owner = r0.Me)) && (!x_3)))],[(101,_)]⟩ rfl (ab.ite h4 rfl (fun _ h4=>?_) (fun _ h4=>?_))))))
   ·refine ab.seq (ab.aa ?_)
    refine Oc oa (af.ak ⟨[(2,B false)],[]⟩ rfl (ab.ret (Fin.aJ (Fin.aw ?_))))
    obtain rfl:=hy5 _ (Option.some.inj h4).symm
    refine Fin.aw (Fin.aJ (Fin.aw ?_))
    obtain rfl:=Option.some.inj h
    refine Fin.ai ⟨[(2,_)],[]⟩ rfl (Fin.aM [.one (.bool false)] (.inl rfl) rfl (.cons (.tmp rfl) .nil) ⟨rfl,rfl⟩)
   ·refine ab.skip (Fin.ar (Fin.ai ⟨[(1,_),(8,_),(9,_),(10,_)],[(101,_)]⟩ rfl (Fin.then (ab.aa ?_))))
    refine Oc (bh rfl rfl) (Oc om ?_)
    refine af.nil ?_
    exact Fin.bp [1,8,9,10] [101] (IntKind.i64.wrap (x_1 + 1)) (Option.some.inj h4) rfl
  ·refine ab.exit (Fin.aq ?_)
   obtain rfl:=hy5 _ (Option.some.inj h4).symm
   refine Fin.aq (Fin.aE ?_)
   exact Fin.join [1] [101] () rfl rfl
 ·rintro _ hv
  subst v1
  obtain ⟨v14,h15,h⟩:=aP h
  refine ab.ca (v:=v14) (fun (_:Unit)=>⟨[(1,Pt 101 0)],[(101,.box 31 (ay r0))]⟩) (fun z=>.inl z) ?_ ?_
  ·refine ab.seq (ab.aa ?_)
   refine Oc (ae dF rfl rfl) (Oc (ag aN rfl rfl rfl) (Oc (av bR rfl (List.length_map _)) (Oc om ?_)))
   refine af.ak ⟨[(1,_),(30,.b (.one (.sl 1 (r0.Home.map eI)))),(31,I (r0.Home.length:Int)),(32,I 0)],[(101,_)]⟩ rfl (ab.block (ab.bZ h15 (fun (x_4:Int)=>⟨[(1,Pt 101 0),(30,.b (.one (.sl 1 (r0.Home.map eI)))),(31,I (r0.Home.length:Int)),(32,I x_4)],[(101,.box 31 (ay r0))]⟩) [1,30,31,32] [101] rfl ?_))
   rintro x_4 o16 h17 hy18
   refine ab.seq (ab.aa ?_)
   refine Oc (aY rfl rfl) (af.ak ⟨[(1,_),(30,_),(31,_),(32,_),(33,B (decide (x_4 < (r0.Home.length:Int))))],[(101,_)]⟩ rfl (ab.seq (ab.ite h17 rfl (fun _ h17=>?_) (fun _ h17=>?_))))
   ·refine ab.skip (Fin.ai ⟨[(1,_),(30,_),(31,_),(32,_)],[(101,_)]⟩ rfl (Fin.then (ab.seq (ab.block (ab.seq (ab.aa ?_))))))
    refine Oc om ?_
    obtain ⟨x_5,e19,h17⟩:=aP h17
    refine Oc (an aQ (aL e19) (aB (e:=eI) e19) rfl rfl) (Oc (au aD rfl rfl) (Oc oa (Oc oa ?_)))
    refine af.ak ⟨[(1,_),(5,I x_4),(6,I x_5),(30,_),(31,_),(32,_)],[(101,_)]⟩ rfl (ab.seq (ab.aa ?_))
    refine Oc om (Oc (ae cJ rfl rfl) (Oc (ag aD rfl rfl rfl) (Oc (di rfl rfl) (Oc om ?_))))
    refine dt (decide (x_5 = r0.Me)) [] (fun g20=>trivial) (fun g20=>ae ep rfl rfl) (dt (decide (x_5 = r0.Me)) [42] (fun g21=>⟨g21,trivial⟩) (fun g21=>ag b6 rfl rfl rfl) (af.ai ⟨[(1,_),(5,_),(30,_),(31,_),(32,_),(41,B (decide (x_5 = r0.Me))),(43,.opt (decide (x_5 = r0.Me)) (.one (.sl 1 (r0.Results.map eS))))],[(101,_)]⟩ rfl (dt (decide (x_5 = r0.Me)) [] (fun g22=>trivial) (fun g22=>om) ?_)))
    obtain ⟨x_6,e24,h17⟩:=aP h17
    refine dt (decide (x_5 = r0.Me)) [43,44] (fun g23=>⟨g23,g23,trivial⟩) (fun g23=>an cw (aL (gc e24 g23)) (aB (e:=eS) (gc e24 g23)) rfl rfl) (dt (decide (x_5 = r0.Me)) [45] (fun g25=>⟨g25,trivial⟩) (fun g25=>au fG rfl rfl) (dt (decide (x_5 = r0.Me)) [46] (fun g26=>⟨g26,trivial⟩) (fun g26=>hX rfl rfl) (Oc (aT (fun e=>e) rfl rfl rfl rfl) (af.ak ⟨[(1,_),(30,_),(31,_),(32,_),(48,B ((decide (x_5 = r0.Me)) && (decide (x_6 = []))))],[(101,_)]⟩ rfl (ab.ite h17 rfl (fun _ h17=>?_) (fun _ h17=>?_))))))
    ·refine ab.seq (ab.aa ?_)
     refine Oc oa (af.ak ⟨[(2,B false)],[]⟩ rfl (ab.ret (Fin.aJ (Fin.aw ?_))))
     obtain rfl:=hy18 _ (Option.some.inj h17).symm
     refine Fin.aw (Fin.aJ (Fin.aw ?_))
     obtain rfl:=Option.some.inj h
     refine Fin.ai ⟨[(2,_)],[]⟩ rfl (Fin.aM [.one (.bool false)] (.inl rfl) rfl (.cons (.tmp rfl) .nil) ⟨rfl,rfl⟩)
    ·refine ab.skip (Fin.ar (Fin.ai ⟨[(1,_),(30,_),(31,_),(32,_)],[(101,_)]⟩ rfl (Fin.then (ab.aa ?_))))
     refine Oc (bh rfl rfl) (Oc om ?_)
     refine af.nil ?_
     exact Fin.bp [1,30,31,32] [101] (IntKind.i64.wrap (x_4 + 1)) (Option.some.inj h17) rfl
   ·refine ab.exit (Fin.aq ?_)
    obtain rfl:=hy18 _ (Option.some.inj h17).symm
    refine Fin.aq (Fin.aE ?_)
    exact Fin.join [1] [101] () rfl rfl
  ·rintro _ hv
   subst v14
   refine ab.seq (ab.aa ?_)
   refine Oc (ae er rfl rfl) (Oc (ag dd rfl rfl rfl) ?_)
   obtain ⟨x_7,e27,h⟩:=aP h
   refine Oc (az (ig e27) uX rfl rfl) (Oc (cL rfl) (Oc oa ?_))
   refine af.ak ⟨[(2,B (!x_7))],[]⟩ rfl (ab.ret ?_)
   obtain rfl:=Option.some.inj h
   refine Fin.ai ⟨[(2,_)],[]⟩ rfl (Fin.aM [.one (.bool (!x_7))] (.inl rfl) rfl (.cons (.tmp rfl) .nil) ⟨rfl,rfl⟩)
def bt (F:Nat):Option Bool :=
 Option.bind (gQ F [10,20] 9 20) (eU fun x_1 x_2=>Option.bind (fX F [0,1,2,(-1),1] [[1,0]]) (eU fun x_3 x_4=>Option.bind (dL F 0 2 7 [0,1] [[0,1]] [[97],[]]) (rf fun x_5 x_6 x_7=>Option.bind (dL F 1 2 7 [0,1] [[0,1]] [[],[98]]) (rf fun x_8 x_9 x_10=>bu (((decide (x_7 ≠ 0)) || (decide (x_10 ≠ 0))) || (decide ((x_6.length:Int) ≠ 1))) fun x_11=>if (x_11 || (decide ((x_9.length:Int) ≠ 1))) = true then (some false) else ((aV x_9 0).bind fun x_12=>Option.bind (dG F x_5 x_12) (eU fun x_13 x_14=>(aV x_6 0).bind fun x_15=>Option.bind (dG F x_8 x_15) (eU fun x_16 x_17=>bu ((decide ((x_14.length:Int) ≠ 0)) || (decide ((x_17.length:Int) ≠ 1))) fun x_18=>(aK (!x_18) (aV x_17 0)).bind fun x_19=>(aK (!(x_18 || (decide (x_19.Kind ≠ 2)))) (dY F x_13)).bind fun x_20=>bu ((x_18 || (decide (x_19.Kind ≠ 2))) || (decide ((x_20.length:Int) ≠ 0))) fun x_21=>(aK (!x_21) (dY F x_16)).bind fun x_22=>if (x_21 || (decide ((x_22.length:Int) ≠ 0))) = true then (some false) else ((aV x_17 0).bind fun x_23=>Option.bind (dG F x_13 x_23) (eU fun x_24 x_25=>Option.bind (eh F x_24 0 [[99],[100]]) (rf fun x_26 x_27 x_28=>(aK (!((decide (x_28 ≠ 0)) || (decide ((x_27.length:Int) ≠ 1)))) (aV x_27 0)).bind fun x_29=>bu (((decide (x_28 ≠ 0)) || (decide ((x_27.length:Int) ≠ 1))) || (decide (x_29.Kind ≠ 3))) fun x_30=>if (x_30 || (decide ((x_25.length:Int) ≠ 0))) = true then (some false) else ((aV x_27 0).bind fun x_31=>Option.bind (dG F x_16 x_31) (eU fun x_32 x_33=>bu (((decide (x_1 = 0)) && (decide (x_2 = 2))) && (decide (x_4 = 0))) fun x_34=>(aK x_34 (bJ F x_3 [(⟨0,[0,1],[1]⟩:Task),(⟨2,[2],[]⟩:Task),(⟨1,[4],[]⟩:Task)])).bind fun x_35=>(aK (x_34 && x_35) (cy F x_26)).bind fun x_36=>(aK ((x_34 && x_35) && x_36) (cy F x_32)).bind fun x_37=>(aK (((x_34 && x_35) && x_36) && x_37) (aV x_32.Results 1)).bind fun x_38=>bu ((((x_34 && x_35) && x_36) && x_37) && (decide (x_38 = [100]))) fun x_39=>(aK x_39 (aV x_26.Results 0)).bind fun x_40=>some (x_39 && (decide (x_40 = [99])))))))))))))))
theorem eD {F:Nat} {r:Bool} (h:bt F = some r):aA Try.prog [] 10 [] [] (Is [] (.b (.one (.bool r)))):=by
 unfold bt at h
 refine aA.intro 195 Try.func10 Try.ntmps10 rfl (by simp) fun E=>?_
 show ab _ E ⟨195,[],[],[]⟩ _ ⟨[],[]⟩ _
 refine ab.seq (ab.aa ?_)
 refine Oc oa (af.ak ⟨[],[]⟩ rfl (ab.seq (ab.aa ?_)))
 refine Oc (aO (k:=101) (es:=[10,20].map eI) aQ rfl rfl (bc fun _=>rfl) rfl (by decide) (by decide) rfl) ?_
 obtain ⟨⟨x_1,x_2⟩,e1,h⟩:=aP h
 refine Oc (rA (qD e1) goes36 rfl (ub ⟨CP.uc,CP.uc,trivial⟩)) (Oc om (Oc (aZ rfl rfl) ?_))
 refine af.ai ⟨[(18,.gR [.one (.i x_1),.one (.i x_2)]),(21,I x_1)],[]⟩ rfl (Oc (aZ rfl rfl) (Oc oa (Oc oa ?_)))
 refine af.ak ⟨[(1,I x_1),(2,I x_2)],[]⟩ rfl (ab.seq (ab.aa ?_))
 refine Oc (aO (k:=102) (es:=[0,1,2,(-1),1].map eI) aQ rfl rfl (bc fun _=>rfl) rfl (by decide) (by decide) rfl) (Oc (aO (k:=103) (es:=[1,0].map eI) aQ rfl rfl (bc fun _=>rfl) rfl (by decide) (by decide) rfl) ?_)
 refine af.bg 103 rfl (af.ai ⟨[(1,I x_1),(2,I x_2),(24,.b (.row 102)),(25,.b (.one (.sl 1 ([1,0].map eI))))],[(102,.row 3 1 ([0,1,2,(-1),1].map eI))]⟩ rfl (Oc (aO (k:=104) (es:=[[1,0]].map (eL 1 eI)) bY rfl rfl (bc fun _=>rfl) rfl (by decide) (by decide) rfl) (af.bg 102 rfl (af.bg 104 rfl ?_))))
 obtain ⟨⟨x_3,x_4⟩,e2,h⟩:=aP h
 refine Oc (bL (qB 105 e2) goes26 rfl trivial rfl rfl) (af.ai ⟨[(1,_),(2,_),(27,.gR [.row 105,.one (.i x_4)])],[(105,.row 59 3 (x_3.map ao))]⟩ rfl (Oc om (Oc (aZ rfl rfl) (Oc (aZ rfl rfl) (Oc oa (Oc oa ?_))))))
 refine af.ak ⟨[(1,_),(2,_),(3,.b (.row 105)),(4,I x_4)],[(105,_)]⟩ rfl (ab.seq (ab.aa ?_))
 refine Oc (aO (k:=106) (es:=[0,1].map eI) aQ rfl rfl (bc fun _=>rfl) rfl (by decide) (by decide) rfl) (Oc (aO (k:=107) (es:=[1].map eI) aQ rfl rfl (bc fun _=>rfl) rfl (by decide) (by decide) rfl) ?_)
 refine af.bg 106 rfl (af.bg 107 rfl (af.ai ⟨[(1,I x_1),(2,I x_2),(3,.b (.row 105)),(4,I x_4),(30,.b (.one (.sl 1 ([0,1].map eI)))),(31,.b (.one (.sl 1 ([1].map eI))))],[(105,.row 59 3 (x_3.map ao))]⟩ rfl (Oc (cc kO rfl rfl) (Oc (aO (k:=108) (es:=[2].map eI) aQ rfl rfl (bc fun _=>rfl) rfl (by decide) (by decide) rfl) ?_))))
 refine af.bg 108 rfl (Oc (bD.jH (.same (.same (.sl (size:=1) (by decide) (.nil)))) (cc kO rfl rfl)) (Oc (aO (k:=109) (es:=[4].map eI) aQ rfl rfl (bc fun _=>rfl) rfl (by decide) (by decide) rfl) ?_))
 refine af.bg 109 rfl (af.ai ⟨[(1,I x_1),(2,I x_2),(3,.b (.row 105)),(4,I x_4),(32,.b (.agg [.i 0,.sl 1 ([0,1].map eI),.sl 1 ([1].map eI)])),(34,.b (.agg [.i 2,.sl 1 ([2].map eI),.sl 1 ([].map eI)])),(35,.b (.one (.sl 1 ([4].map eI))))],[(105,.row 59 3 (x_3.map ao))]⟩ rfl (Oc (bD.jH (.same (.same (.sl (size:=1) (by decide) (.nil)))) (cc kO rfl rfl)) (Oc (aO (k:=110) (es:=[(⟨0,[0,1],[1]⟩:Task),(⟨2,[2],[]⟩:Task),(⟨1,[4],[]⟩:Task)].map ao) fF rfl rfl (bc fun _=>rfl) rfl (by decide) (by decide) rfl) (Oc oa ?_))))
 refine af.ak ⟨[(1,_),(2,_),(3,_),(4,_),(5,.b (.row 110))],[(105,_),(110,.row 59 3 ([(⟨0,[0,1],[1]⟩:Task),(⟨2,[2],[]⟩:Task),(⟨1,[4],[]⟩:Task)].map ao))]⟩ rfl (ab.seq (ab.aa ?_))
 refine Oc (aO (k:=111) (es:=[0,1].map eI) aQ rfl rfl (bc fun _=>rfl) rfl (by decide) (by decide) rfl) (Oc oa ?_)
 refine af.ak ⟨[(1,_),(2,_),(3,_),(4,_),(5,_),(6,.b (.row 111))],[(105,_),(110,_),(111,.row 3 1 ([0,1].map eI))]⟩ rfl (ab.seq (ab.aa ?_))
 refine Oc (aO (k:=112) (es:=[0,1].map eI) aQ rfl rfl (bc fun _=>rfl) rfl (by decide) (by decide) rfl) (af.bg 112 rfl (Oc (aO (k:=113) (es:=[[0,1]].map (eL 1 eI)) bY rfl rfl (bc fun _=>rfl) rfl (by decide) (by decide) rfl) (Oc oa ?_)))
 refine af.ak ⟨[(1,I x_1),(2,I x_2),(3,.b (.row 105)),(4,I x_4),(5,.b (.row 110)),(6,.b (.row 111)),(7,.b (.row 113))],[(105,.row 59 3 (x_3.map ao)),(110,.row 59 3 ([(⟨0,[0,1],[1]⟩:Task),(⟨2,[2],[]⟩:Task),(⟨1,[4],[]⟩:Task)].map ao)),(111,.row 3 1 ([0,1].map eI)),(113,.row 22 1 ([[0,1]].map (eL 1 eI)))]⟩ rfl (ab.seq (ab.aa ?_))
 refine Oc om (Oc om (Oc (aO (k:=114) (es:=[[97],[]].map eS) cw rfl rfl (bc fun _=>rfl) rfl (by decide) (by decide) rfl) ?_))
 refine af.bg 111 rfl (af.bg 113 rfl (af.bg 114 rfl (af.ai ⟨[(1,I x_1),(2,I x_2),(3,.b (.row 105)),(4,I x_4),(5,.b (.row 110)),(6,.b (.one (.sl 1 ([0,1].map eI)))),(7,.b (.one (.sl 1 ([[0,1]].map (eL 1 eI))))),(42,.b (.one (.sl 1 ([0,1].map eI)))),(43,.b (.one (.sl 1 ([[0,1]].map (eL 1 eI))))),(44,.b (.one (.sl 1 ([[97],[]].map eS))))],[(105,.row 59 3 (x_3.map ao)),(110,.row 59 3 ([(⟨0,[0,1],[1]⟩:Task),(⟨2,[2],[]⟩:Task),(⟨1,[4],[]⟩:Task)].map ao))]⟩ rfl ?_)))
 obtain ⟨⟨x_5,x_6,x_7⟩,e3,h⟩:=aP h
 refine Oc (bL (jW 115 e3) vf rfl trivial rfl rfl) (Oc om (Oc (aZ rfl rfl) (Oc (aZ rfl rfl) (Oc (aZ rfl rfl) (Oc (cz (k:=116) hC rfl) ?_)))))
 refine af.ai ⟨[(1,_),(2,_),(3,_),(4,_),(5,_),(6,_),(7,_),(8,Pt 116 0),(46,.b (.agg (ay x_5))),(47,.b (.row 115)),(48,I x_7)],[(105,_),(110,_),(115,.row 42 7 (x_6.map ah)),(116,.box 31 [.i 0,.i 0,.i 0,.nil,.nil,.nil,.nil,.nil,.nil,.nil])]⟩ rfl (Oc (aR aU rfl rfl rfl rfl (Nat.le_of_ble_eq_true rfl) rfl) (Oc oa (Oc oa ?_)))
 refine af.ak ⟨[(1,_),(2,_),(3,_),(4,_),(5,_),(6,_),(7,_),(8,_),(9,.b (.row 115)),(10,I x_7)],[(105,_),(110,_),(115,_),(116,.box 31 (ay x_5))]⟩ rfl (ab.seq (ab.aa ?_))
 refine Oc om (Oc om (Oc (aO (k:=117) (es:=[[],[98]].map eS) cw rfl rfl (bc fun _=>rfl) rfl (by decide) (by decide) rfl) ?_))
 refine af.bg 117 rfl (af.ai ⟨[(1,I x_1),(2,I x_2),(3,.b (.row 105)),(4,I x_4),(5,.b (.row 110)),(8,Pt 116 0),(9,.b (.row 115)),(10,I x_7),(50,.b (.one (.sl 1 ([0,1].map eI)))),(51,.b (.one (.sl 1 ([[0,1]].map (eL 1 eI))))),(52,.b (.one (.sl 1 ([[],[98]].map eS))))],[(105,.row 59 3 (x_3.map ao)),(110,.row 59 3 ([(⟨0,[0,1],[1]⟩:Task),(⟨2,[2],[]⟩:Task),(⟨1,[4],[]⟩:Task)].map ao)),(115,.row 42 7 (x_6.map ah)),(116,.box 31 (ay x_5))]⟩ rfl ?_)
 obtain ⟨⟨x_8,x_9,x_10⟩,e4,h⟩:=aP h
 refine Oc (bL (jW 118 e4) vf rfl trivial rfl rfl) (Oc om (Oc (aZ rfl rfl) (Oc (aZ rfl rfl) (Oc (aZ rfl rfl) (Oc (cz (k:=119) hC rfl) ?_)))))
 refine af.ai ⟨[(1,_),(2,_),(3,_),(4,_),(5,_),(8,_),(9,_),(10,_),(11,Pt 119 0),(54,.b (.agg (ay x_8))),(55,.b (.row 118)),(56,I x_10)],[(105,_),(110,_),(115,_),(116,_),(118,.row 42 7 (x_9.map ah)),(119,.box 31 [.i 0,.i 0,.i 0,.nil,.nil,.nil,.nil,.nil,.nil,.nil])]⟩ rfl (Oc (aR aU rfl rfl rfl rfl (Nat.le_of_ble_eq_true rfl) rfl) (Oc oa (Oc oa ?_)))
 refine af.ak ⟨[(1,_),(2,_),(3,_),(4,_),(5,_),(8,_),(9,_),(10,_),(11,_),(12,.b (.row 118)),(13,I x_10)],[(105,_),(110,_),(115,_),(116,_),(118,_),(119,.box 31 (ay x_8))]⟩ rfl (ab.seq (ab.seq (ab.aa ?_)))
 refine Oc om (Oc (cY rfl rfl) (Oc om ?_))
 refine bF (!(decide (x_7 ≠ 0))) [] (fun g5=>trivial) (fun g5=>om) (bF (!(decide (x_7 ≠ 0))) [60] (fun g6=>by exact ⟨g6,trivial⟩) (fun g6=>cY rfl rfl) (Oc (aF (fun e=>by first | (rw [e]; rfl) | (simp only at e; rw [e]; rfl)) rfl rfl rfl rfl) (Oc om ?_)))
 refine af.ai ⟨[(1,_),(2,_),(3,_),(4,_),(5,_),(8,_),(9,_),(11,_),(12,_),(63,B ((decide (x_7 ≠ 0)) || (decide (x_10 ≠ 0))))],[(105,_),(110,_),(115,_),(116,_),(118,_),(119,_)]⟩ rfl (bF (!((decide (x_7 ≠ 0)) || (decide (x_10 ≠ 0)))) [] (fun g7=>trivial) (fun g7=>om) (bF (!((decide (x_7 ≠ 0)) || (decide (x_10 ≠ 0)))) [64] (fun g8=>by exact ⟨g8,trivial⟩) (fun g8=>fN pt rfl rfl (List.length_map _)) (bF (!((decide (x_7 ≠ 0)) || (decide (x_10 ≠ 0)))) [65] (fun g9=>by exact ⟨g9,trivial⟩) (fun g9=>cY rfl rfl) (af.fQ h rfl (aF (fun e=>by first | (rw [e]; rfl) | (simp only at e; rw [e]; rfl)) rfl rfl rfl rfl) (fun x_11 h=>?_)))))
 refine Oc om (bF (!x_11) [] (fun g10=>by exact trivial) (fun g10=>om) (af.ai ⟨[(1,_),(2,_),(3,_),(4,_),(5,_),(8,_),(9,_),(11,_),(12,_),(68,B x_11),(69,.opt (!x_11) (.row 118))],[(105,_),(110,_),(115,_),(116,_),(118,_),(119,_)]⟩ rfl (bF (!x_11) [69] (fun g11=>by exact ⟨g11,trivial⟩) (fun g11=>fN pt rfl rfl (List.length_map _)) (bF (!x_11) [70] (fun g12=>by exact ⟨g12,trivial⟩) (fun g12=>cY rfl rfl) (Oc (aF (fun e=>by first | (rw [e]; rfl) | (simp only at e; rw [e]; rfl)) rfl rfl rfl rfl) ?_)))))
 refine af.ak ⟨[(1,_),(2,_),(3,_),(4,_),(5,_),(8,_),(9,_),(11,_),(12,_),(72,B (x_11 || (decide ((x_9.length:Int) ≠ 1))))],[(105,_),(110,_),(115,_),(116,_),(118,_),(119,_)]⟩ rfl (ab.ite h rfl (fun _ h=>?_) (fun _ h=>?_))
 ·refine ab.seq (ab.aa ?_)
  refine Oc oa (af.ak ⟨[(0,B false)],[]⟩ rfl (ab.ret (Fin.aw ?_)))
  obtain rfl:=Option.some.inj h
  refine Fin.ai ⟨[(0,_)],[]⟩ rfl (Fin.aM [.one (.bool false)] (.inl rfl) rfl (.cons (.tmp rfl) .nil) ⟨rfl,rfl⟩)
 ·refine ab.skip (Fin.ai ⟨[(1,_),(2,_),(3,_),(4,_),(5,_),(8,_),(9,_),(11,_),(12,_)],[(105,_),(110,_),(115,_),(116,_),(118,_),(119,_)]⟩ rfl (Fin.then (ab.seq ?_)))
  refine ab.ai ⟨[(1,_),(2,_),(3,_),(4,_),(5,_),(8,_),(9,_),(11,_),(12,_)],[(105,_),(110,_),(115,_),(116,_),(118,_),(119,_)]⟩ rfl ?_
  obtain ⟨x_12,e13,h⟩:=aP h
  obtain ⟨⟨x_13,x_14⟩,e14,h⟩:=aP h
  refine ab.ff mixed [false,false,false,false,false,false,false,false,true,false] [.b (.agg (ay x_5)),.b (.row 118),.b (.eQ 118 ((0:Int).toNat * 7)),.b (.agg (ah x_12)),.gR [.agg (ay x_13),.one (.sl 7 (x_14.map ah))],.gR [.agg (ay x_13),.one (.sl 7 (x_14.map ah))],.b (.agg (ay x_13)),.b (.one (.sl 7 (x_14.map ah))),B true,.b (.one (.sl 7 (x_14.map ah)))] [⟨[false,false,false,false,false,false,false,false,false,false],[(1,I x_1),(2,I x_2),(3,.b (.row 105)),(4,I x_4),(5,.b (.row 110)),(8,Pt 116 0),(9,.b (.row 115)),(11,Pt 119 0),(12,.b (.row 118))],[(105,.row 59 3 (x_3.map ao)),(110,.row 59 3 ([(⟨0,[0,1],[1]⟩:Task),(⟨2,[2],[]⟩:Task),(⟨1,[4],[]⟩:Task)].map ao)),(115,.row 42 7 (x_6.map ah)),(116,.box 31 (ay x_5)),(118,.row 42 7 (x_9.map ah)),(119,.box 31 (ay x_8))],[true,true,true,true,true,true,true,true,true,true],[],[9]⟩,⟨[false,false,false,false,false,false,false,false,true,false],[(1,I x_1),(2,I x_2),(3,.b (.row 105)),(4,I x_4),(5,.b (.row 110)),(8,Pt 116 0),(9,.b (.row 115)),(11,Pt 119 0),(12,.b (.row 118))],[(105,.row 59 3 (x_3.map ao)),(110,.row 59 3 ([(⟨0,[0,1],[1]⟩:Task),(⟨2,[2],[]⟩:Task),(⟨1,[4],[]⟩:Task)].map ao)),(115,.row 42 7 (x_6.map ah)),(116,.box 31 (ay x_13)),(118,.row 42 7 (x_9.map ah)),(119,.box 31 (ay x_8))],[true,true,true,true,true,true,true,true,true,true],[0,1,2,3,4,5,6,8],[]⟩] rfl (⟨by kernel_rfl,⟨⟨.b (.agg (ay x_5)),fun _=>rfl,fun _=>.p (by exact ji aU rfl rfl rfl rfl)⟩,⟨.b (.row 118),fun _=>rfl,fun _=>.p (by exact ax rfl)⟩,⟨.b (.eQ 118 ((0:Int).toNat * 7)),fun _=>rfl,fun _=>.p (by exact bq iL (aL e13) (dy e13) rfl rfl rfl rfl)⟩,⟨.b (.agg (ah x_12)),fun _=>rfl,fun _=>.p (by exact qo (i:=(0:Int).toNat) (f:=0) gb rfl rfl rfl (aB (e:=ah) e13) rfl rfl)⟩,⟨.gR [.agg (ay x_13),.one (.sl 7 (x_14.map ah))],fun _=>rfl,fun _=>.p (by exact az (gG 0 e14).fp rp rfl rfl)⟩,⟨.gR [.agg (ay x_13),.one (.sl 7 (x_14.map ah))],fun _=>rfl,fun _=>.p (by exact ax rfl)⟩,⟨.b (.agg (ay x_13)),fun _=>rfl,fun _=>.p (by exact aZ rfl rfl)⟩,⟨.b (.one (.sl 7 (x_14.map ah))),fun _=>rfl,fun _=>.p (by exact aZ rfl rfl)⟩,⟨_,[],.b (.one .any),rfl,(fun e=>by simp at e),rfl,rfl,fun _=>.jG [105,110,115,116,118,119] (by exact .p (by exact aR aU rfl rfl rfl rfl (Nat.le_of_ble_eq_true rfl) rfl)) (by exact rfl)⟩,trivial,trivial⟩,⟨by kernel_rfl,⟨trivial,trivial,trivial,trivial,trivial,trivial,trivial,⟨.b (.one (.sl 7 (x_14.map ah))),fun _=>rfl,fun _=>.p (by exact aZ rfl rfl)⟩,trivial,⟨.b (.one (.sl 7 (x_14.map ah))),fun _=>rfl,fun _=>.p (by exact dH rfl)⟩,trivial⟩,trivial⟩⟩) rfl rfl rfl [1,2,3,4,5,8,9,11,14] [105,110,115,116,119] (s':=⟨[(1,_),(2,_),(3,_),(4,_),(5,_),(8,_),(9,_),(11,_),(14,.b (.one (.sl 7 (x_14.map ah))))],[(105,_),(110,_),(115,_),(116,.box 31 (ay x_13)),(119,_)]⟩) rfl ?_
  refine ab.seq (ab.ai ⟨[(1,_),(2,_),(3,_),(4,_),(5,_),(8,_),(9,_),(11,_),(14,_)],[(105,_),(110,_),(115,_),(116,_),(119,_)]⟩ rfl ?_)
  obtain ⟨x_15,e15,h⟩:=aP h
  obtain ⟨⟨x_16,x_17⟩,e16,h⟩:=aP h
  refine ab.ff mixed [false,false,false,false,false,false,false,false,true,false] [.b (.agg (ay x_8)),.b (.row 115),.b (.eQ 115 ((0:Int).toNat * 7)),.b (.agg (ah x_15)),.gR [.agg (ay x_16),.one (.sl 7 (x_17.map ah))],.gR [.agg (ay x_16),.one (.sl 7 (x_17.map ah))],.b (.agg (ay x_16)),.b (.one (.sl 7 (x_17.map ah))),B true,.b (.one (.sl 7 (x_17.map ah)))] [⟨[false,false,false,false,false,false,false,false,false,false],[(1,I x_1),(2,I x_2),(3,.b (.row 105)),(4,I x_4),(5,.b (.row 110)),(8,Pt 116 0),(9,.b (.row 115)),(11,Pt 119 0),(14,.b (.one (.sl 7 (x_14.map ah))))],[(105,.row 59 3 (x_3.map ao)),(110,.row 59 3 ([(⟨0,[0,1],[1]⟩:Task),(⟨2,[2],[]⟩:Task),(⟨1,[4],[]⟩:Task)].map ao)),(115,.row 42 7 (x_6.map ah)),(116,.box 31 (ay x_13)),(119,.box 31 (ay x_8))],[true,true,true,true,true,true,true,true,true,true],[],[9]⟩,⟨[false,false,false,false,false,false,false,false,true,false],[(1,I x_1),(2,I x_2),(3,.b (.row 105)),(4,I x_4),(5,.b (.row 110)),(8,Pt 116 0),(9,.b (.row 115)),(11,Pt 119 0),(14,.b (.one (.sl 7 (x_14.map ah))))],[(105,.row 59 3 (x_3.map ao)),(110,.row 59 3 ([(⟨0,[0,1],[1]⟩:Task),(⟨2,[2],[]⟩:Task),(⟨1,[4],[]⟩:Task)].map ao)),(115,.row 42 7 (x_6.map ah)),(116,.box 31 (ay x_13)),(119,.box 31 (ay x_16))],[true,true,true,true,true,true,true,true,true,true],[0,1,2,3,4,5,6,8],[]⟩] rfl (⟨by kernel_rfl,⟨⟨.b (.agg (ay x_8)),fun _=>rfl,fun _=>.p (by exact ji aU rfl rfl rfl rfl)⟩,⟨.b (.row 115),fun _=>rfl,fun _=>.p (by exact ax rfl)⟩,⟨.b (.eQ 115 ((0:Int).toNat * 7)),fun _=>rfl,fun _=>.p (by exact bq iL (aL e15) (dy e15) rfl rfl rfl rfl)⟩,⟨.b (.agg (ah x_15)),fun _=>rfl,fun _=>.p (by exact qo (i:=(0:Int).toNat) (f:=0) gb rfl rfl rfl (aB (e:=ah) e15) rfl rfl)⟩,⟨.gR [.agg (ay x_16),.one (.sl 7 (x_17.map ah))],fun _=>rfl,fun _=>.p (by exact az (gG 0 e16).fp rp rfl rfl)⟩,⟨.gR [.agg (ay x_16),.one (.sl 7 (x_17.map ah))],fun _=>rfl,fun _=>.p (by exact ax rfl)⟩,⟨.b (.agg (ay x_16)),fun _=>rfl,fun _=>.p (by exact aZ rfl rfl)⟩,⟨.b (.one (.sl 7 (x_17.map ah))),fun _=>rfl,fun _=>.p (by exact aZ rfl rfl)⟩,⟨_,[],.b (.one .any),rfl,(fun e=>by simp at e),rfl,rfl,fun _=>.jG [105,110,115,116,119] (by exact .p (by exact aR aU rfl rfl rfl rfl (Nat.le_of_ble_eq_true rfl) rfl)) (by exact rfl)⟩,trivial,trivial⟩,⟨by kernel_rfl,⟨trivial,trivial,trivial,trivial,trivial,trivial,trivial,⟨.b (.one (.sl 7 (x_17.map ah))),fun _=>rfl,fun _=>.p (by exact aZ rfl rfl)⟩,trivial,⟨.b (.one (.sl 7 (x_17.map ah))),fun _=>rfl,fun _=>.p (by exact dH rfl)⟩,trivial⟩,trivial⟩⟩) rfl rfl rfl [1,2,3,4,5,8,11,14,15] [105,110,116,119] (s':=⟨[(1,_),(2,_),(3,_),(4,_),(5,_),(8,_),(11,_),(14,_),(15,.b (.one (.sl 7 (x_17.map ah))))],[(105,_),(110,_),(116,_),(119,.box 31 (ay x_16))]⟩) rfl ?_
  refine ab.seq (ab.seq (ab.aa ?_))
  refine Oc om (Oc (av pt rfl (List.length_map _)) (Oc (cY rfl rfl) (Oc om ?_)))
  refine bF (!(decide ((x_14.length:Int) ≠ 0))) [] (fun g17=>trivial) (fun g17=>om) (af.ai ⟨[(1,_),(2,_),(3,_),(4,_),(5,_),(8,_),(11,_),(15,_),(92,B (decide ((x_14.length:Int) ≠ 0))),(93,.opt (!(decide ((x_14.length:Int) ≠ 0))) (.one (.sl 7 (x_17.map ah))))],[(105,_),(110,_),(116,_),(119,_)]⟩ rfl (bF (!(decide ((x_14.length:Int) ≠ 0))) [93] (fun g18=>by exact ⟨g18,trivial⟩) (fun g18=>av pt rfl (List.length_map _)) (bF (!(decide ((x_14.length:Int) ≠ 0))) [94] (fun g19=>by exact ⟨g19,trivial⟩) (fun g19=>cY rfl rfl) (af.fQ h rfl (aF (fun e=>by first | (rw [e]; rfl) | (simp only at e; rw [e]; rfl)) rfl rfl rfl rfl) (fun x_18 h=>?_)))))
  refine Oc om (bF (!x_18) [] (fun g20=>by exact trivial) (fun g20=>om) ?_)
  obtain ⟨x_19,e22,h⟩:=aP h
  refine bF (!x_18) [98] (fun g21=>⟨g21,trivial⟩) (fun g21=>an iL (aL (gc e22 g21)) (aB (e:=ah) (gc e22 g21)) rfl rfl) (bF (!x_18) [99] (fun g23=>⟨g23,trivial⟩) (fun g23=>cH kN rfl rfl) (bF (!x_18) [100] (fun g24=>⟨g24,trivial⟩) (fun g24=>au aD rfl rfl) (af.ai ⟨[(1,_),(2,_),(3,_),(4,_),(5,_),(8,_),(11,_),(15,_),(97,B x_18),(101,.opt (!x_18) (.one (.i x_19.Kind)))],[(105,_),(110,_),(116,_),(119,_)]⟩ rfl (bF (!x_18) [101] (fun g25=>⟨g25,trivial⟩) (fun g25=>cY rfl rfl) (Oc (aF (fun e=>by first | (rw [e]; rfl) | (simp only at e; rw [e]; rfl)) rfl rfl rfl rfl) (Oc om ?_))))))
  refine bF (!(x_18 || (decide (x_19.Kind ≠ 2)))) [] (fun g26=>trivial) (fun g26=>lp aU) ?_
  obtain ⟨x_20,e28,h⟩:=aP h
  refine bF (!(x_18 || (decide (x_19.Kind ≠ 2)))) [105] (fun g27=>⟨g27,trivial⟩) (fun g27=>az (jV 0 (gc e28 g27)).fp ve rfl rfl) (af.ai ⟨[(1,_),(2,_),(3,_),(4,_),(5,_),(8,_),(11,_),(15,_),(104,B (x_18 || (decide (x_19.Kind ≠ 2)))),(106,.opt (!(x_18 || (decide (x_19.Kind ≠ 2)))) (.one (.sl 1 (x_20.map eI))))],[(105,_),(110,_),(116,_),(119,_)]⟩ rfl (bF (!(x_18 || (decide (x_19.Kind ≠ 2)))) [106] (fun g29=>⟨g29,trivial⟩) (fun g29=>av bR rfl (List.length_map _)) (bF (!(x_18 || (decide (x_19.Kind ≠ 2)))) [107] (fun g30=>⟨g30,trivial⟩) (fun g30=>cY rfl rfl) (af.fQ h rfl (aF (fun e=>by first | (rw [e]; rfl) | (simp only at e; rw [e]; rfl)) rfl rfl rfl rfl) (fun x_21 h=>?_)))))
  refine Oc om (bF (!x_21) [] (fun g31=>by exact trivial) (fun g31=>lp aU) ?_)
  obtain ⟨x_22,e33,h⟩:=aP h
  refine bF (!x_21) [111] (fun g32=>⟨g32,trivial⟩) (fun g32=>az (jV 0 (gc e33 g32)).fp ve rfl rfl) (af.ai ⟨[(1,_),(2,_),(3,_),(4,_),(5,_),(8,_),(11,_),(15,_),(110,B x_21),(112,.opt (!x_21) (.one (.sl 1 (x_22.map eI))))],[(105,_),(110,_),(116,_),(119,_)]⟩ rfl (bF (!x_21) [112] (fun g34=>⟨g34,trivial⟩) (fun g34=>av bR rfl (List.length_map _)) (bF (!x_21) [113] (fun g35=>⟨g35,trivial⟩) (fun g35=>cY rfl rfl) (Oc (aF (fun e=>by first | (rw [e]; rfl) | (simp only at e; rw [e]; rfl)) rfl rfl rfl rfl) (af.ak ⟨[(1,_),(2,_),(3,_),(4,_),(5,_),(8,_),(11,_),(15,_),(115,B (x_21 || (decide ((x_22.length:Int) ≠ 0))))],[(105,_),(110,_),(116,_),(119,_)]⟩ rfl ?_)))))
  refine ab.ite h rfl (fun _ h=>?_) (fun _ h=>?_)
  ·refine ab.seq (ab.aa ?_)
   refine Oc oa (af.ak ⟨[(0,B false)],[]⟩ rfl (ab.ret (Fin.aw ?_)))
   obtain rfl:=Option.some.inj h
   refine Fin.ai ⟨[(0,_)],[]⟩ rfl (Fin.aM [.one (.bool false)] (.inl rfl) rfl (.cons (.tmp rfl) .nil) ⟨rfl,rfl⟩)
  ·refine ab.skip (Fin.ai ⟨[(1,_),(2,_),(3,_),(4,_),(5,_),(8,_),(11,_),(15,_)],[(105,_),(110,_),(116,_),(119,_)]⟩ rfl (Fin.then (ab.seq ?_)))
   refine ab.ai ⟨[(1,_),(2,_),(3,_),(4,_),(5,_),(8,_),(11,_),(15,_)],[(105,_),(110,_),(116,_),(119,_)]⟩ rfl ?_
   obtain ⟨x_23,e36,h⟩:=aP h
   obtain ⟨⟨x_24,x_25⟩,e37,h⟩:=aP h
   refine ab.ff mixed [false,false,false,false,false,false,false,false,true,false] [.b (.agg (ay x_13)),.b (.one (.sl 7 (x_17.map ah))),.b (.cx (ah x_23)),.b (.agg (ah x_23)),.gR [.agg (ay x_24),.one (.sl 7 (x_25.map ah))],.gR [.agg (ay x_24),.one (.sl 7 (x_25.map ah))],.b (.agg (ay x_24)),.b (.one (.sl 7 (x_25.map ah))),B true,.b (.one (.sl 7 (x_25.map ah)))] [⟨[false,false,false,false,false,false,false,false,false,false],[(1,I x_1),(2,I x_2),(3,.b (.row 105)),(4,I x_4),(5,.b (.row 110)),(8,Pt 116 0),(11,Pt 119 0),(15,.b (.one (.sl 7 (x_17.map ah))))],[(105,.row 59 3 (x_3.map ao)),(110,.row 59 3 ([(⟨0,[0,1],[1]⟩:Task),(⟨2,[2],[]⟩:Task),(⟨1,[4],[]⟩:Task)].map ao)),(116,.box 31 (ay x_13)),(119,.box 31 (ay x_16))],[true,true,true,true,true,true,true,true,true,true],[],[9]⟩,⟨[false,false,false,false,false,false,false,false,true,false],[(1,I x_1),(2,I x_2),(3,.b (.row 105)),(4,I x_4),(5,.b (.row 110)),(8,Pt 116 0),(11,Pt 119 0),(15,.b (.one (.sl 7 (x_17.map ah))))],[(105,.row 59 3 (x_3.map ao)),(110,.row 59 3 ([(⟨0,[0,1],[1]⟩:Task),(⟨2,[2],[]⟩:Task),(⟨1,[4],[]⟩:Task)].map ao)),(116,.box 31 (ay x_24)),(119,.box 31 (ay x_16))],[true,true,true,true,true,true,true,true,true,true],[0,1,2,3,4,5,6,8],[]⟩] rfl (⟨by kernel_rfl,⟨⟨.b (.agg (ay x_13)),fun _=>rfl,fun _=>.p (by exact ji aU rfl rfl rfl rfl)⟩,⟨.b (.one (.sl 7 (x_17.map ah))),fun _=>rfl,fun _=>.p (by exact ax rfl)⟩,⟨.b (.cx (ah x_23)),fun _=>rfl,fun _=>.p (by exact an iL (aL e36) (aB (e:=ah) e36) rfl rfl)⟩,⟨.b (.agg (ah x_23)),fun _=>rfl,fun _=>.p (by exact fl gb rfl rfl rfl)⟩,⟨.gR [.agg (ay x_24),.one (.sl 7 (x_25.map ah))],fun _=>rfl,fun _=>.p (by exact az (gG 0 e37).fp rp rfl rfl)⟩,⟨.gR [.agg (ay x_24),.one (.sl 7 (x_25.map ah))],fun _=>rfl,fun _=>.p (by exact ax rfl)⟩,⟨.b (.agg (ay x_24)),fun _=>rfl,fun _=>.p (by exact aZ rfl rfl)⟩,⟨.b (.one (.sl 7 (x_25.map ah))),fun _=>rfl,fun _=>.p (by exact aZ rfl rfl)⟩,⟨_,[],.b (.one .any),rfl,(fun e=>by simp at e),rfl,rfl,fun _=>.jG [105,110,116,119] (by exact .p (by exact aR aU rfl rfl rfl rfl (Nat.le_of_ble_eq_true rfl) rfl)) (by exact rfl)⟩,trivial,trivial⟩,⟨by kernel_rfl,⟨trivial,trivial,trivial,trivial,trivial,trivial,trivial,⟨.b (.one (.sl 7 (x_25.map ah))),fun _=>rfl,fun _=>.p (by exact aZ rfl rfl)⟩,trivial,⟨.b (.one (.sl 7 (x_25.map ah))),fun _=>rfl,fun _=>.p (by exact dH rfl)⟩,trivial⟩,trivial⟩⟩) rfl rfl rfl [1,2,3,4,5,8,11,14] [105,110,116,119] (s':=⟨[(1,_),(2,_),(3,_),(4,_),(5,_),(8,_),(11,_),(14,.b (.one (.sl 7 (x_25.map ah))))],[(105,_),(110,_),(116,.box 31 (ay x_24)),(119,_)]⟩) rfl ?_
   refine ab.seq (ab.aa ?_)
   refine Oc (lp aU) (Oc (aO (k:=125) (es:=[[99],[100]].map eS) cw rfl rfl (bc fun _=>rfl) rfl (by decide) (by decide) rfl) ?_)
   refine af.bg 125 rfl (af.ai ⟨[(1,I x_1),(2,I x_2),(3,.b (.row 105)),(4,I x_4),(5,.b (.row 110)),(8,Pt 116 0),(11,Pt 119 0),(14,.b (.one (.sl 7 (x_25.map ah)))),(125,.b (.agg (ay x_24))),(126,.b (.one (.sl 1 ([[99],[100]].map eS))))],[(105,.row 59 3 (x_3.map ao)),(110,.row 59 3 ([(⟨0,[0,1],[1]⟩:Task),(⟨2,[2],[]⟩:Task),(⟨1,[4],[]⟩:Task)].map ao)),(116,.box 31 (ay x_24)),(119,.box 31 (ay x_16))]⟩ rfl ?_)
   obtain ⟨⟨x_26,x_27,x_28⟩,e38,h⟩:=aP h
   refine Oc (bL (lY 126 e38) yd rfl trivial rfl rfl) (Oc om (Oc (aZ rfl rfl) (Oc (aZ rfl rfl) (Oc (aZ rfl rfl) (Oc (aR aU rfl rfl rfl rfl (Nat.le_of_ble_eq_true rfl) rfl) ?_)))))
   refine Oc oa (Oc oa ?_)
   refine af.ak ⟨[(1,_),(2,_),(3,_),(4,_),(5,_),(8,_),(11,_),(14,_),(16,.b (.row 126)),(17,I x_28)],[(105,_),(110,_),(116,.box 31 (ay x_26)),(119,_),(126,.row 42 7 (x_27.map ah))]⟩ rfl (ab.seq (ab.seq (ab.aa ?_)))
   refine Oc om (Oc (cY rfl rfl) (Oc om ?_))
   refine bF (!(decide (x_28 ≠ 0))) [] (fun g39=>trivial) (fun g39=>om) (bF (!(decide (x_28 ≠ 0))) [134] (fun g40=>by exact ⟨g40,trivial⟩) (fun g40=>fN pt rfl rfl (List.length_map _)) (bF (!(decide (x_28 ≠ 0))) [135] (fun g41=>by exact ⟨g41,trivial⟩) (fun g41=>cY rfl rfl) (af.ai ⟨[(1,_),(2,_),(3,_),(4,_),(5,_),(8,_),(11,_),(14,_),(16,_),(133,B (decide (x_28 ≠ 0))),(136,.opt (!(decide (x_28 ≠ 0))) (.one (.bool (decide ((x_27.length:Int) ≠ 1)))))],[(105,_),(110,_),(116,_),(119,_),(126,_)]⟩ rfl (Oc (aF (fun e=>by first | (rw [e]; rfl) | (simp only at e; rw [e]; rfl)) rfl rfl rfl rfl) (Oc om ?_)))))
   refine bF (!((decide (x_28 ≠ 0)) || (decide ((x_27.length:Int) ≠ 1)))) [] (fun g42=>trivial) (fun g42=>om) ?_
   obtain ⟨x_29,e44,h⟩:=aP h
   refine bF (!((decide (x_28 ≠ 0)) || (decide ((x_27.length:Int) ≠ 1)))) [139] (fun g43=>⟨g43,trivial⟩) (fun g43=>bq iL (aL (gc e44 g43)) (dy (gc e44 g43)) rfl rfl rfl rfl) (bF (!((decide (x_28 ≠ 0)) || (decide ((x_27.length:Int) ≠ 1)))) [140] (fun g45=>⟨g45,trivial⟩) (fun g45=>vD kN rfl rfl) (bF (!((decide (x_28 ≠ 0)) || (decide ((x_27.length:Int) ≠ 1)))) [141] (fun g46=>⟨g46,trivial⟩) (fun g46=>cS (i:=(0:Int).toNat) (f:=0) aD rfl rfl rfl (aB (e:=ah) (gc e44 g46)) rfl) (bF (!((decide (x_28 ≠ 0)) || (decide ((x_27.length:Int) ≠ 1)))) [142] (fun g47=>⟨g47,trivial⟩) (fun g47=>cY rfl rfl) (af.fQ h rfl (aF (fun e=>by first | (rw [e]; rfl) | (simp only at e; rw [e]; rfl)) rfl rfl rfl rfl) (fun x_30 h=>?_)))))
   refine af.ai ⟨[(1,_),(2,_),(3,_),(4,_),(5,_),(8,_),(11,_),(14,_),(16,_),(144,B x_30)],[(105,_),(110,_),(116,_),(119,_),(126,_)]⟩ rfl (Oc om (bF (!x_30) [] (fun g48=>by exact trivial) (fun g48=>om) (bF (!x_30) [146] (fun g49=>by exact ⟨g49,trivial⟩) (fun g49=>av pt rfl (List.length_map _)) (bF (!x_30) [147] (fun g50=>by exact ⟨g50,trivial⟩) (fun g50=>cY rfl rfl) (Oc (aF (fun e=>by first | (rw [e]; rfl) | (simp only at e; rw [e]; rfl)) rfl rfl rfl rfl) ?_)))))
   refine af.ak ⟨[(1,_),(2,_),(3,_),(4,_),(5,_),(8,_),(11,_),(16,_),(149,B (x_30 || (decide ((x_25.length:Int) ≠ 0))))],[(105,_),(110,_),(116,_),(119,_),(126,_)]⟩ rfl (ab.ite h rfl (fun _ h=>?_) (fun _ h=>?_))
   ·refine ab.seq (ab.aa ?_)
    refine Oc oa (af.ak ⟨[(0,B false)],[]⟩ rfl (ab.ret (Fin.aw ?_)))
    obtain rfl:=Option.some.inj h
    refine Fin.ai ⟨[(0,_)],[]⟩ rfl (Fin.aM [.one (.bool false)] (.inl rfl) rfl (.cons (.tmp rfl) .nil) ⟨rfl,rfl⟩)
   ·refine ab.skip (Fin.ai ⟨[(1,_),(2,_),(3,_),(4,_),(5,_),(8,_),(11,_),(16,_)],[(105,_),(110,_),(116,_),(119,_),(126,_)]⟩ rfl (Fin.then (ab.seq ?_)))
    refine ab.ai ⟨[(1,_),(2,_),(3,_),(4,_),(5,_),(8,_),(11,_),(16,_)],[(105,_),(110,_),(116,_),(119,_),(126,_)]⟩ rfl ?_
    obtain ⟨x_31,e51,h⟩:=aP h
    obtain ⟨⟨x_32,x_33⟩,e52,h⟩:=aP h
    refine ab.ff mixed [false,false,false,false,false,false,false,false,true] [.b (.agg (ay x_16)),.b (.row 126),.b (.eQ 126 ((0:Int).toNat * 7)),.b (.agg (ah x_31)),.gR [.agg (ay x_32),.one (.sl 7 (x_33.map ah))],.gR [.agg (ay x_32),.one (.sl 7 (x_33.map ah))],.b (.agg (ay x_32)),.b (.one (.sl 7 (x_33.map ah))),B true] [⟨[false,false,false,false,false,false,false,false,false],[(1,I x_1),(2,I x_2),(3,.b (.row 105)),(4,I x_4),(5,.b (.row 110)),(8,Pt 116 0),(11,Pt 119 0),(16,.b (.row 126))],[(105,.row 59 3 (x_3.map ao)),(110,.row 59 3 ([(⟨0,[0,1],[1]⟩:Task),(⟨2,[2],[]⟩:Task),(⟨1,[4],[]⟩:Task)].map ao)),(116,.box 31 (ay x_26)),(119,.box 31 (ay x_16)),(126,.row 42 7 (x_27.map ah))],[true,true,true,true,true,true,true,true,true],[],[]⟩,⟨[false,false,false,false,false,false,false,false,true],[(1,I x_1),(2,I x_2),(3,.b (.row 105)),(4,I x_4),(5,.b (.row 110)),(8,Pt 116 0),(11,Pt 119 0),(16,.b (.row 126))],[(105,.row 59 3 (x_3.map ao)),(110,.row 59 3 ([(⟨0,[0,1],[1]⟩:Task),(⟨2,[2],[]⟩:Task),(⟨1,[4],[]⟩:Task)].map ao)),(116,.box 31 (ay x_26)),(119,.box 31 (ay x_32)),(126,.row 42 7 (x_27.map ah))],[true,true,true,true,true,true,true,true,true],[0,1,2,3,4,5,6,8],[]⟩] rfl (⟨by kernel_rfl,⟨⟨.b (.agg (ay x_16)),fun _=>rfl,fun _=>.p (by exact ji aU rfl rfl rfl rfl)⟩,⟨.b (.row 126),fun _=>rfl,fun _=>.p (by exact ax rfl)⟩,⟨.b (.eQ 126 ((0:Int).toNat * 7)),fun _=>rfl,fun _=>.p (by exact bq iL (aL e51) (dy e51) rfl rfl rfl rfl)⟩,⟨.b (.agg (ah x_31)),fun _=>rfl,fun _=>.p (by exact qo (i:=(0:Int).toNat) (f:=0) gb rfl rfl rfl (aB (e:=ah) e51) rfl rfl)⟩,⟨.gR [.agg (ay x_32),.one (.sl 7 (x_33.map ah))],fun _=>rfl,fun _=>.p (by exact az (gG 0 e52).fp rp rfl rfl)⟩,⟨.gR [.agg (ay x_32),.one (.sl 7 (x_33.map ah))],fun _=>rfl,fun _=>.p (by exact ax rfl)⟩,⟨.b (.agg (ay x_32)),fun _=>rfl,fun _=>.p (by exact aZ rfl rfl)⟩,⟨.b (.one (.sl 7 (x_33.map ah))),fun _=>rfl,fun _=>.p (by exact aZ rfl rfl)⟩,⟨_,[],.b (.one .any),rfl,(fun e=>by simp at e),rfl,rfl,fun _=>.jG [105,110,116,119,126] (by exact .p (by exact aR aU rfl rfl rfl rfl (Nat.le_of_ble_eq_true rfl) rfl)) (by exact rfl)⟩,trivial⟩,⟨by kernel_rfl,⟨trivial,trivial,trivial,trivial,trivial,trivial,trivial,⟨.b (.one (.sl 7 (x_33.map ah))),fun _=>rfl,fun _=>.p (by exact aZ rfl rfl)⟩,trivial,trivial⟩,trivial⟩⟩) rfl rfl rfl [1,2,3,4,5,8,11] [105,110,116,119] (s':=⟨[(1,_),(2,_),(3,_),(4,_),(5,_),(8,_),(11,_)],[(105,_),(110,_),(116,_),(119,.box 31 (ay x_32))]⟩) rfl ?_
    refine ab.seq (ab.aa ?_)
    refine Oc om (Oc (di rfl rfl) (Oc om ?_))
    refine dt (decide (x_1 = 0)) [] (fun g53=>trivial) (fun g53=>om) (dt (decide (x_1 = 0)) [161] (fun g54=>by exact ⟨g54,trivial⟩) (fun g54=>di rfl rfl) (Oc (aT (fun e=>e) rfl rfl rfl rfl) (Oc om ?_)))
    refine af.ai ⟨[(3,_),(4,_),(5,_),(8,_),(11,_),(164,B ((decide (x_1 = 0)) && (decide (x_2 = 2))))],[(105,_),(110,_),(116,_),(119,_)]⟩ rfl (dt ((decide (x_1 = 0)) && (decide (x_2 = 2))) [] (fun g55=>trivial) (fun g55=>om) (dt ((decide (x_1 = 0)) && (decide (x_2 = 2))) [165] (fun g56=>by exact ⟨g56,trivial⟩) (fun g56=>di rfl rfl) (af.fQ h rfl (aT (fun e=>e) rfl rfl rfl rfl) (fun x_34 h=>?_))))
    refine Oc om (dt x_34 [] (fun g57=>by exact trivial) (fun g57=>om) (dt x_34 [] (fun g58=>by exact trivial) (fun g58=>om) (af.ai ⟨[(8,_),(11,_),(168,B x_34),(169,.opt x_34 (.row 105)),(170,.opt x_34 (.row 110))],[(105,_),(110,_),(116,_),(119,_)]⟩ rfl ?_)))
    obtain ⟨x_35,e60,h⟩:=aP h
    refine dt x_34 [169,170] (fun g59=>⟨g59,g59,trivial⟩) (fun g59=>rA (gJ (gc e60 g59)) yb rfl CP.sP) (Oc (aT (fun e=>e) rfl rfl rfl rfl) (Oc om ?_))
    refine dt (x_34 && x_35) [] (fun g61=>trivial) (fun g61=>lp aU) ?_
    obtain ⟨x_36,e63,h⟩:=aP h
    refine dt (x_34 && x_35) [174] (fun g62=>⟨g62,trivial⟩) (fun g62=>az (iN (gc e63 g62)) vd rfl rfl) (Oc (aT (fun e=>e) rfl rfl rfl rfl) (af.ai ⟨[(8,_),(11,_),(176,B ((x_34 && x_35) && x_36))],[(116,_),(119,_)]⟩ rfl (Oc om (dt ((x_34 && x_35) && x_36) [] (fun g64=>by exact trivial) (fun g64=>lp aU) ?_))))
    obtain ⟨x_37,e66,h⟩:=aP h
    refine dt ((x_34 && x_35) && x_36) [178] (fun g65=>⟨g65,trivial⟩) (fun g65=>az (iN (gc e66 g65)) vd rfl rfl) (Oc (aT (fun e=>e) rfl rfl rfl rfl) (Oc om ?_))
    refine dt (((x_34 && x_35) && x_36) && x_37) [] (fun g67=>trivial) (fun g67=>ae ep rfl rfl) (af.ai ⟨[(8,_),(181,B (((x_34 && x_35) && x_36) && x_37)),(182,.opt (((x_34 && x_35) && x_36) && x_37) (.ptr 119 9))],[(116,_),(119,_)]⟩ rfl (dt (((x_34 && x_35) && x_36) && x_37) [182] (fun g68=>⟨g68,trivial⟩) (fun g68=>ag b6 rfl rfl rfl) ?_))
    obtain ⟨x_38,e70,h⟩:=aP h
    refine dt (((x_34 && x_35) && x_36) && x_37) [183] (fun g69=>⟨g69,trivial⟩) (fun g69=>an cw (aL (gc e70 g69)) (aB (e:=eS) (gc e70 g69)) rfl rfl) (dt (((x_34 && x_35) && x_36) && x_37) [184] (fun g71=>⟨g71,trivial⟩) (fun g71=>au fG rfl rfl) (dt (((x_34 && x_35) && x_36) && x_37) [185] (fun g72=>⟨g72,trivial⟩) (fun g72=>hX rfl rfl) (af.fQ h rfl (aT (fun e=>e) rfl rfl rfl rfl) (fun x_39 h=>?_))))
    refine Oc om (dt x_39 [] (fun g73=>by exact trivial) (fun g73=>ae ep rfl rfl) (dt x_39 [189] (fun g74=>by exact ⟨g74,trivial⟩) (fun g74=>ag b6 rfl rfl rfl) (af.ai ⟨[(188,B x_39),(190,.opt x_39 (.one (.sl 1 (x_26.Results.map eS))))],[]⟩ rfl ?_)))
    obtain ⟨x_40,e76,h⟩:=aP h
    refine dt x_39 [190] (fun g75=>⟨g75,trivial⟩) (fun g75=>an cw (aL (gc e76 g75)) (aB (e:=eS) (gc e76 g75)) rfl rfl) (dt x_39 [191] (fun g77=>⟨g77,trivial⟩) (fun g77=>au fG rfl rfl) (dt x_39 [192] (fun g78=>⟨g78,trivial⟩) (fun g78=>hX rfl rfl) (Oc (aT (fun e=>e) rfl rfl rfl rfl) (Oc oa ?_))))
    refine af.ak ⟨[(0,B (x_39 && (decide (x_40 = [99]))))],[]⟩ rfl (ab.ret ?_)
    obtain rfl:=Option.some.inj h
    refine Fin.ai ⟨[(0,_)],[]⟩ rfl (Fin.aM [.one (.bool (x_39 && (decide (x_40 = [99]))))] (.inl rfl) rfl (.cons (.tmp rfl) .nil) ⟨rfl,rfl⟩)
def cE (F:Nat) (home0:List Int) (regions0:Int):Option Bool :=
 if (decide (401 < (home0.length:Int))) = true then (some false) else (Option.bind (iter F (fun i_1=>if (decide (i_1 < (home0.length:Int))) = true then ((aV home0 i_1).bind fun x_2=>(aK (!(decide (x_2 < (-1)))) (aV home0 i_1)).bind fun x_3=>if ((decide (x_2 < (-1))) || (decide (regions0 ≤ x_3))) = true then (some (.inr (.inr false))) else (some (.inl (IntKind.i64.wrap (i_1 + 1))))) else (some (.inr (.inl ())))) 0) (bG (fun _=>some true) (fun y=>some y)))
theorem lD {F:Nat} {home0:List Int} {regions0:Int} {r:Bool} (h:cE F home0 regions0 = some r):aA Try.prog [] 24 [] [.one (.sl 1 (home0.map eI)),.one (.i regions0)] (Is [] (.b (.one (.bool r)))):=by
 unfold cE at h
 refine aA.intro 28 Try.func24 Try.ntmps24 rfl (by simp) fun E=>?_
 show ab _ E ⟨28,[],[],[]⟩ _ ⟨[(0,.b (.one (.sl 1 (home0.map eI)))),(1,I regions0)],[]⟩ _
 refine ab.seq (ab.aa ?_)
 refine Oc oa (af.ak ⟨[(0,.b (.one (.sl 1 (home0.map eI)))),(1,I regions0)],[]⟩ rfl (ab.seq (ab.seq (ab.aa ?_))))
 refine Oc om (Oc (av bR rfl (List.length_map _)) (Oc (gZ rfl rfl) ?_))
 refine af.ak ⟨[(0,_),(1,_),(8,B (decide (401 < (home0.length:Int))))],[]⟩ rfl (ab.ite h rfl (fun _ h=>?_) (fun _ h=>?_))
 ·refine ab.seq (ab.aa ?_)
  refine Oc oa (af.ak ⟨[(4,B false)],[]⟩ rfl (ab.ret (Fin.aw ?_)))
  obtain rfl:=Option.some.inj h
  refine Fin.ai ⟨[(4,_)],[]⟩ rfl (Fin.aM [.one (.bool false)] (.inl rfl) rfl (.cons (.tmp rfl) .nil) ⟨rfl,rfl⟩)
 ·refine ab.skip (Fin.ai ⟨[(0,_),(1,_)],[]⟩ rfl (Fin.then ?_))
  obtain ⟨v1,h2,h⟩:=aP h
  refine ab.ca (v:=v1) (fun (_:Unit)=>⟨[],[]⟩) (fun z=>.inl z) ?_ ?_
  ·refine ab.seq (ab.aa ?_)
   refine Oc oa (af.ak ⟨[(0,_),(1,_),(5,I 0)],[]⟩ rfl (ab.block (ab.bZ h2 (fun (i_1:Int)=>⟨[(0,.b (.one (.sl 1 (home0.map eI)))),(1,I regions0),(5,I i_1)],[]⟩) [0,1,5] [] rfl ?_)))
   rintro i_1 o3 h4 hy5
   refine ab.seq (ab.seq (ab.aa ?_))
   refine Oc om (Oc om (Oc (av bR rfl (List.length_map _)) (Oc (aY rfl rfl) ?_)))
   refine af.ak ⟨[(0,_),(1,_),(5,_),(12,B (decide (i_1 < (home0.length:Int))))],[]⟩ rfl (ab.ite h4 rfl (fun _ h4=>?_) (fun _ h4=>?_))
   ·refine ab.skip (Fin.ai ⟨[(0,_),(1,_),(5,_)],[]⟩ rfl (Fin.then (ab.seq (ab.block (ab.seq (ab.aa ?_))))))
    refine Oc om (Oc om ?_)
    obtain ⟨x_2,e6,h4⟩:=aP h4
    refine Oc (an aQ (aL e6) (aB (e:=eI) e6) rfl rfl) (Oc (au aD rfl rfl) (Oc (aY rfl rfl) (Oc om ?_)))
    refine bF (!(decide (x_2 < (-1)))) [] (fun g7=>trivial) (fun g7=>om) (af.ai ⟨[(0,_),(1,_),(5,_),(20,B (decide (x_2 < (-1)))),(21,.opt (!(decide (x_2 < (-1)))) (.one (.sl 1 (home0.map eI))))],[]⟩ rfl (bF (!(decide (x_2 < (-1)))) [] (fun g8=>by exact trivial) (fun g8=>om) ?_))
    obtain ⟨x_3,e10,h4⟩:=aP h4
    refine bF (!(decide (x_2 < (-1)))) [21,22] (fun g9=>⟨g9,g9,trivial⟩) (fun g9=>an aQ (aL (gc e10 g9)) (aB (e:=eI) (gc e10 g9)) rfl rfl) (bF (!(decide (x_2 < (-1)))) [23] (fun g11=>⟨g11,trivial⟩) (fun g11=>au aD rfl rfl) (bF (!(decide (x_2 < (-1)))) [] (fun g12=>trivial) (fun g12=>om) (bF (!(decide (x_2 < (-1)))) [24,25] (fun g13=>by exact ⟨g13,g13,trivial⟩) (fun g13=>gk rfl rfl) (Oc (aF (fun e=>by first | (rw [e]; rfl) | (simp only at e; rw [e]; rfl)) rfl rfl rfl rfl) (af.ak ⟨[(0,_),(1,_),(5,_),(27,B ((decide (x_2 < (-1))) || (decide (regions0 ≤ x_3))))],[]⟩ rfl ?_)))))
    refine ab.ite h4 rfl (fun _ h4=>?_) (fun _ h4=>?_)
    ·refine ab.seq (ab.aa ?_)
     refine Oc oa (af.ak ⟨[(4,B false)],[]⟩ rfl (ab.ret (Fin.aJ (Fin.aw ?_))))
     obtain rfl:=hy5 _ (Option.some.inj h4).symm
     refine Fin.aw (Fin.aJ (Fin.aw ?_))
     obtain rfl:=Option.some.inj h
     refine Fin.ai ⟨[(4,_)],[]⟩ rfl (Fin.aM [.one (.bool false)] (.inl rfl) rfl (.cons (.tmp rfl) .nil) ⟨rfl,rfl⟩)
    ·refine ab.skip (Fin.ar (Fin.ai ⟨[(0,_),(1,_),(5,_)],[]⟩ rfl (Fin.then (ab.aa ?_))))
     refine Oc om (Oc (bh rfl rfl) (Oc oa ?_))
     refine af.nil ?_
     exact Fin.bp [0,1,5] [] (IntKind.i64.wrap (i_1 + 1)) (Option.some.inj h4) rfl
   ·refine ab.exit (Fin.aq ?_)
    obtain rfl:=hy5 _ (Option.some.inj h4).symm
    refine Fin.aq (Fin.aE ?_)
    exact Fin.join [] [] () rfl rfl
  ·rintro _ hv
   subst v1
   refine ab.seq (ab.aa ?_)
   refine Oc oa (af.ak ⟨[(4,B true)],[]⟩ rfl (ab.ret ?_))
   obtain rfl:=Option.some.inj h
   refine Fin.ai ⟨[(4,_)],[]⟩ rfl (Fin.aM [.one (.bool true)] (.inl rfl) rfl (.cons (.tmp rfl) .nil) ⟨rfl,rfl⟩)
def bO (F:Nat) (home0:List Int) (l0:List Int):Option Bool :=
 Option.bind (iter F (fun i_1=>if (decide (i_1 < (l0.length:Int))) = true then ((aV l0 i_1).bind fun x_2=>(aK (!(decide (x_2 < 0))) (aV l0 i_1)).bind fun x_3=>(aK (!((decide (x_2 < 0)) || (decide ((home0.length:Int) ≤ x_3)))) (aV l0 i_1)).bind fun x_4=>(aK (!((decide (x_2 < 0)) || (decide ((home0.length:Int) ≤ x_3)))) (aV home0 x_4)).bind fun x_5=>bu (((decide (x_2 < 0)) || (decide ((home0.length:Int) ≤ x_3))) || (decide (x_5 < 0))) fun x_6=>if x_6 = true then (some (.inr (.inr false))) else (some (.inl (IntKind.i64.wrap (i_1 + 1))))) else (some (.inr (.inl ())))) 0) (bG (fun _=>some true) (fun y=>some y))
theorem iH {F:Nat} {home0:List Int} {l0:List Int} {r:Bool} (h:bO F home0 l0 = some r):aA Try.prog [] 69 [] [.one (.sl 1 (home0.map eI)),.one (.sl 1 (l0.map eI))] (Is [] (.b (.one (.bool r)))):=by
 unfold bO at h
 refine aA.intro 36 Try.func69 Try.ntmps69 rfl (by simp) fun E=>?_
 show ab _ E ⟨36,[],[],[]⟩ _ ⟨[(0,.b (.one (.sl 1 (home0.map eI)))),(1,.b (.one (.sl 1 (l0.map eI))))],[]⟩ _
 refine ab.seq (ab.aa ?_)
 refine Oc oa (af.ak ⟨[(0,.b (.one (.sl 1 (home0.map eI)))),(1,.b (.one (.sl 1 (l0.map eI))))],[]⟩ rfl ?_)
 obtain ⟨v1,h2,h⟩:=aP h
 refine ab.ca (v:=v1) (fun (_:Unit)=>⟨[],[]⟩) (fun z=>.inl z) ?_ ?_
 ·refine ab.seq (ab.aa ?_)
  refine Oc oa (af.ak ⟨[(0,_),(1,_),(5,I 0)],[]⟩ rfl (ab.block (ab.bZ h2 (fun (i_1:Int)=>⟨[(0,.b (.one (.sl 1 (home0.map eI)))),(1,.b (.one (.sl 1 (l0.map eI)))),(5,I i_1)],[]⟩) [0,1,5] [] rfl ?_)))
  rintro i_1 o3 h4 hy5
  refine ab.seq (ab.seq (ab.aa ?_))
  refine Oc om (Oc om (Oc (av bR rfl (List.length_map _)) (Oc (aY rfl rfl) ?_)))
  refine af.ak ⟨[(0,_),(1,_),(5,_),(9,B (decide (i_1 < (l0.length:Int))))],[]⟩ rfl (ab.ite h4 rfl (fun _ h4=>?_) (fun _ h4=>?_))
  ·refine ab.skip (Fin.ai ⟨[(0,_),(1,_),(5,_)],[]⟩ rfl (Fin.then (ab.seq (ab.block (ab.seq (ab.aa ?_))))))
   refine Oc om (Oc om ?_)
   obtain ⟨x_2,e6,h4⟩:=aP h4
   refine Oc (an aQ (aL e6) (aB (e:=eI) e6) rfl rfl) (Oc (au aD rfl rfl) (Oc (aY rfl rfl) (Oc om ?_)))
   refine bF (!(decide (x_2 < 0))) [] (fun g7=>trivial) (fun g7=>om) (af.ai ⟨[(0,_),(1,_),(5,_),(17,B (decide (x_2 < 0))),(18,.opt (!(decide (x_2 < 0))) (.one (.sl 1 (l0.map eI))))],[]⟩ rfl (bF (!(decide (x_2 < 0))) [] (fun g8=>by exact trivial) (fun g8=>om) ?_))
   obtain ⟨x_3,e10,h4⟩:=aP h4
   refine bF (!(decide (x_2 < 0))) [18,19] (fun g9=>⟨g9,g9,trivial⟩) (fun g9=>an aQ (aL (gc e10 g9)) (aB (e:=eI) (gc e10 g9)) rfl rfl) (bF (!(decide (x_2 < 0))) [20] (fun g11=>⟨g11,trivial⟩) (fun g11=>au aD rfl rfl) (bF (!(decide (x_2 < 0))) [] (fun g12=>trivial) (fun g12=>om) (bF (!(decide (x_2 < 0))) [22] (fun g13=>by exact ⟨g13,trivial⟩) (fun g13=>av bR rfl (List.length_map _)) (bF (!(decide (x_2 < 0))) [21,23] (fun g14=>by exact ⟨g14,g14,trivial⟩) (fun g14=>gk rfl rfl) (Oc (aF (fun e=>by first | (rw [e]; rfl) | (simp only at e; rw [e]; rfl)) rfl rfl rfl rfl) ?_)))))
   refine af.ai ⟨[(0,_),(1,_),(5,_),(25,B ((decide (x_2 < 0)) || (decide ((home0.length:Int) ≤ x_3))))],[]⟩ rfl (Oc om (bF (!((decide (x_2 < 0)) || (decide ((home0.length:Int) ≤ x_3)))) [] (fun g15=>by exact trivial) (fun g15=>om) (bF (!((decide (x_2 < 0)) || (decide ((home0.length:Int) ≤ x_3)))) [] (fun g16=>by exact trivial) (fun g16=>om) (bF (!((decide (x_2 < 0)) || (decide ((home0.length:Int) ≤ x_3)))) [] (fun g17=>by exact trivial) (fun g17=>om) ?_))))
   obtain ⟨x_4,e19,h4⟩:=aP h4
   refine bF (!((decide (x_2 < 0)) || (decide ((home0.length:Int) ≤ x_3)))) [28,29] (fun g18=>⟨g18,g18,trivial⟩) (fun g18=>an aQ (aL (gc e19 g18)) (aB (e:=eI) (gc e19 g18)) rfl rfl) (bF (!((decide (x_2 < 0)) || (decide ((home0.length:Int) ≤ x_3)))) [30] (fun g20=>⟨g20,trivial⟩) (fun g20=>au aD rfl rfl) ?_)
   obtain ⟨x_5,e22,h4⟩:=aP h4
   refine bF (!((decide (x_2 < 0)) || (decide ((home0.length:Int) ≤ x_3)))) [27,31] (fun g21=>⟨g21,g21,trivial⟩) (fun g21=>an aQ (aL (gc e22 g21)) (aB (e:=eI) (gc e22 g21)) rfl rfl) (bF (!((decide (x_2 < 0)) || (decide ((home0.length:Int) ≤ x_3)))) [32] (fun g23=>⟨g23,trivial⟩) (fun g23=>au aD rfl rfl) (bF (!((decide (x_2 < 0)) || (decide ((home0.length:Int) ≤ x_3)))) [33] (fun g24=>⟨g24,trivial⟩) (fun g24=>aY rfl rfl) (af.fQ h4 rfl (aF (fun e=>by first | (rw [e]; rfl) | (simp only at e; rw [e]; rfl)) rfl rfl rfl rfl) (fun x_6 h4=>?_))))
   refine af.ak ⟨[(0,_),(1,_),(5,_),(35,B x_6)],[]⟩ rfl (ab.ite h4 rfl (fun _ h4=>?_) (fun _ h4=>?_))
   ·refine ab.seq (ab.aa ?_)
    refine Oc oa (af.ak ⟨[(4,B false)],[]⟩ rfl (ab.ret (Fin.aJ (Fin.aw ?_))))
    obtain rfl:=hy5 _ (Option.some.inj h4).symm
    refine Fin.aw (Fin.aJ (Fin.aw ?_))
    obtain rfl:=Option.some.inj h
    refine Fin.ai ⟨[(4,_)],[]⟩ rfl (Fin.aM [.one (.bool false)] (.inl rfl) rfl (.cons (.tmp rfl) .nil) ⟨rfl,rfl⟩)
   ·refine ab.skip (Fin.ar (Fin.ai ⟨[(0,_),(1,_),(5,_)],[]⟩ rfl (Fin.then (ab.aa ?_))))
    refine Oc om (Oc (bh rfl rfl) (Oc oa ?_))
    refine af.nil ?_
    exact Fin.bp [0,1,5] [] (IntKind.i64.wrap (i_1 + 1)) (Option.some.inj h4) rfl
  ·refine ab.exit (Fin.aq ?_)
   obtain rfl:=hy5 _ (Option.some.inj h4).symm
   refine Fin.aq (Fin.aE ?_)
   exact Fin.join [] [] () rfl rfl
 ·rintro _ hv
  subst v1
  refine ab.seq (ab.aa ?_)
  refine Oc oa (af.ak ⟨[(4,B true)],[]⟩ rfl (ab.ret ?_))
  obtain rfl:=Option.some.inj h
  refine Fin.ai ⟨[(4,_)],[]⟩ rfl (Fin.aM [.one (.bool true)] (.inl rfl) rfl (.cons (.tmp rfl) .nil) ⟨rfl,rfl⟩)
def bN (F:Nat) (home0:List Int) (sets0:List (List Int)):Option Bool :=
 Option.bind (iter F (fun i_1=>if (decide (i_1 < (sets0.length:Int))) = true then ((aV sets0 i_1).bind fun x_2=>(bO F home0 x_2).bind fun x_3=>if (!x_3) = true then (some (.inr (.inr false))) else (some (.inl (IntKind.i64.wrap (i_1 + 1))))) else (some (.inr (.inl ())))) 0) (bG (fun _=>some true) (fun y=>some y))
theorem iF {F:Nat} {home0:List Int} {sets0:List (List Int)} {r:Bool} (h:bN F home0 sets0 = some r):aA Try.prog [] 25 [] [.one (.sl 1 (home0.map eI)),.one (.sl 1 (sets0.map (eL 1 eI)))] (Is [] (.b (.one (.bool r)))):=by
 unfold bN at h
 refine aA.intro 19 Try.func25 Try.ntmps25 rfl (by simp) fun E=>?_
 show ab _ E ⟨19,[],[],[]⟩ _ ⟨[(0,.b (.one (.sl 1 (home0.map eI)))),(1,.b (.one (.sl 1 (sets0.map (eL 1 eI)))))],[]⟩ _
 refine ab.seq (ab.aa ?_)
 refine Oc oa (af.ak ⟨[(0,.b (.one (.sl 1 (home0.map eI)))),(1,.b (.one (.sl 1 (sets0.map (eL 1 eI)))))],[]⟩ rfl ?_)
 obtain ⟨v1,h2,h⟩:=aP h
 refine ab.ca (v:=v1) (fun (_:Unit)=>⟨[],[]⟩) (fun z=>.inl z) ?_ ?_
 ·refine ab.seq (ab.aa ?_)
  refine Oc oa (af.ak ⟨[(0,_),(1,_),(5,I 0)],[]⟩ rfl (ab.block (ab.bZ h2 (fun (i_1:Int)=>⟨[(0,.b (.one (.sl 1 (home0.map eI)))),(1,.b (.one (.sl 1 (sets0.map (eL 1 eI))))),(5,I i_1)],[]⟩) [0,1,5] [] rfl ?_)))
  rintro i_1 o3 h4 hy5
  refine ab.seq (ab.seq (ab.aa ?_))
  refine Oc om (Oc om (Oc (av jr rfl (List.length_map _)) (Oc (aY rfl rfl) ?_)))
  refine af.ak ⟨[(0,_),(1,_),(5,_),(9,B (decide (i_1 < (sets0.length:Int))))],[]⟩ rfl (ab.ite h4 rfl (fun _ h4=>?_) (fun _ h4=>?_))
  ·refine ab.skip (Fin.ai ⟨[(0,_),(1,_),(5,_)],[]⟩ rfl (Fin.then (ab.seq (ab.block (ab.seq (ab.aa ?_))))))
   refine Oc om (Oc om (Oc om ?_))
   obtain ⟨x_2,e6,h4⟩:=aP h4
   refine Oc (an bY (aL e6) (aB (e:=(eL 1 eI)) e6) rfl rfl) (Oc (au aN rfl rfl) ?_)
   obtain ⟨x_3,e7,h4⟩:=aP h4
   refine Oc (az (iH e7) xV rfl rfl) (Oc (cL rfl) ?_)
   refine af.ak ⟨[(0,_),(1,_),(5,_),(18,B (!x_3))],[]⟩ rfl (ab.ite h4 rfl (fun _ h4=>?_) (fun _ h4=>?_))
   ·refine ab.seq (ab.aa ?_)
    refine Oc oa (af.ak ⟨[(4,B false)],[]⟩ rfl (ab.ret (Fin.aJ (Fin.aw ?_))))
    obtain rfl:=hy5 _ (Option.some.inj h4).symm
    refine Fin.aw (Fin.aJ (Fin.aw ?_))
    obtain rfl:=Option.some.inj h
    refine Fin.ai ⟨[(4,_)],[]⟩ rfl (Fin.aM [.one (.bool false)] (.inl rfl) rfl (.cons (.tmp rfl) .nil) ⟨rfl,rfl⟩)
   ·refine ab.skip (Fin.ar (Fin.ai ⟨[(0,_),(1,_),(5,_)],[]⟩ rfl (Fin.then (ab.aa ?_))))
    refine Oc om (Oc (bh rfl rfl) (Oc oa ?_))
    refine af.nil ?_
    exact Fin.bp [0,1,5] [] (IntKind.i64.wrap (i_1 + 1)) (Option.some.inj h4) rfl
  ·refine ab.exit (Fin.aq ?_)
   obtain rfl:=hy5 _ (Option.some.inj h4).symm
   refine Fin.aq (Fin.aE ?_)
   exact Fin.join [] [] () rfl rfl
 ·rintro _ hv
  subst v1
  refine ab.seq (ab.aa ?_)
  refine Oc oa (af.ak ⟨[(4,B true)],[]⟩ rfl (ab.ret ?_))
  obtain rfl:=Option.some.inj h
  refine Fin.ai ⟨[(4,_)],[]⟩ rfl (Fin.aM [.one (.bool true)] (.inl rfl) rfl (.cons (.tmp rfl) .nil) ⟨rfl,rfl⟩)
def ct (F:Nat) (l0:List Int) (n0:Int):Option Bool :=
 Option.bind (iter F (fun i_1=>if (decide (i_1 < (l0.length:Int))) = true then ((aV l0 i_1).bind fun x_2=>if (decide (x_2 = n0)) = true then (some (.inr (.inr true))) else (some (.inl (IntKind.i64.wrap (i_1 + 1))))) else (some (.inr (.inl ())))) 0) (bG (fun _=>some false) (fun y=>some y))
theorem gC {F:Nat} {l0:List Int} {n0:Int} {r:Bool} (h:ct F l0 n0 = some r):aA Try.prog [] 27 [] [.one (.sl 1 (l0.map eI)),.one (.i n0)] (Is [] (.b (.one (.bool r)))):=by
 unfold ct at h
 refine aA.intro 18 Try.func27 Try.ntmps27 rfl (by simp) fun E=>?_
 show ab _ E ⟨18,[],[],[]⟩ _ ⟨[(0,.b (.one (.sl 1 (l0.map eI)))),(1,I n0)],[]⟩ _
 refine ab.seq (ab.aa ?_)
 refine Oc oa (af.ak ⟨[(0,.b (.one (.sl 1 (l0.map eI)))),(1,I n0)],[]⟩ rfl ?_)
 obtain ⟨v1,h2,h⟩:=aP h
 refine ab.ca (v:=v1) (fun (_:Unit)=>⟨[],[]⟩) (fun z=>.inl z) ?_ ?_
 ·refine ab.seq (ab.aa ?_)
  refine Oc oa (af.ak ⟨[(0,_),(1,_),(5,I 0)],[]⟩ rfl (ab.block (ab.bZ h2 (fun (i_1:Int)=>⟨[(0,.b (.one (.sl 1 (l0.map eI)))),(1,I n0),(5,I i_1)],[]⟩) [0,1,5] [] rfl ?_)))
  rintro i_1 o3 h4 hy5
  refine ab.seq (ab.seq (ab.aa ?_))
  refine Oc om (Oc om (Oc (av bR rfl (List.length_map _)) (Oc (aY rfl rfl) ?_)))
  refine af.ak ⟨[(0,_),(1,_),(5,_),(9,B (decide (i_1 < (l0.length:Int))))],[]⟩ rfl (ab.ite h4 rfl (fun _ h4=>?_) (fun _ h4=>?_))
  ·refine ab.skip (Fin.ai ⟨[(0,_),(1,_),(5,_)],[]⟩ rfl (Fin.then (ab.seq (ab.block (ab.seq (ab.aa ?_))))))
   refine Oc om (Oc om ?_)
   obtain ⟨x_2,e6,h4⟩:=aP h4
   refine Oc (an aQ (aL e6) (aB (e:=eI) e6) rfl rfl) (Oc (au aD rfl rfl) (Oc om (Oc (di rfl rfl) ?_)))
   refine af.ak ⟨[(0,_),(1,_),(5,_),(17,B (decide (x_2 = n0)))],[]⟩ rfl (ab.ite h4 rfl (fun _ h4=>?_) (fun _ h4=>?_))
   ·refine ab.seq (ab.aa ?_)
    refine Oc oa (af.ak ⟨[(4,B true)],[]⟩ rfl (ab.ret (Fin.aJ (Fin.aw ?_))))
    obtain rfl:=hy5 _ (Option.some.inj h4).symm
    refine Fin.aw (Fin.aJ (Fin.aw ?_))
    obtain rfl:=Option.some.inj h
    refine Fin.ai ⟨[(4,_)],[]⟩ rfl (Fin.aM [.one (.bool true)] (.inl rfl) rfl (.cons (.tmp rfl) .nil) ⟨rfl,rfl⟩)
   ·refine ab.skip (Fin.ar (Fin.ai ⟨[(0,_),(1,_),(5,_)],[]⟩ rfl (Fin.then (ab.aa ?_))))
    refine Oc om (Oc (bh rfl rfl) (Oc oa ?_))
    refine af.nil ?_
    exact Fin.bp [0,1,5] [] (IntKind.i64.wrap (i_1 + 1)) (Option.some.inj h4) rfl
  ·refine ab.exit (Fin.aq ?_)
   obtain rfl:=hy5 _ (Option.some.inj h4).symm
   refine Fin.aq (Fin.aE ?_)
   exact Fin.join [] [] () rfl rfl
 ·rintro _ hv
  subst v1
  refine ab.seq (ab.aa ?_)
  refine Oc oa (af.ak ⟨[(4,B false)],[]⟩ rfl (ab.ret ?_))
  obtain rfl:=Option.some.inj h
  refine Fin.ai ⟨[(4,_)],[]⟩ rfl (Fin.aM [.one (.bool false)] (.inl rfl) rfl (.cons (.tmp rfl) .nil) ⟨rfl,rfl⟩)
def c7 (F:Nat) (l0:List Int) (n0:Int):Option (List Int) :=
 (ct F l0 n0).bind fun x_1=>if x_1 = true then (some l0) else (Option.bind (iter F (rf fun out_4 placed_5 i_6=>if (decide (i_6 < (l0.length:Int))) = true then (Option.bind (Option.bind ((aK (!placed_5) (aV l0 i_6)).bind fun x_13=>if ((!placed_5) && (decide (n0 < x_13))) = true then ((eF out_4 [n0]).bind fun x_14=>some (x_14,true)) else (some (out_4,placed_5))) (eU fun out_11 placed_12=>(aV l0 i_6).bind fun x_15=>(eF out_11 [x_15]).bind fun x_16=>some (x_16,placed_12))) (eU fun out_9 placed_10=>some (.inl (out_9,placed_10,IntKind.i64.wrap (i_6 + 1))))) else (some (.inr (out_4,placed_5)))) ([],false,0)) (eU fun out_2 placed_3=>Option.bind (if (!placed_3) = true then ((eF out_2 [n0]).bind fun x_18=>some x_18) else (some out_2)) (fun out_17=>some out_17)))
theorem mV {F:Nat} {l0:List Int} {n0:Int} {r:(List Int)} (h:c7 F l0 n0 = some r):aA Try.prog [] 95 [] [.one (.sl 1 (l0.map eI)),.one (.i n0)] (Is [] (.b (.one (.sl 1 (r.map eI))))):=by
 unfold c7 at h
 refine aA.intro 46 Try.func95 Try.ntmps95 rfl (by simp) fun E=>?_
 show ab _ E ⟨46,[],[],[]⟩ _ ⟨[(0,.b (.one (.sl 1 (l0.map eI)))),(1,I n0)],[]⟩ _
 refine ab.seq (ab.aa ?_)
 refine Oc oa (af.ak ⟨[(0,.b (.one (.sl 1 (l0.map eI)))),(1,I n0)],[]⟩ rfl (ab.seq (ab.seq (ab.aa ?_))))
 refine Oc om (Oc om ?_)
 obtain ⟨x_1,e1,h⟩:=aP h
 refine Oc (az (gC e1) vc rfl rfl) (af.ak ⟨[(0,_),(1,_),(10,B x_1)],[]⟩ rfl (ab.ite h rfl (fun _ h=>?_) (fun _ h=>?_)))
 ·refine ab.seq (ab.aa ?_)
  refine Oc om (Oc oa ?_)
  refine af.ak ⟨[(4,.b (.one (.sl 1 (l0.map eI))))],[]⟩ rfl (ab.ret (Fin.aw ?_))
  obtain rfl:=Option.some.inj h
  refine Fin.ai ⟨[(4,_)],[]⟩ rfl (Fin.aM [.one (.sl 1 (l0.map eI))] (.inl rfl) rfl (.cons (.tmp rfl) .nil) ⟨rfl,rfl⟩)
 ·refine ab.skip (Fin.ai ⟨[(0,_),(1,_)],[]⟩ rfl (Fin.then (ab.seq (ab.aa ?_))))
  refine Oc oa (af.ak ⟨[(0,_),(1,_),(5,.b (.one (.nil)))],[]⟩ rfl (ab.seq (ab.aa ?_)))
  refine Oc oa (af.ak ⟨[(0,_),(1,_),(5,_),(6,B false)],[]⟩ rfl ?_)
  obtain ⟨v2,h3,h⟩:=aP h
  refine ab.ca (v:=v2) (eU fun (out_2:List Int) (placed_3:Bool)=>⟨[(1,I n0),(5,.b (.row 102)),(6,B placed_3)],[(102,.row 3 1 (out_2.map eI))]⟩) (fun z=>z) ?_ ?_
  ·refine ab.seq (ab.aa ?_)
   refine Oc oa (af.ak ⟨[(0,_),(1,_),(5,_),(6,_),(7,I 0)],[]⟩ rfl (ab.block (ab.dc 5 102 1 3 rfl (by decide) rfl (ab.bZ h3 (rf fun (out_4:List Int) (placed_5:Bool) (i_6:Int)=>⟨[(0,.b (.one (.sl 1 (l0.map eI)))),(1,I n0),(5,.b (.row 102)),(6,B placed_5),(7,I i_6)],[(102,.row 3 1 (out_4.map eI))]⟩) [0,1,5,6,7] [102] rfl ?_))))
   rintro ⟨out_4,placed_5,i_6⟩ o4 h5 hy6
   refine ab.seq (ab.seq (ab.aa ?_))
   refine Oc om (Oc om (Oc (av bR rfl (List.length_map _)) (Oc (aY rfl rfl) ?_)))
   refine af.ak ⟨[(0,_),(1,_),(5,_),(6,_),(7,_),(15,B (decide (i_6 < (l0.length:Int))))],[(102,_)]⟩ rfl (ab.ite h5 rfl (fun _ h5=>?_) (fun _ h5=>?_))
   ·refine ab.skip (Fin.ai ⟨[(0,_),(1,_),(5,_),(6,_),(7,_)],[(102,_)]⟩ rfl (Fin.then ?_))
    obtain ⟨v7,h8,h5⟩:=aP h5
    refine ab.ca (v:=v7) (eU fun (out_9:List Int) (placed_10:Bool)=>⟨[(0,.b (.one (.sl 1 (l0.map eI)))),(1,I n0),(5,.b (.row 102)),(6,B placed_10),(7,I i_6)],[(102,.row 3 1 (out_9.map eI))]⟩) (fun z=>z) ?_ ?_
    ·refine ab.block ?_
     obtain ⟨v9,h10,h8⟩:=aP h8
     refine ab.ca (v:=v9) (eU fun (out_11:List Int) (placed_12:Bool)=>⟨[(0,.b (.one (.sl 1 (l0.map eI)))),(1,I n0),(5,.b (.row 102)),(6,B placed_12),(7,I i_6)],[(102,.row 3 1 (out_11.map eI))]⟩) (fun z=>z) ?_ ?_
     ·refine ab.seq (ab.aa ?_)
      refine Oc om (Oc (cL rfl) (Oc om ?_))
      refine dt (!placed_5) [] (fun g11=>trivial) (fun g11=>om) (dt (!placed_5) [] (fun g12=>by exact trivial) (fun g12=>om) ?_)
      obtain ⟨x_13,e14,h10⟩:=aP h10
      refine dt (!placed_5) [21,22] (fun g13=>⟨g13,g13,trivial⟩) (fun g13=>an aQ (aL (gc e14 g13)) (aB (e:=eI) (gc e14 g13)) rfl rfl) (dt (!placed_5) [23] (fun g15=>⟨g15,trivial⟩) (fun g15=>au aD rfl rfl) (af.ai ⟨[(0,_),(1,_),(5,_),(6,_),(7,_),(20,B (!placed_5)),(24,.opt (!placed_5) (.one (.i x_13)))],[(102,_)]⟩ rfl (dt (!placed_5) [] (fun g16=>trivial) (fun g16=>om) (dt (!placed_5) [24,25] (fun g17=>by exact ⟨g17,g17,trivial⟩) (fun g17=>gZ rfl rfl) (Oc (aT (fun e=>e) rfl rfl rfl rfl) ?_)))))
      refine af.ak ⟨[(0,_),(1,_),(5,_),(6,_),(7,_),(27,B ((!placed_5) && (decide (n0 < x_13))))],[(102,_)]⟩ rfl (ab.ite h10 rfl (fun _ h10=>?_) (fun _ h10=>?_))
      ·refine ab.seq (ab.aa ?_)
       refine Oc om (Oc om (Oc (aO (k:=103) (es:=[n0].map eI) aQ rfl rfl (bc fun _=>rfl) rfl (by decide) (by decide) rfl) ?_))
       obtain ⟨x_14,e18,h10⟩:=aP h10
       refine Oc (b4 aQ (ec e18) (dZ e18) rfl rfl rfl rfl (cf e18) rfl) (Oc oa ?_)
       refine af.ak ⟨[(0,_),(1,_),(5,_),(7,_)],[(102,.row 3 1 (x_14.map eI))]⟩ rfl (ab.aa (Oc oa (af.nil ?_)))
       exact Fin.join [0,1,5,6,7] [102] (x_14,true) (Option.some.inj h10) rfl
      ·refine ab.skip ?_
       exact Fin.join [0,1,5,6,7] [102] (out_4,placed_5) (Option.some.inj h10) rfl
     ·rintro ⟨out_11,placed_12⟩ hv
      subst v9
      refine ab.aa (Oc om (Oc om (Oc om ?_)))
      obtain ⟨x_15,e19,h8⟩:=aP h8
      refine Oc (an aQ (aL e19) (aB (e:=eI) e19) rfl rfl) (Oc (au aD rfl rfl) (Oc (aO (k:=104) (es:=[x_15].map eI) aQ rfl rfl (bc fun _=>rfl) rfl (by decide) (by decide) rfl) ?_))
      obtain ⟨x_16,e20,h8⟩:=aP h8
      refine Oc (b4 aQ (ec e20) (dZ e20) rfl rfl rfl rfl (cf e20) rfl) (Oc oa ?_)
      refine af.nil (Fin.ar ?_)
      exact Fin.join [0,1,5,6,7] [102] (x_16,placed_12) (Option.some.inj h8) rfl
    ·rintro ⟨out_9,placed_10⟩ hv
     subst v7
     refine ab.aa (Oc om (Oc (bh rfl rfl) (Oc oa ?_)))
     refine af.nil ?_
     exact Fin.bp [0,1,5,6,7] [102] (out_9,placed_10,IntKind.i64.wrap (i_6 + 1)) (Option.some.inj h5) rfl
   ·refine ab.exit (Fin.aq ?_)
    obtain rfl:=hy6 _ (Option.some.inj h5).symm
    refine Fin.aq (Fin.aE ?_)
    exact Fin.join [1,5,6] [102] (out_4,placed_5) rfl rfl
  ·rintro ⟨out_2,placed_3⟩ hv
   subst v2
   obtain ⟨v21,h22,h⟩:=aP h
   refine ab.ca (v:=v21) (fun (out_17:List Int)=>⟨[(5,.b (.row 102))],[(102,.row 3 1 (out_17.map eI))]⟩) (fun z=>z) ?_ ?_
   ·refine ab.seq (ab.aa ?_)
    refine Oc om (Oc (cL rfl) ?_)
    refine af.ak ⟨[(1,_),(5,_),(40,B (!placed_3))],[(102,_)]⟩ rfl (ab.ite h22 rfl (fun _ h22=>?_) (fun _ h22=>?_))
    ·refine ab.aa (Oc om (Oc om (Oc (aO (k:=105) (es:=[n0].map eI) aQ rfl rfl (bc fun _=>rfl) rfl (by decide) (by decide) rfl) ?_)))
     obtain ⟨x_18,e23,h22⟩:=aP h22
     refine Oc (b4 aQ (ec e23) (dZ e23) rfl rfl rfl rfl (cf e23) rfl) (Oc oa ?_)
     refine af.nil ?_
     exact Fin.join [5] [102] x_18 (Option.some.inj h22) rfl
    ·refine ab.skip ?_
     exact Fin.join [5] [102] out_2 (Option.some.inj h22) rfl
   ·rintro out_17 hv
    subst v21
    refine ab.seq (ab.aa ?_)
    refine Oc om (Oc oa ?_)
    refine af.ak ⟨[(4,.b (.row 102))],[(102,_)]⟩ rfl (ab.ret ?_)
    obtain rfl:=Option.some.inj h
    refine Fin.ai ⟨[(4,.b (.row 102))],[(102,.row 3 1 (out_17.map eI))]⟩ rfl (Fin.bg 102 rfl (Fin.aM [.one (.sl 1 (out_17.map eI))] (.inl rfl) rfl (.cons (.tmp rfl) .nil) ⟨rfl,rfl⟩))
def cm (F:Nat) (a0:List Int) (b0:List Int):Option (List Int) :=
 Option.bind (iter F (eU fun out_2 i_3=>if (decide (i_3 < (b0.length:Int))) = true then ((aV b0 i_3).bind fun x_5=>(c7 F out_2 x_5).bind fun x_6=>some (.inl (x_6,IntKind.i64.wrap (i_3 + 1)))) else (some (.inr out_2))) (a0,0)) (fun out_1=>some out_1)
theorem iU {F:Nat} {a0:List Int} {b0:List Int} {r:(List Int)} (h:cm F a0 b0 = some r):aA Try.prog [] 81 [] [.one (.sl 1 (a0.map eI)),.one (.sl 1 (b0.map eI))] (Is [] (.b (.one (.sl 1 (r.map eI))))):=by
 unfold cm at h
 refine aA.intro 21 Try.func81 Try.ntmps81 rfl (by simp) fun E=>?_
 show ab _ E ⟨21,[],[],[]⟩ _ ⟨[(0,.b (.one (.sl 1 (a0.map eI)))),(1,.b (.one (.sl 1 (b0.map eI))))],[]⟩ _
 refine ab.seq (ab.aa ?_)
 refine Oc oa (af.ak ⟨[(0,.b (.one (.sl 1 (a0.map eI)))),(1,.b (.one (.sl 1 (b0.map eI))))],[]⟩ rfl (ab.seq (ab.aa ?_)))
 refine Oc om (Oc oa ?_)
 refine af.ak ⟨[(1,_),(5,.b (.one (.sl 1 (a0.map eI))))],[]⟩ rfl ?_
 obtain ⟨v1,h2,h⟩:=aP h
 refine ab.ca (v:=v1) (fun (out_1:List Int)=>⟨[(5,.b (.one (.sl 1 (out_1.map eI))))],[]⟩) (fun z=>z) ?_ ?_
 ·refine ab.seq (ab.aa ?_)
  refine Oc oa (af.ak ⟨[(1,_),(5,_),(6,I 0)],[]⟩ rfl (ab.block (ab.bZ h2 (eU fun (out_2:List Int) (i_3:Int)=>⟨[(1,.b (.one (.sl 1 (b0.map eI)))),(5,.b (.one (.sl 1 (out_2.map eI)))),(6,I i_3)],[]⟩) [1,5,6] [] rfl ?_)))
  rintro ⟨out_2,i_3⟩ o3 h4 hy5
  refine ab.seq (ab.seq (ab.aa ?_))
  refine Oc om (Oc om (Oc (av bR rfl (List.length_map _)) (Oc (aY rfl rfl) ?_)))
  refine af.ak ⟨[(1,_),(5,_),(6,_),(11,B (decide (i_3 < (b0.length:Int))))],[]⟩ rfl (ab.ite h4 rfl (fun _ h4=>?_) (fun _ h4=>?_))
  ·refine ab.skip (Fin.ai ⟨[(1,_),(5,_),(6,_)],[]⟩ rfl (Fin.then (ab.seq (ab.block (ab.aa ?_)))))
   refine Oc om (Oc om (Oc om ?_))
   obtain ⟨x_5,e6,h4⟩:=aP h4
   refine Oc (an aQ (aL e6) (aB (e:=eI) e6) rfl rfl) (Oc (au aD rfl rfl) ?_)
   obtain ⟨x_6,e7,h4⟩:=aP h4
   refine Oc (az (mV e7) goes95 rfl rfl) (Oc oa ?_)
   refine af.nil (Fin.ar (Fin.ai ⟨[(1,_),(5,.b (.one (.sl 1 (x_6.map eI)))),(6,_)],[]⟩ rfl (Fin.then (ab.aa ?_))))
   refine Oc om (Oc (bh rfl rfl) (Oc oa ?_))
   refine af.nil ?_
   exact Fin.bp [1,5,6] [] (x_6,IntKind.i64.wrap (i_3 + 1)) (Option.some.inj h4) rfl
  ·refine ab.exit (Fin.aq ?_)
   obtain rfl:=hy5 _ (Option.some.inj h4).symm
   refine Fin.aq (Fin.aE ?_)
   exact Fin.join [5] [] out_2 rfl rfl
 ·rintro out_1 hv
  subst v1
  refine ab.seq (ab.aa ?_)
  refine Oc om (Oc oa ?_)
  refine af.ak ⟨[(4,.b (.one (.sl 1 (out_1.map eI))))],[]⟩ rfl (ab.ret ?_)
  obtain rfl:=Option.some.inj h
  refine Fin.ai ⟨[(4,_)],[]⟩ rfl (Fin.aM [.one (.sl 1 (out_1.map eI))] (.inl rfl) rfl (.cons (.tmp rfl) .nil) ⟨rfl,rfl⟩)
def cO (F:Nat) (a0:List Int) (b0:List Int):Option Bool :=
 Option.bind (iter F (fun i_1=>if (decide (i_1 < (a0.length:Int))) = true then ((aV a0 i_1).bind fun x_2=>(ct F b0 x_2).bind fun x_3=>if x_3 = true then (some (.inr (.inr true))) else (some (.inl (IntKind.i64.wrap (i_1 + 1))))) else (some (.inr (.inl ())))) 0) (bG (fun _=>some false) (fun y=>some y))
theorem mo {F:Nat} {a0:List Int} {b0:List Int} {r:Bool} (h:cO F a0 b0 = some r):aA Try.prog [] 82 [] [.one (.sl 1 (a0.map eI)),.one (.sl 1 (b0.map eI))] (Is [] (.b (.one (.bool r)))):=by
 unfold cO at h
 refine aA.intro 18 Try.func82 Try.ntmps82 rfl (by simp) fun E=>?_
 show ab _ E ⟨18,[],[],[]⟩ _ ⟨[(0,.b (.one (.sl 1 (a0.map eI)))),(1,.b (.one (.sl 1 (b0.map eI))))],[]⟩ _
 refine ab.seq (ab.aa ?_)
 refine Oc oa (af.ak ⟨[(0,.b (.one (.sl 1 (a0.map eI)))),(1,.b (.one (.sl 1 (b0.map eI))))],[]⟩ rfl ?_)
 obtain ⟨v1,h2,h⟩:=aP h
 refine ab.ca (v:=v1) (fun (_:Unit)=>⟨[],[]⟩) (fun z=>.inl z) ?_ ?_
 ·refine ab.seq (ab.aa ?_)
  refine Oc oa (af.ak ⟨[(0,_),(1,_),(5,I 0)],[]⟩ rfl (ab.block (ab.bZ h2 (fun (i_1:Int)=>⟨[(0,.b (.one (.sl 1 (a0.map eI)))),(1,.b (.one (.sl 1 (b0.map eI)))),(5,I i_1)],[]⟩) [0,1,5] [] rfl ?_)))
  rintro i_1 o3 h4 hy5
  refine ab.seq (ab.seq (ab.aa ?_))
  refine Oc om (Oc om (Oc (av bR rfl (List.length_map _)) (Oc (aY rfl rfl) ?_)))
  refine af.ak ⟨[(0,_),(1,_),(5,_),(9,B (decide (i_1 < (a0.length:Int))))],[]⟩ rfl (ab.ite h4 rfl (fun _ h4=>?_) (fun _ h4=>?_))
  ·refine ab.skip (Fin.ai ⟨[(0,_),(1,_),(5,_)],[]⟩ rfl (Fin.then (ab.seq (ab.block (ab.seq (ab.aa ?_))))))
   refine Oc om (Oc om (Oc om ?_))
   obtain ⟨x_2,e6,h4⟩:=aP h4
   refine Oc (an aQ (aL e6) (aB (e:=eI) e6) rfl rfl) (Oc (au aD rfl rfl) ?_)
   obtain ⟨x_3,e7,h4⟩:=aP h4
   refine Oc (az (gC e7) vc rfl rfl) (af.ak ⟨[(0,_),(1,_),(5,_),(17,B x_3)],[]⟩ rfl (ab.ite h4 rfl (fun _ h4=>?_) (fun _ h4=>?_)))
   ·refine ab.seq (ab.aa ?_)
    refine Oc oa (af.ak ⟨[(4,B true)],[]⟩ rfl (ab.ret (Fin.aJ (Fin.aw ?_))))
    obtain rfl:=hy5 _ (Option.some.inj h4).symm
    refine Fin.aw (Fin.aJ (Fin.aw ?_))
    obtain rfl:=Option.some.inj h
    refine Fin.ai ⟨[(4,_)],[]⟩ rfl (Fin.aM [.one (.bool true)] (.inl rfl) rfl (.cons (.tmp rfl) .nil) ⟨rfl,rfl⟩)
   ·refine ab.skip (Fin.ar (Fin.ai ⟨[(0,_),(1,_),(5,_)],[]⟩ rfl (Fin.then (ab.aa ?_))))
    refine Oc om (Oc (bh rfl rfl) (Oc oa ?_))
    refine af.nil ?_
    exact Fin.bp [0,1,5] [] (IntKind.i64.wrap (i_1 + 1)) (Option.some.inj h4) rfl
  ·refine ab.exit (Fin.aq ?_)
   obtain rfl:=hy5 _ (Option.some.inj h4).symm
   refine Fin.aq (Fin.aE ?_)
   exact Fin.join [] [] () rfl rfl
 ·rintro _ hv
  subst v1
  refine ab.seq (ab.aa ?_)
  refine Oc oa (af.ak ⟨[(4,B false)],[]⟩ rfl (ab.ret ?_))
  obtain rfl:=Option.some.inj h
  refine Fin.ai ⟨[(4,_)],[]⟩ rfl (Fin.aM [.one (.bool false)] (.inl rfl) rfl (.cons (.tmp rfl) .nil) ⟨rfl,rfl⟩)
def dg (F:Nat) (l0:List (List Int)) (x0:List Int):Option (List (List Int)) :=
 Option.bind (iter F (rf fun out_3 placed_4 i_5=>if (decide (i_5 < (l0.length:Int))) = true then (Option.bind (Option.bind ((aK (!placed_4) (aV l0 i_5)).bind fun x_12=>(aK (!placed_4) (aV x_12 0)).bind fun x_13=>(aK (!placed_4) (aV x0 0)).bind fun x_14=>if ((!placed_4) && (decide (x_14 < x_13))) = true then ((eF out_3 [x0]).bind fun x_15=>some (x_15,true)) else (some (out_3,placed_4))) (eU fun out_10 placed_11=>(aV l0 i_5).bind fun x_16=>(eF out_10 [x_16]).bind fun x_17=>some (x_17,placed_11))) (eU fun out_8 placed_9=>some (.inl (out_8,placed_9,IntKind.i64.wrap (i_5 + 1))))) else (some (.inr (out_3,placed_4)))) ([],false,0)) (eU fun out_1 placed_2=>Option.bind (if (!placed_2) = true then ((eF out_1 [x0]).bind fun x_19=>some x_19) else (some out_1)) (fun out_18=>some out_18))
theorem nq (kr0:Nat) {F:Nat} {l0:List (List Int)} {x0:List Int} {r:(List (List Int))} (h:dg F l0 x0 = some r):aA Try.prog [] 83 [] [.one (.sl 1 (l0.map (eL 1 eI))),.one (.sl 1 (x0.map eI))] (Is [(kr0,.row 22 1 (r.map (eL 1 eI)))] (.b (.row kr0))):=by
 unfold dg at h
 refine aA.intro 46 Try.func83 Try.ntmps83 rfl (by simp) fun E=>?_
 show ab _ E ⟨46,[],[],[]⟩ _ ⟨[(0,.b (.one (.sl 1 (l0.map (eL 1 eI))))),(1,.b (.one (.sl 1 (x0.map eI))))],[]⟩ _
 refine ab.seq (ab.aa ?_)
 refine Oc oa (af.ak ⟨[(0,.b (.one (.sl 1 (l0.map (eL 1 eI))))),(1,.b (.one (.sl 1 (x0.map eI))))],[]⟩ rfl (ab.seq (ab.aa ?_)))
 refine Oc oa (af.ak ⟨[(0,_),(1,_),(5,.b (.one (.nil)))],[]⟩ rfl (ab.seq (ab.aa ?_)))
 refine Oc oa (af.ak ⟨[(0,_),(1,_),(5,_),(6,B false)],[]⟩ rfl ?_)
 obtain ⟨v1,h2,h⟩:=aP h
 refine ab.ca (v:=v1) (eU fun (out_1:List (List Int)) (placed_2:Bool)=>⟨[(1,.b (.one (.sl 1 (x0.map eI)))),(5,.b (.row 102)),(6,B placed_2)],[(102,.row 22 1 (out_1.map (eL 1 eI)))]⟩) (fun z=>z) ?_ ?_
 ·refine ab.seq (ab.aa ?_)
  refine Oc oa (af.ak ⟨[(0,_),(1,_),(5,_),(6,_),(7,I 0)],[]⟩ rfl (ab.block (ab.dc 5 102 1 22 rfl (by decide) rfl (ab.bZ h2 (rf fun (out_3:List (List Int)) (placed_4:Bool) (i_5:Int)=>⟨[(0,.b (.one (.sl 1 (l0.map (eL 1 eI))))),(1,.b (.one (.sl 1 (x0.map eI)))),(5,.b (.row 102)),(6,B placed_4),(7,I i_5)],[(102,.row 22 1 (out_3.map (eL 1 eI)))]⟩) [0,1,5,6,7] [102] rfl ?_))))
  rintro ⟨out_3,placed_4,i_5⟩ o3 h4 hy5
  refine ab.seq (ab.seq (ab.aa ?_))
  refine Oc om (Oc om (Oc (av jr rfl (List.length_map _)) (Oc (aY rfl rfl) ?_)))
  refine af.ak ⟨[(0,_),(1,_),(5,_),(6,_),(7,_),(11,B (decide (i_5 < (l0.length:Int))))],[(102,_)]⟩ rfl (ab.ite h4 rfl (fun _ h4=>?_) (fun _ h4=>?_))
  ·refine ab.skip (Fin.ai ⟨[(0,_),(1,_),(5,_),(6,_),(7,_)],[(102,_)]⟩ rfl (Fin.then ?_))
   obtain ⟨v6,h7,h4⟩:=aP h4
   refine ab.ca (v:=v6) (eU fun (out_8:List (List Int)) (placed_9:Bool)=>⟨[(0,.b (.one (.sl 1 (l0.map (eL 1 eI))))),(1,.b (.one (.sl 1 (x0.map eI)))),(5,.b (.row 102)),(6,B placed_9),(7,I i_5)],[(102,.row 22 1 (out_8.map (eL 1 eI)))]⟩) (fun z=>z) ?_ ?_
   ·refine ab.block ?_
    obtain ⟨v8,h9,h7⟩:=aP h7
    refine ab.ca (v:=v8) (eU fun (out_10:List (List Int)) (placed_11:Bool)=>⟨[(0,.b (.one (.sl 1 (l0.map (eL 1 eI))))),(1,.b (.one (.sl 1 (x0.map eI)))),(5,.b (.row 102)),(6,B placed_11),(7,I i_5)],[(102,.row 22 1 (out_10.map (eL 1 eI)))]⟩) (fun z=>z) ?_ ?_
    ·refine ab.seq (ab.ai ⟨[(0,_),(1,_),(5,_),(6,_),(7,_)],[(102,_)]⟩ rfl ?_)
     obtain ⟨x_12,e13,h9⟩:=aP h9
     obtain ⟨x_13,e16,h9⟩:=aP h9
     obtain ⟨x_14,e20,h9⟩:=aP h9
     refine ab.eX mixed 14 [B placed_4,B (!placed_4),B (!placed_4),.opt (!placed_4) (.one (.sl 1 (l0.map (eL 1 eI)))),.opt (!placed_4) (.one (.i i_5)),.opt (!placed_4) (.cx [.sl 1 (x_12.map eI)]),.opt (!placed_4) (.one (.sl 1 (x_12.map eI))),.opt (!placed_4) (.cx [.i x_13]),.opt (!placed_4) (.one (.i x_13)),.opt (!placed_4) (.one (.sl 1 (x0.map eI))),.opt (!placed_4) (.cx [.i x_14]),.opt (!placed_4) (.one (.i x_14)),.opt (!placed_4) (.one (.bool (decide (x_14 < x_13)))),B ((!placed_4) && (decide (x_14 < x_13)))] [0,1,5,6,7,27] [102] (s':=⟨[(0,_),(1,_),(5,_),(6,_),(7,_),(27,B ((!placed_4) && (decide (x_14 < x_13))))],[(102,_)]⟩) rfl ⟨fun _=>.p om,fun _=>.p (cL rfl),fun _=>.p om,fun _=>by exact .guard (!placed_4) 1 [] (.plain rfl) (dq _) rfl rfl (fun g10=>trivial) (fun g10=>om),fun _=>by exact .guard (!placed_4) 1 [] (.plain rfl) (dq _) rfl rfl (fun g11=>trivial) (fun g11=>om),fun _=>by exact .guard (!placed_4) 3 [17,18] (.plain rfl) (dq _) rfl rfl (fun g12=>⟨g12,g12,trivial⟩) (fun g12=>an bY (aL (gc e13 g12)) (aB (e:=(eL 1 eI)) (gc e13 g12)) rfl rfl),fun _=>by exact .guard (!placed_4) 2 [19] (.plain rfl) (dq _) rfl rfl (fun g14=>⟨g14,trivial⟩) (fun g14=>au aN rfl rfl),fun _=>by exact .guard (!placed_4) 2 [20] (.plain rfl) (dq _) rfl rfl (fun g15=>⟨g15,trivial⟩) (fun g15=>an aQ (aL (gc e16 g15)) (aB (e:=eI) (gc e16 g15)) rfl rfl),fun _=>by exact .guard (!placed_4) 2 [21] (.plain rfl) (dq _) rfl rfl (fun g17=>⟨g17,trivial⟩) (fun g17=>au aD rfl rfl),fun _=>by exact .guard (!placed_4) 1 [] (.plain rfl) (dq _) rfl rfl (fun g18=>trivial) (fun g18=>om),fun _=>by exact .guard (!placed_4) 2 [23] (.plain rfl) (dq _) rfl rfl (fun g19=>⟨g19,trivial⟩) (fun g19=>an aQ (aL (gc e20 g19)) (aB (e:=eI) (gc e20 g19)) rfl rfl),fun _=>by exact .guard (!placed_4) 2 [24] (.plain rfl) (dq _) rfl rfl (fun g21=>⟨g21,trivial⟩) (fun g21=>au aD rfl rfl),fun _=>by exact .guard (!placed_4) 3 [22,25] (.plain rfl) (dq _) rfl rfl (fun g22=>⟨g22,g22,trivial⟩) (fun g22=>gZ rfl rfl),fun _=>.p (aT (fun e=>e) rfl rfl rfl rfl),trivial⟩ rfl rfl (ab.ite h9 rfl (fun _ h9=>?_) (fun _ h9=>?_))
     ·refine ab.seq (ab.aa ?_)
      refine Oc om (Oc om (Oc (aO (k:=103) (es:=[x0].map (eL 1 eI)) bY rfl rfl (bc fun _=>rfl) rfl (by decide) (by decide) rfl) ?_))
      obtain ⟨x_15,e23,h9⟩:=aP h9
      refine Oc (b4 bY (ec e23) (dZ e23) rfl rfl rfl rfl (cf e23) rfl) (Oc oa ?_)
      refine af.ak ⟨[(0,_),(1,_),(5,_),(7,_)],[(102,.row 22 1 (x_15.map (eL 1 eI)))]⟩ rfl (ab.aa (Oc oa (af.nil ?_)))
      exact Fin.join [0,1,5,6,7] [102] (x_15,true) (Option.some.inj h9) rfl
     ·refine ab.skip ?_
      exact Fin.join [0,1,5,6,7] [102] (out_3,placed_4) (Option.some.inj h9) rfl
    ·rintro ⟨out_10,placed_11⟩ hv
     subst v8
     refine ab.aa (Oc om (Oc om (Oc om ?_)))
     obtain ⟨x_16,e24,h7⟩:=aP h7
     refine Oc (an bY (aL e24) (aB (e:=(eL 1 eI)) e24) rfl rfl) (Oc (au aN rfl rfl) (Oc (aO (k:=104) (es:=[x_16].map (eL 1 eI)) bY rfl rfl (bc fun _=>rfl) rfl (by decide) (by decide) rfl) ?_))
     obtain ⟨x_17,e25,h7⟩:=aP h7
     refine Oc (b4 bY (ec e25) (dZ e25) rfl rfl rfl rfl (cf e25) rfl) (Oc oa ?_)
     refine af.nil (Fin.ar ?_)
     exact Fin.join [0,1,5,6,7] [102] (x_17,placed_11) (Option.some.inj h7) rfl
   ·rintro ⟨out_8,placed_9⟩ hv
    subst v6
    refine ab.aa (Oc om (Oc (bh rfl rfl) (Oc oa ?_)))
    refine af.nil ?_
    exact Fin.bp [0,1,5,6,7] [102] (out_8,placed_9,IntKind.i64.wrap (i_5 + 1)) (Option.some.inj h4) rfl
  ·refine ab.exit (Fin.aq ?_)
   obtain rfl:=hy5 _ (Option.some.inj h4).symm
   refine Fin.aq (Fin.aE ?_)
   exact Fin.join [1,5,6] [102] (out_3,placed_4) rfl rfl
 ·rintro ⟨out_1,placed_2⟩ hv
  subst v1
  obtain ⟨v26,h27,h⟩:=aP h
  refine ab.ca (v:=v26) (fun (out_18:List (List Int))=>⟨[(5,.b (.row 102))],[(102,.row 22 1 (out_18.map (eL 1 eI)))]⟩) (fun z=>z) ?_ ?_
  ·refine ab.seq (ab.aa ?_)
   refine Oc om (Oc (cL rfl) ?_)
   refine af.ak ⟨[(1,_),(5,_),(40,B (!placed_2))],[(102,_)]⟩ rfl (ab.ite h27 rfl (fun _ h27=>?_) (fun _ h27=>?_))
   ·refine ab.aa (Oc om (Oc om (Oc (aO (k:=105) (es:=[x0].map (eL 1 eI)) bY rfl rfl (bc fun _=>rfl) rfl (by decide) (by decide) rfl) ?_)))
    obtain ⟨x_19,e28,h27⟩:=aP h27
    refine Oc (b4 bY (ec e28) (dZ e28) rfl rfl rfl rfl (cf e28) rfl) (Oc oa ?_)
    refine af.nil ?_
    exact Fin.join [5] [102] x_19 (Option.some.inj h27) rfl
   ·refine ab.skip ?_
    exact Fin.join [5] [102] out_1 (Option.some.inj h27) rfl
  ·rintro out_18 hv
   subst v26
   refine ab.seq (ab.aa ?_)
   refine Oc om (Oc oa ?_)
   refine af.ak ⟨[(4,.b (.row 102))],[(102,_)]⟩ rfl (ab.ret ?_)
   obtain rfl:=Option.some.inj h
   refine Fin.ai ⟨[(4,_)],[(102,_)]⟩ rfl (Fin.dD 102 kr0 [.row 102] (.inl rfl) rfl (.cons (.tmp rfl) .nil) rfl rfl rfl rfl ⟨rfl,rfl⟩)
def bd (F:Nat) (l0:List (List Int)):Option (List (List Int)) :=
 Option.bind (iter F (eU fun sets_2 i_3=>if (decide (i_3 < (l0.length:Int))) = true then (Option.bind ((aV l0 i_3).bind fun x_6=>(cm F [] x_6).bind fun x_7=>if (decide ((x_7.length:Int) = 0)) = true then (some sets_2) else (Option.bind (iter F (rf fun x_10 rest_11 k_12=>if (decide (k_12 < (sets_2.length:Int))) = true then (Option.bind ((aV sets_2 k_12).bind fun x_17=>(cO F x_17 x_10).bind fun x_18=>if x_18 = true then ((aV sets_2 k_12).bind fun x_19=>(cm F x_10 x_19).bind fun x_20=>some (x_20,rest_11)) else ((aV sets_2 k_12).bind fun x_21=>(eF rest_11 [x_21]).bind fun x_22=>some (x_10,x_22))) (eU fun x_15 rest_16=>some (.inl (x_15,rest_16,IntKind.i64.wrap (k_12 + 1))))) else (some (.inr (x_10,rest_11)))) (x_7,[],0)) (eU fun x_8 rest_9=>(eF rest_9 [x_8]).bind fun x_23=>some x_23))) (fun sets_5=>some (.inl (sets_5,IntKind.i64.wrap (i_3 + 1))))) else (some (.inr sets_2))) ([],0)) (fun sets_1=>Option.bind (iter F (eU fun out_25 i_26=>if (decide (i_26 < (sets_1.length:Int))) = true then ((aV sets_1 i_26).bind fun x_28=>(dg F out_25 x_28).bind fun x_29=>some (.inl (x_29,IntKind.i64.wrap (i_26 + 1)))) else (some (.inr out_25))) ([],0)) (fun out_24=>some out_24))
theorem br (kr0:Nat) {F:Nat} {l0:List (List Int)} {r:(List (List Int))} (h:bd F l0 = some r):aA Try.prog [] 45 [] [.one (.sl 1 (l0.map (eL 1 eI)))] (Is [(kr0,.row 22 1 (r.map (eL 1 eI)))] (.b (.row kr0))):=by
 unfold bd at h
 refine aA.intro 66 Try.func45 Try.ntmps45 rfl (by simp) fun E=>?_
 show ab _ E ⟨66,[],[],[]⟩ _ ⟨[(0,.b (.one (.sl 1 (l0.map (eL 1 eI)))))],[]⟩ _
 refine ab.seq (ab.aa ?_)
 refine Oc oa (af.ak ⟨[(0,.b (.one (.sl 1 (l0.map (eL 1 eI)))))],[]⟩ rfl (ab.seq (ab.aa ?_)))
 refine Oc oa (af.ak ⟨[(0,_),(3,.b (.one (.nil)))],[]⟩ rfl ?_)
 obtain ⟨v1,h2,h⟩:=aP h
 refine ab.ca (v:=v1) (fun (sets_1:List (List Int))=>⟨[(3,.b (.row 102))],[(102,.row 22 1 (sets_1.map (eL 1 eI)))]⟩) (fun z=>z) ?_ ?_
 ·refine ab.seq (ab.aa ?_)
  refine Oc oa (af.ak ⟨[(0,_),(3,_),(4,I 0)],[]⟩ rfl (ab.block (ab.dc 3 102 1 22 rfl (by decide) rfl (ab.bZ h2 (eU fun (sets_2:List (List Int)) (i_3:Int)=>⟨[(0,.b (.one (.sl 1 (l0.map (eL 1 eI))))),(3,.b (.row 102)),(4,I i_3)],[(102,.row 22 1 (sets_2.map (eL 1 eI)))]⟩) [0,3,4] [102] rfl ?_))))
  rintro ⟨sets_2,i_3⟩ o3 h4 hy5
  refine ab.seq (ab.seq (ab.aa ?_))
  refine Oc om (Oc om (Oc (av jr rfl (List.length_map _)) (Oc (aY rfl rfl) ?_)))
  refine af.ak ⟨[(0,_),(3,_),(4,_),(13,B (decide (i_3 < (l0.length:Int))))],[(102,_)]⟩ rfl (ab.ite h4 rfl (fun _ h4=>?_) (fun _ h4=>?_))
  ·refine ab.skip (Fin.ai ⟨[(0,_),(3,_),(4,_)],[(102,_)]⟩ rfl (Fin.then ?_))
   obtain ⟨v6,h7,h4⟩:=aP h4
   refine ab.ca (v:=v6) (fun (sets_5:List (List Int))=>⟨[(0,.b (.one (.sl 1 (l0.map (eL 1 eI))))),(3,.b (.row 102)),(4,I i_3)],[(102,.row 22 1 (sets_5.map (eL 1 eI)))]⟩) (fun z=>z) ?_ ?_
   ·refine ab.block (ab.seq (ab.aa ?_))
    refine Oc om (Oc om ?_)
    obtain ⟨x_6,e8,h7⟩:=aP h7
    refine Oc (an bY (aL e8) (aB (e:=(eL 1 eI)) e8) rfl rfl) (Oc (au aN rfl rfl) ?_)
    obtain ⟨x_7,e9,h7⟩:=aP h7
    refine Oc (az (aA.jH 0 (by decide) (iU e9) rfl) xS rfl rfl) (Oc oa ?_)
    refine af.ak ⟨[(0,_),(3,_),(4,_),(5,.b (.one (.sl 1 (x_7.map eI))))],[(102,_)]⟩ rfl (ab.seq (ab.seq (ab.aa ?_)))
    refine Oc om (Oc (av bR rfl (List.length_map _)) (Oc (di rfl rfl) ?_))
    refine af.ak ⟨[(0,_),(3,_),(4,_),(5,_),(23,B (decide ((x_7.length:Int) = 0)))],[(102,_)]⟩ rfl (ab.ite h7 rfl (fun _ h7=>?_) (fun _ h7=>?_))
    ·refine ab.exit (Fin.aq (Fin.aE ?_))
     exact Fin.join [0,3,4] [102] sets_2 (Option.some.inj h7) rfl
    ·refine ab.skip (Fin.ai ⟨[(0,_),(3,_),(4,_),(5,_)],[(102,_)]⟩ rfl (Fin.then (ab.seq (ab.aa ?_))))
     refine Oc oa (af.ak ⟨[(0,_),(3,_),(4,_),(5,_),(6,.b (.one (.nil)))],[(102,_)]⟩ rfl ?_)
     obtain ⟨v10,h11,h7⟩:=aP h7
     refine ab.ca (v:=v10) (eU fun (x_8:List Int) (rest_9:List (List Int))=>⟨[(0,.b (.one (.sl 1 (l0.map (eL 1 eI))))),(4,I i_3),(5,.b (.one (.sl 1 (x_8.map eI)))),(6,.b (.row 104))],[(104,.row 22 1 (rest_9.map (eL 1 eI)))]⟩) (fun z=>z) ?_ ?_
     ·refine ab.seq (ab.aa ?_)
      refine Oc oa (af.ak ⟨[(0,_),(3,_),(4,_),(5,_),(6,_),(7,I 0)],[(102,_)]⟩ rfl (ab.block (ab.dc 6 104 1 22 rfl (by decide) rfl (ab.bZ h11 (rf fun (x_10:List Int) (rest_11:List (List Int)) (k_12:Int)=>⟨[(0,.b (.one (.sl 1 (l0.map (eL 1 eI))))),(3,.b (.row 102)),(4,I i_3),(5,.b (.one (.sl 1 (x_10.map eI)))),(6,.b (.row 104)),(7,I k_12)],[(102,.row 22 1 (sets_2.map (eL 1 eI))),(104,.row 22 1 (rest_11.map (eL 1 eI)))]⟩) [0,3,4,5,6,7] [102,104] rfl ?_))))
      rintro ⟨x_10,rest_11,k_12⟩ o12 h13 hy14
      refine ab.seq (ab.seq (ab.aa ?_))
      refine Oc om (Oc om (Oc (fN jr rfl rfl (List.length_map _)) (Oc (aY rfl rfl) ?_)))
      refine af.ak ⟨[(0,_),(3,_),(4,_),(5,_),(6,_),(7,_),(27,B (decide (k_12 < (sets_2.length:Int))))],[(102,_),(104,_)]⟩ rfl (ab.ite h13 rfl (fun _ h13=>?_) (fun _ h13=>?_))
      ·refine ab.skip (Fin.ai ⟨[(0,_),(3,_),(4,_),(5,_),(6,_),(7,_)],[(102,_),(104,_)]⟩ rfl (Fin.then ?_))
       obtain ⟨v15,h16,h13⟩:=aP h13
       refine ab.ca (v:=v15) (eU fun (x_15:List Int) (rest_16:List (List Int))=>⟨[(0,.b (.one (.sl 1 (l0.map (eL 1 eI))))),(3,.b (.row 102)),(4,I i_3),(5,.b (.one (.sl 1 (x_15.map eI)))),(6,.b (.row 104)),(7,I k_12)],[(102,.row 22 1 (sets_2.map (eL 1 eI))),(104,.row 22 1 (rest_16.map (eL 1 eI)))]⟩) (fun z=>z) ?_ ?_
       ·refine ab.block (ab.seq (ab.aa ?_))
        refine Oc om (Oc om ?_)
        obtain ⟨x_17,e17,h16⟩:=aP h16
        refine Oc (bq bY (aL e17) (dy e17) rfl rfl rfl rfl) (Oc (cS (i:=(k_12:Int).toNat) (f:=0) aN rfl rfl rfl (aB (e:=(eL 1 eI)) e17) rfl) (Oc om ?_))
        obtain ⟨x_18,e18,h16⟩:=aP h16
        refine Oc (az (mo e18) goes82 rfl rfl) (af.ak ⟨[(0,_),(3,_),(4,_),(5,_),(6,_),(7,_),(35,B x_18)],[(102,_),(104,_)]⟩ rfl (ab.ite h16 rfl (fun _ h16=>?_) (fun _ h16=>?_)))
        ·refine ab.aa (Oc om (Oc om (Oc om ?_)))
         obtain ⟨x_19,e19,h16⟩:=aP h16
         refine Oc (bq bY (aL e19) (dy e19) rfl rfl rfl rfl) (Oc (cS (i:=(k_12:Int).toNat) (f:=0) aN rfl rfl rfl (aB (e:=(eL 1 eI)) e19) rfl) ?_)
         obtain ⟨x_20,e20,h16⟩:=aP h16
         refine Oc (az (iU e20) xS rfl rfl) (Oc oa ?_)
         refine af.nil (Fin.ar ?_)
         exact Fin.join [0,3,4,5,6,7] [102,104] (x_20,rest_11) (Option.some.inj h16) rfl
        ·refine ab.aa (Oc om (Oc om (Oc om ?_)))
         obtain ⟨x_21,e21,h16⟩:=aP h16
         refine Oc (bq bY (aL e21) (dy e21) rfl rfl rfl rfl) (Oc (cS (i:=(k_12:Int).toNat) (f:=0) aN rfl rfl rfl (aB (e:=(eL 1 eI)) e21) rfl) (Oc (aO (k:=105) (es:=[x_21].map (eL 1 eI)) bY rfl rfl (bc fun _=>rfl) rfl (by decide) (by decide) rfl) ?_))
         obtain ⟨x_22,e22,h16⟩:=aP h16
         refine Oc (b4 bY (ec e22) (dZ e22) rfl rfl rfl rfl (cf e22) rfl) (Oc oa ?_)
         refine af.nil (Fin.ar ?_)
         exact Fin.join [0,3,4,5,6,7] [102,104] (x_10,x_22) (Option.some.inj h16) rfl
       ·rintro ⟨x_15,rest_16⟩ hv
        subst v15
        refine ab.aa (Oc om (Oc (bh rfl rfl) (Oc oa ?_)))
        refine af.nil ?_
        exact Fin.bp [0,3,4,5,6,7] [102,104] (x_15,rest_16,IntKind.i64.wrap (k_12 + 1)) (Option.some.inj h13) rfl
      ·refine ab.exit (Fin.aq ?_)
       obtain rfl:=hy14 _ (Option.some.inj h13).symm
       refine Fin.aq (Fin.aE ?_)
       exact Fin.join [0,4,5,6] [104] (x_10,rest_11) rfl rfl
     ·rintro ⟨x_8,rest_9⟩ hv
      subst v10
      refine ab.aa (Oc om (Oc om (Oc (aO (k:=106) (es:=[x_8].map (eL 1 eI)) bY rfl rfl (bc fun _=>rfl) rfl (by decide) (by decide) rfl) ?_)))
      obtain ⟨x_23,e23,h7⟩:=aP h7
      refine Oc (b4 bY (ec e23) (dZ e23) rfl rfl rfl rfl (cf e23) rfl) (Oc oa ?_)
      refine af.nil (Fin.ar (Fin.ai ⟨[(0,.b (.one (.sl 1 (l0.map (eL 1 eI))))),(3,.b (.row 104)),(4,I i_3)],[(104,.row 22 1 (x_23.map (eL 1 eI)))]⟩ rfl (Fin.rename 104 102 rfl (by decide) rfl ?_)))
      exact Fin.join [0,3,4] [102] x_23 (Option.some.inj h7) rfl
   ·rintro sets_5 hv
    subst v6
    refine ab.aa (Oc om (Oc (bh rfl rfl) (Oc oa ?_)))
    refine af.nil ?_
    exact Fin.bp [0,3,4] [102] (sets_5,IntKind.i64.wrap (i_3 + 1)) (Option.some.inj h4) rfl
  ·refine ab.exit (Fin.aq ?_)
   obtain rfl:=hy5 _ (Option.some.inj h4).symm
   refine Fin.aq (Fin.aE ?_)
   exact Fin.join [3] [102] sets_2 rfl rfl
 ·rintro sets_1 hv
  subst v1
  refine ab.seq (ab.aa ?_)
  refine Oc oa (af.ak ⟨[(3,_),(8,.b (.one (.nil)))],[(102,_)]⟩ rfl ?_)
  obtain ⟨v24,h25,h⟩:=aP h
  refine ab.ca (v:=v24) (fun (out_24:List (List Int))=>⟨[(8,.b (.row 107))],[(107,.row 22 1 (out_24.map (eL 1 eI)))]⟩) (fun z=>z) ?_ ?_
  ·refine ab.seq (ab.aa ?_)
   refine Oc oa (af.ak ⟨[(3,_),(8,_),(9,I 0)],[(102,_)]⟩ rfl (ab.block (ab.dc 8 107 1 22 rfl (by decide) rfl (ab.bZ h25 (eU fun (out_25:List (List Int)) (i_26:Int)=>⟨[(3,.b (.row 102)),(8,.b (.row 107)),(9,I i_26)],[(102,.row 22 1 (sets_1.map (eL 1 eI))),(107,.row 22 1 (out_25.map (eL 1 eI)))]⟩) [3,8,9] [102,107] rfl ?_))))
   rintro ⟨out_25,i_26⟩ o26 h27 hy28
   refine ab.seq (ab.seq (ab.aa ?_))
   refine Oc om (Oc om (Oc (fN jr rfl rfl (List.length_map _)) (Oc (aY rfl rfl) ?_)))
   refine af.ak ⟨[(3,_),(8,_),(9,_),(56,B (decide (i_26 < (sets_1.length:Int))))],[(102,_),(107,_)]⟩ rfl (ab.ite h27 rfl (fun _ h27=>?_) (fun _ h27=>?_))
   ·refine ab.skip (Fin.ai ⟨[(3,_),(8,_),(9,_)],[(102,_),(107,_)]⟩ rfl (Fin.then (ab.seq (ab.block (ab.aa ?_)))))
    refine Oc om (Oc om (Oc om ?_))
    obtain ⟨x_28,e29,h27⟩:=aP h27
    refine Oc (bq bY (aL e29) (dy e29) rfl rfl rfl rfl) (Oc (cS (i:=(i_26:Int).toNat) (f:=0) aN rfl rfl rfl (aB (e:=(eL 1 eI)) e29) rfl) ?_)
    refine af.bg 107 rfl ?_
    obtain ⟨x_29,e30,h27⟩:=aP h27
    refine Oc (bL (nq 108 e30) goes83 rfl trivial rfl rfl) (Oc oa ?_)
    refine af.nil (Fin.ar (Fin.ai ⟨[(3,.b (.row 102)),(8,.b (.row 108)),(9,I i_26)],[(102,.row 22 1 (sets_1.map (eL 1 eI))),(108,.row 22 1 (x_29.map (eL 1 eI)))]⟩ rfl (Fin.then (ab.aa ?_))))
    refine Oc om (Oc (bh rfl rfl) (Oc oa ?_))
    refine af.nil (Fin.ai ⟨[(3,.b (.row 102)),(8,.b (.row 108)),(9,I (IntKind.i64.wrap (i_26 + 1)))],[(102,.row 22 1 (sets_1.map (eL 1 eI))),(108,.row 22 1 (x_29.map (eL 1 eI)))]⟩ rfl (Fin.rename 108 107 rfl (by decide) rfl ?_))
    exact Fin.bp [3,8,9] [102,107] (x_29,IntKind.i64.wrap (i_26 + 1)) (Option.some.inj h27) rfl
   ·refine ab.exit (Fin.aq ?_)
    obtain rfl:=hy28 _ (Option.some.inj h27).symm
    refine Fin.aq (Fin.aE ?_)
    exact Fin.join [8] [107] out_25 rfl rfl
  ·rintro out_24 hv
   subst v24
   refine ab.seq (ab.aa ?_)
   refine Oc om (Oc oa ?_)
   refine af.ak ⟨[(2,.b (.row 107))],[(107,_)]⟩ rfl (ab.ret ?_)
   obtain rfl:=Option.some.inj h
   refine Fin.ai ⟨[(2,_)],[(107,_)]⟩ rfl (Fin.dD 107 kr0 [.row 107] (.inl rfl) rfl (.cons (.tmp rfl) .nil) rfl rfl rfl rfl ⟨rfl,rfl⟩)
def cM (F:Nat) (home0:List Int) (sets0:List (List Int)):Option (List Task) :=
 (eF [] sets0).bind fun x_1=>Option.bind (iter F (eU fun all_3 b_4=>if (decide (b_4 < (home0.length:Int))) = true then (Option.bind ((aV home0 b_4).bind fun x_7=>if (decide (0 ≤ x_7)) = true then ((eF all_3 [[b_4]]).bind fun x_8=>some x_8) else (some all_3)) (fun all_6=>some (.inl (all_6,IntKind.i64.wrap (b_4 + 1))))) else (some (.inr all_3))) (x_1,0)) (fun all_2=>(bd F all_2).bind fun x_9=>Option.bind (iter F (eU fun out_11 i_12=>if (decide (i_12 < (x_9.length:Int))) = true then (Option.bind (Option.bind (iter F (eU fun homes_16 k_17=>(aV x_9 i_12).bind fun x_19=>if (decide (k_17 < (x_19.length:Int))) = true then ((aV x_9 i_12).bind fun x_20=>(aV x_20 k_17).bind fun x_21=>(aV home0 x_21).bind fun x_22=>(eF homes_16 [[x_22]]).bind fun x_23=>some (.inl (x_23,IntKind.i64.wrap (k_17 + 1)))) else (some (.inr homes_16))) ([],0)) (fun homes_15=>(bd F homes_15).bind fun x_24=>(aV x_24 0).bind fun x_25=>(aV x_25 0).bind fun x_26=>(aV x_9 i_12).bind fun x_27=>Option.bind (iter F (eU fun t_29 k_30=>if (decide (k_30 < (x_24.length:Int))) = true then ((eF [] t_29.Helpers).bind fun x_32=>(aV x_24 k_30).bind fun x_33=>(aV x_33 0).bind fun x_34=>(eF x_32 [x_34]).bind fun x_35=>some (.inl ((⟨t_29.Owner,t_29.Bodies,x_35⟩:Task),IntKind.i64.wrap (k_30 + 1)))) else (some (.inr t_29))) ((⟨x_26,x_27,[]⟩:Task),1)) (fun t_28=>(eF out_11 [t_28]).bind fun x_36=>some x_36))) (fun out_14=>some (.inl (out_14,IntKind.i64.wrap (i_12 + 1))))) else (some (.inr out_11))) ([],0)) (fun out_10=>some out_10))
theorem mc (kr0:Nat) {F:Nat} {home0:List Int} {sets0:List (List Int)} {r:(List Task)} (h:cM F home0 sets0 = some r):aA Try.prog [] 84 [] [.one (.sl 1 (home0.map eI)),.one (.sl 1 (sets0.map (eL 1 eI)))] (Is [(kr0,.row 59 3 (r.map ao))] (.b (.row kr0))):=by
 unfold cM at h
 refine aA.intro 101 Try.func84 Try.ntmps84 rfl (by simp) fun E=>?_
 show ab _ E ⟨101,[],[],[]⟩ _ ⟨[(0,.b (.one (.sl 1 (home0.map eI)))),(1,.b (.one (.sl 1 (sets0.map (eL 1 eI)))))],[]⟩ _
 refine ab.seq (ab.aa ?_)
 refine Oc oa (af.ak ⟨[(0,.b (.one (.sl 1 (home0.map eI)))),(1,.b (.one (.sl 1 (sets0.map (eL 1 eI)))))],[]⟩ rfl (ab.seq (ab.aa ?_)))
 refine Oc (iB (k:=101) bY rfl) (Oc om ?_)
 obtain ⟨x_1,e1,h⟩:=aP h
 refine Oc (gq bY (ec e1) (dZ e1) rfl rfl rfl (cf e1) rfl) (Oc oa ?_)
 refine af.ak ⟨[(0,_),(5,.b (.row 101))],[(101,.row 22 1 (x_1.map (eL 1 eI)))]⟩ rfl ?_
 obtain ⟨v2,h3,h⟩:=aP h
 refine ab.ca (v:=v2) (fun (all_2:List (List Int))=>⟨[(0,.b (.one (.sl 1 (home0.map eI)))),(5,.b (.row 101))],[(101,.row 22 1 (all_2.map (eL 1 eI)))]⟩) (fun z=>z) ?_ ?_
 ·refine ab.seq (ab.aa ?_)
  refine Oc oa (af.ak ⟨[(0,_),(5,_),(6,I 0)],[(101,_)]⟩ rfl (ab.block (ab.bZ h3 (eU fun (all_3:List (List Int)) (b_4:Int)=>⟨[(0,.b (.one (.sl 1 (home0.map eI)))),(5,.b (.row 101)),(6,I b_4)],[(101,.row 22 1 (all_3.map (eL 1 eI)))]⟩) [0,5,6] [101] rfl ?_)))
  rintro ⟨all_3,b_4⟩ o4 h5 hy6
  refine ab.seq (ab.seq (ab.aa ?_))
  refine Oc om (Oc om (Oc (av bR rfl (List.length_map _)) (Oc (aY rfl rfl) ?_)))
  refine af.ak ⟨[(0,_),(5,_),(6,_),(21,B (decide (b_4 < (home0.length:Int))))],[(101,_)]⟩ rfl (ab.ite h5 rfl (fun _ h5=>?_) (fun _ h5=>?_))
  ·refine ab.skip (Fin.ai ⟨[(0,_),(5,_),(6,_)],[(101,_)]⟩ rfl (Fin.then ?_))
   obtain ⟨v7,h8,h5⟩:=aP h5
   refine ab.ca (v:=v7) (fun (all_6:List (List Int))=>⟨[(0,.b (.one (.sl 1 (home0.map eI)))),(5,.b (.row 101)),(6,I b_4)],[(101,.row 22 1 (all_6.map (eL 1 eI)))]⟩) (fun z=>z) ?_ ?_
   ·refine ab.block (ab.seq (ab.aa ?_))
    refine Oc om (Oc om ?_)
    obtain ⟨x_7,e9,h8⟩:=aP h8
    refine Oc (an aQ (aL e9) (aB (e:=eI) e9) rfl rfl) (Oc (au aD rfl rfl) (Oc (gk rfl rfl) ?_))
    refine af.ak ⟨[(0,_),(5,_),(6,_),(28,B (decide (0 ≤ x_7)))],[(101,_)]⟩ rfl (ab.ite h8 rfl (fun _ h8=>?_) (fun _ h8=>?_))
    ·refine ab.aa (Oc om (Oc om (Oc (aO (k:=102) (es:=[b_4].map eI) aQ rfl rfl (bc fun _=>rfl) rfl (by decide) (by decide) rfl) ?_)))
     refine af.bg 102 rfl (af.ai ⟨[(0,.b (.one (.sl 1 (home0.map eI)))),(5,.b (.row 101)),(6,I b_4),(29,.b (.row 101)),(31,.b (.one (.sl 1 ([b_4].map eI))))],[(101,.row 22 1 (all_3.map (eL 1 eI)))]⟩ rfl (Oc (aO (k:=103) (es:=[[b_4]].map (eL 1 eI)) bY rfl rfl (bc fun _=>rfl) rfl (by decide) (by decide) rfl) ?_))
     obtain ⟨x_8,e10,h8⟩:=aP h8
     refine Oc (b4 bY (ec e10) (dZ e10) rfl rfl rfl rfl (cf e10) rfl) (Oc oa ?_)
     refine af.nil (Fin.ar ?_)
     exact Fin.join [0,5,6] [101] x_8 (Option.some.inj h8) rfl
    ·refine ab.skip (Fin.ar ?_)
     exact Fin.join [0,5,6] [101] all_3 (Option.some.inj h8) rfl
   ·rintro all_6 hv
    subst v7
    refine ab.aa (Oc om (Oc (bh rfl rfl) (Oc oa ?_)))
    refine af.nil ?_
    exact Fin.bp [0,5,6] [101] (all_6,IntKind.i64.wrap (b_4 + 1)) (Option.some.inj h5) rfl
  ·refine ab.exit (Fin.aq ?_)
   obtain rfl:=hy6 _ (Option.some.inj h5).symm
   refine Fin.aq (Fin.aE ?_)
   exact Fin.join [0,5] [101] all_3 rfl rfl
 ·rintro all_2 hv
  subst v2
  refine ab.seq (ab.aa ?_)
  refine Oc om (af.bg 101 rfl ?_)
  obtain ⟨x_9,e11,h⟩:=aP h
  refine Oc (bL (br 104 e11) k4 rfl trivial rfl rfl) (Oc oa ?_)
  refine af.ak ⟨[(0,.b (.one (.sl 1 (home0.map eI)))),(7,.b (.row 104))],[(104,.row 22 1 (x_9.map (eL 1 eI)))]⟩ rfl (ab.seq (ab.aa ?_))
  refine Oc oa (af.ak ⟨[(0,_),(7,_),(8,.b (.one (.nil)))],[(104,_)]⟩ rfl ?_)
  obtain ⟨v12,h13,h⟩:=aP h
  refine ab.ca (v:=v12) (fun (out_10:List Task)=>⟨[(8,.b (.row 117))],[(117,.row 59 3 (out_10.map ao))]⟩) (fun z=>z) ?_ ?_
  ·refine ab.seq (ab.aa ?_)
   refine Oc oa (af.ak ⟨[(0,_),(7,_),(8,_),(9,I 0)],[(104,_)]⟩ rfl (ab.block (ab.dc 8 117 3 59 rfl (by decide) rfl (ab.bZ h13 (eU fun (out_11:List Task) (i_12:Int)=>⟨[(0,.b (.one (.sl 1 (home0.map eI)))),(7,.b (.row 104)),(8,.b (.row 117)),(9,I i_12)],[(104,.row 22 1 (x_9.map (eL 1 eI))),(117,.row 59 3 (out_11.map ao))]⟩) [0,7,8,9] [104,117] rfl ?_))))
   rintro ⟨out_11,i_12⟩ o14 h15 hy16
   refine ab.seq (ab.seq (ab.aa ?_))
   refine Oc om (Oc om (Oc (fN jr rfl rfl (List.length_map _)) (Oc (aY rfl rfl) ?_)))
   refine af.ak ⟨[(0,_),(7,_),(8,_),(9,_),(39,B (decide (i_12 < (x_9.length:Int))))],[(104,_),(117,_)]⟩ rfl (ab.ite h15 rfl (fun _ h15=>?_) (fun _ h15=>?_))
   ·refine ab.skip (Fin.ai ⟨[(0,_),(7,_),(8,_),(9,_)],[(104,_),(117,_)]⟩ rfl (Fin.then ?_))
    obtain ⟨v17,h18,h15⟩:=aP h15
    refine ab.ca (v:=v17) (fun (out_14:List Task)=>⟨[(0,.b (.one (.sl 1 (home0.map eI)))),(7,.b (.row 104)),(8,.b (.row 117)),(9,I i_12)],[(104,.row 22 1 (x_9.map (eL 1 eI))),(117,.row 59 3 (out_14.map ao))]⟩) (fun z=>z) ?_ ?_
    ·refine ab.block (ab.seq (ab.aa ?_))
     refine Oc oa (af.ak ⟨[(0,_),(7,_),(8,_),(9,_),(10,.b (.one (.nil)))],[(104,_),(117,_)]⟩ rfl ?_)
     obtain ⟨v19,h20,h18⟩:=aP h18
     refine ab.ca (v:=v19) (fun (homes_15:List (List Int))=>⟨[(0,.b (.one (.sl 1 (home0.map eI)))),(7,.b (.row 104)),(8,.b (.row 117)),(9,I i_12),(10,.b (.row 120))],[(104,.row 22 1 (x_9.map (eL 1 eI))),(117,.row 59 3 (out_11.map ao)),(120,.row 22 1 (homes_15.map (eL 1 eI)))]⟩) (fun z=>z) ?_ ?_
     ·refine ab.seq (ab.aa ?_)
      refine Oc oa (af.ak ⟨[(0,_),(7,_),(8,_),(9,_),(10,_),(11,I 0)],[(104,_),(117,_)]⟩ rfl (ab.block (ab.dc 10 120 1 22 rfl (by decide) rfl (ab.bZ h20 (eU fun (homes_16:List (List Int)) (k_17:Int)=>⟨[(0,.b (.one (.sl 1 (home0.map eI)))),(7,.b (.row 104)),(8,.b (.row 117)),(9,I i_12),(10,.b (.row 120)),(11,I k_17)],[(104,.row 22 1 (x_9.map (eL 1 eI))),(117,.row 59 3 (out_11.map ao)),(120,.row 22 1 (homes_16.map (eL 1 eI)))]⟩) [0,7,8,9,10,11] [104,117,120] rfl ?_))))
      rintro ⟨homes_16,k_17⟩ o21 h22 hy23
      refine ab.seq (ab.seq (ab.aa ?_))
      refine Oc om (Oc om (Oc om ?_))
      obtain ⟨x_19,e24,h22⟩:=aP h22
      refine Oc (bq bY (aL e24) (dy e24) rfl rfl rfl rfl) (Oc (cS (i:=(i_12:Int).toNat) (f:=0) aN rfl rfl rfl (aB (e:=(eL 1 eI)) e24) rfl) (Oc (av bR rfl (List.length_map _)) (Oc (aY rfl rfl) ?_)))
      refine af.ak ⟨[(0,_),(7,_),(8,_),(9,_),(10,_),(11,_),(48,B (decide (k_17 < (x_19.length:Int))))],[(104,_),(117,_),(120,_)]⟩ rfl (ab.ite h22 rfl (fun _ h22=>?_) (fun _ h22=>?_))
      ·refine ab.skip (Fin.ai ⟨[(0,_),(7,_),(8,_),(9,_),(10,_),(11,_)],[(104,_),(117,_),(120,_)]⟩ rfl (Fin.then (ab.seq (ab.block (ab.aa ?_)))))
       refine Oc om (Oc om (Oc om (Oc om ?_)))
       obtain ⟨x_20,e25,h22⟩:=aP h22
       refine Oc (bq bY (aL e25) (dy e25) rfl rfl rfl rfl) (Oc (cS (i:=(i_12:Int).toNat) (f:=0) aN rfl rfl rfl (aB (e:=(eL 1 eI)) e25) rfl) (Oc om ?_))
       refine af.ai ⟨[(0,_),(7,_),(8,_),(9,_),(10,_),(11,_),(51,.b (.row 120)),(52,.b (.one (.sl 1 (home0.map eI)))),(56,.b (.one (.sl 1 (x_20.map eI)))),(57,I k_17)],[(104,_),(117,_),(120,_)]⟩ rfl ?_
       obtain ⟨x_21,e26,h22⟩:=aP h22
       refine Oc (an aQ (aL e26) (aB (e:=eI) e26) rfl rfl) (Oc (au aD rfl rfl) ?_)
       obtain ⟨x_22,e27,h22⟩:=aP h22
       refine Oc (an aQ (aL e27) (aB (e:=eI) e27) rfl rfl) (Oc (au aD rfl rfl) (Oc (aO (k:=121) (es:=[x_22].map eI) aQ rfl rfl (bc fun _=>rfl) rfl (by decide) (by decide) rfl) ?_))
       refine af.bg 121 rfl (af.ai ⟨[(0,.b (.one (.sl 1 (home0.map eI)))),(7,.b (.row 104)),(8,.b (.row 117)),(9,I i_12),(10,.b (.row 120)),(11,I k_17),(51,.b (.row 120)),(62,.b (.one (.sl 1 ([x_22].map eI))))],[(104,.row 22 1 (x_9.map (eL 1 eI))),(117,.row 59 3 (out_11.map ao)),(120,.row 22 1 (homes_16.map (eL 1 eI)))]⟩ rfl (Oc (aO (k:=122) (es:=[[x_22]].map (eL 1 eI)) bY rfl rfl (bc fun _=>rfl) rfl (by decide) (by decide) rfl) ?_))
       obtain ⟨x_23,e28,h22⟩:=aP h22
       refine Oc (b4 bY (ec e28) (dZ e28) rfl rfl rfl rfl (cf e28) rfl) (Oc oa ?_)
       refine af.nil (Fin.ar (Fin.ai ⟨[(0,_),(7,_),(8,_),(9,_),(10,_),(11,_)],[(104,_),(117,_),(120,.row 22 1 (x_23.map (eL 1 eI)))]⟩ rfl (Fin.then (ab.aa ?_))))
       refine Oc om (Oc (bh rfl rfl) (Oc oa ?_))
       refine af.nil ?_
       exact Fin.bp [0,7,8,9,10,11] [104,117,120] (x_23,IntKind.i64.wrap (k_17 + 1)) (Option.some.inj h22) rfl
      ·refine ab.exit (Fin.aq ?_)
       obtain rfl:=hy23 _ (Option.some.inj h22).symm
       refine Fin.aq (Fin.aE ?_)
       exact Fin.join [0,7,8,9,10] [104,117,120] homes_16 rfl rfl
     ·rintro homes_15 hv
      subst v19
      refine ab.seq (ab.aa ?_)
      refine Oc om (af.bg 120 rfl ?_)
      obtain ⟨x_24,e29,h18⟩:=aP h18
      refine Oc (bL (br 123 e29) k4 rfl trivial rfl rfl) (Oc oa ?_)
      refine af.ak ⟨[(0,.b (.one (.sl 1 (home0.map eI)))),(7,.b (.row 104)),(8,.b (.row 117)),(9,I i_12),(12,.b (.row 123))],[(104,.row 22 1 (x_9.map (eL 1 eI))),(117,.row 59 3 (out_11.map ao)),(123,.row 22 1 (x_24.map (eL 1 eI)))]⟩ rfl (ab.seq ?_)
      obtain ⟨x_25,e30,h18⟩:=aP h18
      obtain ⟨x_26,e31,h18⟩:=aP h18
      obtain ⟨x_27,e32,h18⟩:=aP h18
      refine ab.ff mixed [false,false,false,false,false,false,false,false,false,false,true,true] [.b (.row 123),.b (.eQ 123 ((0:Int).toNat * 1)),.b (.one (.sl 1 (x_25.map eI))),.b (.cx [.i x_26]),I x_26,.b (.row 104),I i_12,.b (.eQ 104 ((i_12:Int).toNat * 1)),.b (.one (.sl 1 (x_27.map eI))),.b (.agg [.i x_26,.sl 1 (x_27.map eI),.sl 1 ([].map eI)]),Pt 124 0,B true] [⟨[false,false,false,false,false,false,false,false,false,false,false,false],[(0,.b (.one (.sl 1 (home0.map eI)))),(7,.b (.row 104)),(8,.b (.row 117)),(9,I i_12),(12,.b (.row 123))],[(104,.row 22 1 (x_9.map (eL 1 eI))),(117,.row 59 3 (out_11.map ao)),(123,.row 22 1 (x_24.map (eL 1 eI)))],[true,true,true,true,true,true,true,true,true,true,true,true],[],[11]⟩,⟨[false,false,false,false,false,false,false,false,false,false,true,false],[(0,.b (.one (.sl 1 (home0.map eI)))),(7,.b (.row 104)),(8,.b (.row 117)),(9,I i_12),(12,.b (.row 123))],[(104,.row 22 1 (x_9.map (eL 1 eI))),(117,.row 59 3 (out_11.map ao)),(123,.row 22 1 (x_24.map (eL 1 eI))),(124,.box 59 [.i 0,.nil,.nil])],[true,true,true,true,true,true,true,true,true,true,true,true],[10],[]⟩,⟨[false,false,false,false,false,false,false,false,false,false,true,true],[(0,.b (.one (.sl 1 (home0.map eI)))),(7,.b (.row 104)),(8,.b (.row 117)),(9,I i_12),(12,.b (.row 123))],[(104,.row 22 1 (x_9.map (eL 1 eI))),(117,.row 59 3 (out_11.map ao)),(123,.row 22 1 (x_24.map (eL 1 eI))),(124,.box 59 [.i x_26,.sl 1 (x_27.map eI),.sl 1 ([].map eI)])],[true,true,true,true,true,true,true,true,true,true,true,true],[0,1,2,3,4,5,6,7,8,9,10,11],[]⟩] rfl (⟨by kernel_rfl,⟨⟨.b (.row 123),fun _=>rfl,fun _=>.p (by exact ax rfl)⟩,⟨.b (.eQ 123 ((0:Int).toNat * 1)),fun _=>rfl,fun _=>.p (by exact bq bY (aL e30) (dy e30) rfl rfl rfl rfl)⟩,⟨.b (.one (.sl 1 (x_25.map eI))),fun _=>rfl,fun _=>.p (by exact cS (i:=(0:Int).toNat) (f:=0) aN rfl rfl rfl (aB (e:=(eL 1 eI)) e30) rfl)⟩,⟨.b (.cx [.i x_26]),fun _=>rfl,fun _=>.p (by exact an aQ (aL e31) (aB (e:=eI) e31) rfl rfl)⟩,⟨I x_26,fun _=>rfl,fun _=>.p (by exact au aD rfl rfl)⟩,⟨.b (.row 104),fun _=>rfl,fun _=>.p (by exact ax rfl)⟩,⟨I i_12,fun _=>rfl,fun _=>.p (by exact ax rfl)⟩,⟨.b (.eQ 104 ((i_12:Int).toNat * 1)),fun _=>rfl,fun _=>.p (by exact bq bY (aL e32) (dy e32) rfl rfl rfl rfl)⟩,⟨.b (.one (.sl 1 (x_27.map eI))),fun _=>rfl,fun _=>.p (by exact cS (i:=(i_12:Int).toNat) (f:=0) aN rfl rfl rfl (aB (e:=(eL 1 eI)) e32) rfl)⟩,⟨.b (.agg [.i x_26,.sl 1 (x_27.map eI),.sl 1 ([].map eI)]),fun _=>rfl,fun _=>.p (by exact bD.jH (.same (.same (.sl (size:=1) (by decide) (.nil)))) (cc kO rfl rfl))⟩,⟨_,[124],Pt 124 0,rfl,fun _=>rfl,rfl,rfl,fun _=>.jG [104,117,123,124] (by exact .p (by exact cz (k:=124) ke rfl)) (by exact rfl)⟩,trivial,trivial⟩,⟨by kernel_rfl,⟨⟨.b (.row 123),fun _=>rfl,fun _=>.p (by exact ax rfl)⟩,⟨.b (.eQ 123 ((0:Int).toNat * 1)),fun _=>rfl,fun _=>.p (by exact bq bY (aL e30) (dy e30) rfl rfl rfl rfl)⟩,⟨.b (.one (.sl 1 (x_25.map eI))),fun _=>rfl,fun _=>.p (by exact cS (i:=(0:Int).toNat) (f:=0) aN rfl rfl rfl (aB (e:=(eL 1 eI)) e30) rfl)⟩,⟨.b (.cx [.i x_26]),fun _=>rfl,fun _=>.p (by exact an aQ (aL e31) (aB (e:=eI) e31) rfl rfl)⟩,⟨I x_26,fun _=>rfl,fun _=>.p (by exact au aD rfl rfl)⟩,⟨.b (.row 104),fun _=>rfl,fun _=>.p (by exact ax rfl)⟩,⟨I i_12,fun _=>rfl,fun _=>.p (by exact ax rfl)⟩,⟨.b (.eQ 104 ((i_12:Int).toNat * 1)),fun _=>rfl,fun _=>.p (by exact bq bY (aL e32) (dy e32) rfl rfl rfl rfl)⟩,⟨.b (.one (.sl 1 (x_27.map eI))),fun _=>rfl,fun _=>.p (by exact cS (i:=(i_12:Int).toNat) (f:=0) aN rfl rfl rfl (aB (e:=(eL 1 eI)) e32) rfl)⟩,⟨.b (.agg [.i x_26,.sl 1 (x_27.map eI),.sl 1 ([].map eI)]),fun _=>rfl,fun _=>.p (by exact bD.jH (.same (.same (.sl (size:=1) (by decide) (.nil)))) (cc kO rfl rfl))⟩,trivial,⟨_,[],.b (.one .any),rfl,(fun e=>by simp at e),rfl,rfl,fun _=>.jG [104,117,123,124] (by exact .p (by exact aR fR rfl rfl rfl rfl (Nat.le_of_ble_eq_true rfl) rfl)) (by exact rfl)⟩,trivial⟩,⟨by kernel_rfl,⟨trivial,trivial,trivial,trivial,trivial,trivial,trivial,trivial,trivial,trivial,trivial,trivial,trivial⟩,trivial⟩⟩⟩) rfl rfl rfl [0,7,8,9,12,13] [104,117,123,124] (s':=⟨[(0,_),(7,_),(8,_),(9,_),(12,_),(13,Pt 124 0)],[(104,_),(117,_),(123,_),(124,.box 59 [.i x_26,.sl 1 (x_27.map eI),.sl 1 ([].map eI)])]⟩) rfl ?_
      obtain ⟨v33,h34,h18⟩:=aP h18
      refine ab.ca (v:=v33) (fun (t_28:Task)=>⟨[(0,.b (.one (.sl 1 (home0.map eI)))),(7,.b (.row 104)),(8,.b (.row 117)),(9,I i_12),(13,Pt 124 0)],[(104,.row 22 1 (x_9.map (eL 1 eI))),(117,.row 59 3 (out_11.map ao)),(124,.box 59 (ao t_28))]⟩) (fun z=>z) ?_ ?_
      ·refine ab.seq (ab.aa ?_)
       refine Oc oa (af.ak ⟨[(0,_),(7,_),(8,_),(9,_),(12,_),(13,_),(14,I 1)],[(104,_),(117,_),(123,_),(124,_)]⟩ rfl (ab.block (ab.bZ h34 (eU fun (t_29:Task) (k_30:Int)=>⟨[(0,.b (.one (.sl 1 (home0.map eI)))),(7,.b (.row 104)),(8,.b (.row 117)),(9,I i_12),(12,.b (.row 123)),(13,Pt 124 0),(14,I k_30)],[(104,.row 22 1 (x_9.map (eL 1 eI))),(117,.row 59 3 (out_11.map ao)),(123,.row 22 1 (x_24.map (eL 1 eI))),(124,.box 59 (ao t_29))]⟩) [0,7,8,9,12,13,14] [104,117,123,124] rfl ?_)))
       rintro ⟨t_29,k_30⟩ o35 h36 hy37
       refine ab.seq (ab.seq (ab.aa ?_))
       refine Oc om (Oc om (Oc (fN jr rfl rfl (List.length_map _)) (Oc (aY rfl rfl) ?_)))
       refine af.ak ⟨[(0,_),(7,_),(8,_),(9,_),(12,_),(13,_),(14,_),(80,B (decide (k_30 < (x_24.length:Int))))],[(104,_),(117,_),(123,_),(124,_)]⟩ rfl (ab.ite h36 rfl (fun _ h36=>?_) (fun _ h36=>?_))
       ·refine ab.skip (Fin.ai ⟨[(0,_),(7,_),(8,_),(9,_),(12,_),(13,_),(14,_)],[(104,_),(117,_),(123,_),(124,_)]⟩ rfl (Fin.then (ab.seq (ab.block ?_))))
        refine ab.ai ⟨[(0,_),(7,_),(8,_),(9,_),(12,_),(13,_),(14,_)],[(104,_),(117,_),(123,_),(124,_)]⟩ rfl ?_
        obtain ⟨x_32,e38,h36⟩:=aP h36
        obtain ⟨x_33,e39,h36⟩:=aP h36
        obtain ⟨x_34,e40,h36⟩:=aP h36
        obtain ⟨x_35,e41,h36⟩:=aP h36
        refine ab.nJ mixed [true,false,false,true,false,false,false,false,false,false,false,true,false,true] [.b (.row 125),Pt 124 2,.b (.one (.sl 1 (t_29.Helpers.map eI))),.b (.row 126),.b (.row 123),I k_30,.b (.eQ 123 ((k_30:Int).toNat * 1)),.b (.one (.sl 1 (x_33.map eI))),.b (.cx [.i x_34]),I x_34,.b (.one (.sl 1 ([x_34].map eI))),.b (.one (.sl 1 (x_35.map eI))),Pt 124 2,B true] [⟨[false,false,false,false,false,false,false,false,false,false,false,false,false,false],[(0,.b (.one (.sl 1 (home0.map eI)))),(7,.b (.row 104)),(8,.b (.row 117)),(9,I i_12),(12,.b (.row 123)),(13,Pt 124 0),(14,I k_30)],[(104,.row 22 1 (x_9.map (eL 1 eI))),(117,.row 59 3 (out_11.map ao)),(123,.row 22 1 (x_24.map (eL 1 eI))),(124,.box 59 (ao t_29))],[true,true,true,true,true,true,true,true,true,true,true,true,true,true],[],[3,11,12,13]⟩,⟨[true,false,false,false,false,false,false,false,false,false,false,false,false,false],[(0,.b (.one (.sl 1 (home0.map eI)))),(7,.b (.row 104)),(8,.b (.row 117)),(9,I i_12),(12,.b (.row 123)),(13,Pt 124 0),(14,I k_30)],[(104,.row 22 1 (x_9.map (eL 1 eI))),(117,.row 59 3 (out_11.map ao)),(123,.row 22 1 (x_24.map (eL 1 eI))),(124,.box 59 (ao t_29)),(125,.row 3 1 ([].map eI))],[true,true,true,true,true,true,true,true,true,true,true,true,true,true],[0],[11,12,13]⟩,⟨[true,false,false,true,false,false,false,false,false,false,false,false,false,false],[(0,.b (.one (.sl 1 (home0.map eI)))),(7,.b (.row 104)),(8,.b (.row 117)),(9,I i_12),(12,.b (.row 123)),(13,Pt 124 0),(14,I k_30)],[(104,.row 22 1 (x_9.map (eL 1 eI))),(117,.row 59 3 (out_11.map ao)),(123,.row 22 1 (x_24.map (eL 1 eI))),(124,.box 59 (ao t_29)),(126,.row 3 1 (x_32.map eI))],[true,true,true,true,true,true,true,true,true,true,true,true,true,true],[0,1,2,3],[12,13]⟩,⟨[true,false,false,true,false,false,false,false,false,false,false,true,false,false],[(0,.b (.one (.sl 1 (home0.map eI)))),(7,.b (.row 104)),(8,.b (.row 117)),(9,I i_12),(12,.b (.row 123)),(13,Pt 124 0),(14,I k_30)],[(104,.row 22 1 (x_9.map (eL 1 eI))),(117,.row 59 3 (out_11.map ao)),(123,.row 22 1 (x_24.map (eL 1 eI))),(124,.box 59 (ao t_29))],[true,true,true,true,true,true,true,true,true,true,true,true,true,true],[0,1,2,3,4,5,6,7,8,9,10,11],[]⟩,⟨[true,false,false,true,false,false,false,false,false,false,false,true,false,true],[(0,.b (.one (.sl 1 (home0.map eI)))),(7,.b (.row 104)),(8,.b (.row 117)),(9,I i_12),(12,.b (.row 123)),(13,Pt 124 0),(14,I k_30)],[(104,.row 22 1 (x_9.map (eL 1 eI))),(117,.row 59 3 (out_11.map ao)),(123,.row 22 1 (x_24.map (eL 1 eI))),(124,.box 59 [.i t_29.Owner,.sl 1 (t_29.Bodies.map eI),.sl 1 (x_35.map eI)])],[true,true,true,true,true,true,true,true,true,true,true,true,true,true],[0,1,2,3,4,5,6,7,8,9,10,11,12,13],[]⟩] rfl (⟨by kernel_rfl,⟨⟨_,[125],.b (.row 125),rfl,fun _=>rfl,rfl,rfl,fun _=>.jG [104,117,123,124,125] (by exact .p (by exact iB (k:=125) aQ rfl)) (by exact rfl)⟩,⟨Pt 124 2,fun _=>rfl,fun _=>.p (by exact ae iy rfl rfl)⟩,⟨.b (.one (.sl 1 (t_29.Helpers.map eI))),fun _=>rfl,fun _=>.p (by exact ag aN rfl rfl rfl)⟩,trivial,⟨.b (.row 123),fun _=>rfl,fun _=>.p (by exact ax rfl)⟩,⟨I k_30,fun _=>rfl,fun _=>.p (by exact ax rfl)⟩,⟨.b (.eQ 123 ((k_30:Int).toNat * 1)),fun _=>rfl,fun _=>.p (by exact bq bY (aL e39) (dy e39) rfl rfl rfl rfl)⟩,⟨.b (.one (.sl 1 (x_33.map eI))),fun _=>rfl,fun _=>.p (by exact cS (i:=(k_30:Int).toNat) (f:=0) aN rfl rfl rfl (aB (e:=(eL 1 eI)) e39) rfl)⟩,⟨.b (.cx [.i x_34]),fun _=>rfl,fun _=>.p (by exact an aQ (aL e40) (aB (e:=eI) e40) rfl rfl)⟩,⟨I x_34,fun _=>rfl,fun _=>.p (by exact au aD rfl rfl)⟩,⟨.b (.one (.sl 1 ([x_34].map eI))),fun _=>rfl,fun _=>.p (by exact cg (es:=[x_34].map eI) aQ rfl rfl (bc fun _=>rfl) rfl (by decide) (by decide))⟩,trivial,trivial,trivial,trivial⟩,⟨by kernel_rfl,⟨trivial,⟨Pt 124 2,fun _=>rfl,fun _=>.p (by exact ae iy rfl rfl)⟩,⟨.b (.one (.sl 1 (t_29.Helpers.map eI))),fun _=>rfl,fun _=>.p (by exact ag aN rfl rfl rfl)⟩,⟨_,[126],.b (.row 126),rfl,fun _=>rfl,rfl,rfl,fun _=>.jG [104,117,123,124,126] (by exact .p (by exact jz (k2:=126) aQ (ec e38) (dZ e38) rfl rfl rfl (cf e38) rfl rfl rfl rfl rfl)) (by exact rfl)⟩,⟨.b (.row 123),fun _=>rfl,fun _=>.p (by exact ax rfl)⟩,⟨I k_30,fun _=>rfl,fun _=>.p (by exact ax rfl)⟩,⟨.b (.eQ 123 ((k_30:Int).toNat * 1)),fun _=>rfl,fun _=>.p (by exact bq bY (aL e39) (dy e39) rfl rfl rfl rfl)⟩,⟨.b (.one (.sl 1 (x_33.map eI))),fun _=>rfl,fun _=>.p (by exact cS (i:=(k_30:Int).toNat) (f:=0) aN rfl rfl rfl (aB (e:=(eL 1 eI)) e39) rfl)⟩,⟨.b (.cx [.i x_34]),fun _=>rfl,fun _=>.p (by exact an aQ (aL e40) (aB (e:=eI) e40) rfl rfl)⟩,⟨I x_34,fun _=>rfl,fun _=>.p (by exact au aD rfl rfl)⟩,⟨.b (.one (.sl 1 ([x_34].map eI))),fun _=>rfl,fun _=>.p (by exact cg (es:=[x_34].map eI) aQ rfl rfl (bc fun _=>rfl) rfl (by decide) (by decide))⟩,trivial,trivial,trivial,trivial⟩,⟨by kernel_rfl,⟨trivial,trivial,trivial,trivial,⟨.b (.row 123),fun _=>rfl,fun _=>.p (by exact ax rfl)⟩,⟨I k_30,fun _=>rfl,fun _=>.p (by exact ax rfl)⟩,⟨.b (.eQ 123 ((k_30:Int).toNat * 1)),fun _=>rfl,fun _=>.p (by exact bq bY (aL e39) (dy e39) rfl rfl rfl rfl)⟩,⟨.b (.one (.sl 1 (x_33.map eI))),fun _=>rfl,fun _=>.p (by exact cS (i:=(k_30:Int).toNat) (f:=0) aN rfl rfl rfl (aB (e:=(eL 1 eI)) e39) rfl)⟩,⟨.b (.cx [.i x_34]),fun _=>rfl,fun _=>.p (by exact an aQ (aL e40) (aB (e:=eI) e40) rfl rfl)⟩,⟨I x_34,fun _=>rfl,fun _=>.p (by exact au aD rfl rfl)⟩,⟨.b (.one (.sl 1 ([x_34].map eI))),fun _=>rfl,fun _=>.p (by exact cg (es:=[x_34].map eI) aQ rfl rfl (bc fun _=>rfl) rfl (by decide) (by decide))⟩,⟨_,[128],.b (.one (.sl 1 (x_35.map eI))),rfl,fun _=>rfl,rfl,rfl,fun _=>.jG [104,117,123,124] (by exact .p (by exact bD.qG 128 (jz (k2:=128) aQ (ec e41) (dZ e41) rfl rfl rfl (cf e41) rfl rfl rfl rfl rfl) rfl)) (by exact rfl)⟩,trivial,trivial,trivial⟩,⟨by kernel_rfl,⟨trivial,trivial,trivial,trivial,trivial,trivial,trivial,trivial,trivial,trivial,trivial,trivial,⟨Pt 124 2,fun _=>rfl,fun _=>.p (by exact ae iy rfl rfl)⟩,⟨_,[],.b (.one .any),rfl,(fun e=>by simp at e),rfl,rfl,fun _=>.jG [104,117,123,124] (by exact .p (by exact ew aN rfl rfl rfl (Nat.le_of_ble_eq_true rfl) rfl)) (by exact rfl)⟩,trivial⟩,⟨by kernel_rfl,⟨trivial,trivial,trivial,trivial,trivial,trivial,trivial,trivial,trivial,trivial,trivial,trivial,trivial,trivial,trivial⟩,trivial⟩⟩⟩⟩⟩) rfl rfl rfl [0,7,8,9,12,13,14] [104,117,123,124] (s':=⟨[(0,_),(7,_),(8,_),(9,_),(12,_),(13,_),(14,_)],[(104,_),(117,_),(123,_),(124,.box 59 [.i t_29.Owner,.sl 1 (t_29.Bodies.map eI),.sl 1 (x_35.map eI)])]⟩) rfl ?_
        refine Fin.ar (Fin.ai ⟨[(0,_),(7,_),(8,_),(9,_),(12,_),(13,_),(14,_)],[(104,_),(117,_),(123,_),(124,_)]⟩ rfl (Fin.then (ab.aa ?_)))
        refine Oc om (Oc (bh rfl rfl) (Oc oa ?_))
        refine af.nil ?_
        exact Fin.bp [0,7,8,9,12,13,14] [104,117,123,124] ((⟨t_29.Owner,t_29.Bodies,x_35⟩:Task),IntKind.i64.wrap (k_30 + 1)) (Option.some.inj h36) rfl
       ·refine ab.exit (Fin.aq ?_)
        obtain rfl:=hy37 _ (Option.some.inj h36).symm
        refine Fin.aq (Fin.aE ?_)
        exact Fin.join [0,7,8,9,13] [104,117,124] t_29 rfl rfl
      ·rintro t_28 hv
       subst v33
       refine ab.aa (Oc om (Oc (lp fR) (Oc (aO (k:=129) (es:=[t_28].map ao) fF rfl rfl (bc fun _=>rfl) rfl (by decide) (by decide) rfl) ?_)))
       obtain ⟨x_36,e42,h18⟩:=aP h18
       refine Oc (b4 fF (ec e42) (dZ e42) rfl rfl rfl rfl (cf e42) rfl) (Oc oa ?_)
       refine af.nil (Fin.ar ?_)
       exact Fin.join [0,7,8,9] [104,117] x_36 (Option.some.inj h18) rfl
    ·rintro out_14 hv
     subst v17
     refine ab.aa (Oc om (Oc (bh rfl rfl) (Oc oa ?_)))
     refine af.nil ?_
     exact Fin.bp [0,7,8,9] [104,117] (out_14,IntKind.i64.wrap (i_12 + 1)) (Option.some.inj h15) rfl
   ·refine ab.exit (Fin.aq ?_)
    obtain rfl:=hy16 _ (Option.some.inj h15).symm
    refine Fin.aq (Fin.aE ?_)
    exact Fin.join [8] [117] out_11 rfl rfl
  ·rintro out_10 hv
   subst v12
   refine ab.seq (ab.aa ?_)
   refine Oc om (Oc oa ?_)
   refine af.ak ⟨[(4,.b (.row 117))],[(117,_)]⟩ rfl (ab.ret ?_)
   obtain rfl:=Option.some.inj h
   refine Fin.ai ⟨[(4,_)],[(117,_)]⟩ rfl (Fin.dD 117 kr0 [.row 117] (.inl rfl) rfl (.cons (.tmp rfl) .nil) rfl rfl rfl rfl ⟨rfl,rfl⟩)
def cj (F:Nat) (home0:List Int) (l0:List Int) (region0:Int):Option (List Int) :=
 Option.bind (iter F (eU fun out_2 i_3=>if (decide (i_3 < (l0.length:Int))) = true then (Option.bind ((aV l0 i_3).bind fun x_6=>(aV home0 x_6).bind fun x_7=>if (decide (x_7 = region0)) = true then ((aV l0 i_3).bind fun x_8=>(eF out_2 [x_8]).bind fun x_9=>some x_9) else (some out_2)) (fun out_5=>some (.inl (out_5,IntKind.i64.wrap (i_3 + 1))))) else (some (.inr out_2))) ([],0)) (fun out_1=>some out_1)
theorem fD (kr0:Nat) {F:Nat} {home0:List Int} {l0:List Int} {region0:Int} {r:(List Int)} (h:cj F home0 l0 region0 = some r):aA Try.prog [] 60 [] [.one (.sl 1 (home0.map eI)),.one (.sl 1 (l0.map eI)),.one (.i region0)] (Is [(kr0,.row 3 1 (r.map eI))] (.b (.row kr0))):=by
 unfold cj at h
 refine aA.intro 32 Try.func60 Try.ntmps60 rfl (by simp) fun E=>?_
 show ab _ E ⟨32,[],[],[]⟩ _ ⟨[(0,.b (.one (.sl 1 (home0.map eI)))),(1,.b (.one (.sl 1 (l0.map eI)))),(2,I region0)],[]⟩ _
 refine ab.seq (ab.aa ?_)
 refine Oc oa (af.ak ⟨[(0,.b (.one (.sl 1 (home0.map eI)))),(1,.b (.one (.sl 1 (l0.map eI)))),(2,I region0)],[]⟩ rfl (ab.seq (ab.aa ?_)))
 refine Oc oa (af.ak ⟨[(0,_),(1,_),(2,_),(7,.b (.one (.nil)))],[]⟩ rfl ?_)
 obtain ⟨v1,h2,h⟩:=aP h
 refine ab.ca (v:=v1) (fun (out_1:List Int)=>⟨[(7,.b (.row 102))],[(102,.row 3 1 (out_1.map eI))]⟩) (fun z=>z) ?_ ?_
 ·refine ab.seq (ab.aa ?_)
  refine Oc oa (af.ak ⟨[(0,_),(1,_),(2,_),(7,_),(8,I 0)],[]⟩ rfl (ab.block (ab.dc 7 102 1 3 rfl (by decide) rfl (ab.bZ h2 (eU fun (out_2:List Int) (i_3:Int)=>⟨[(0,.b (.one (.sl 1 (home0.map eI)))),(1,.b (.one (.sl 1 (l0.map eI)))),(2,I region0),(7,.b (.row 102)),(8,I i_3)],[(102,.row 3 1 (out_2.map eI))]⟩) [0,1,2,7,8] [102] rfl ?_))))
  rintro ⟨out_2,i_3⟩ o3 h4 hy5
  refine ab.seq (ab.seq (ab.aa ?_))
  refine Oc om (Oc om (Oc (av bR rfl (List.length_map _)) (Oc (aY rfl rfl) ?_)))
  refine af.ak ⟨[(0,_),(1,_),(2,_),(7,_),(8,_),(12,B (decide (i_3 < (l0.length:Int))))],[(102,_)]⟩ rfl (ab.ite h4 rfl (fun _ h4=>?_) (fun _ h4=>?_))
  ·refine ab.skip (Fin.ai ⟨[(0,_),(1,_),(2,_),(7,_),(8,_)],[(102,_)]⟩ rfl (Fin.then ?_))
   obtain ⟨v6,h7,h4⟩:=aP h4
   refine ab.ca (v:=v6) (fun (out_5:List Int)=>⟨[(0,.b (.one (.sl 1 (home0.map eI)))),(1,.b (.one (.sl 1 (l0.map eI)))),(2,I region0),(7,.b (.row 102)),(8,I i_3)],[(102,.row 3 1 (out_5.map eI))]⟩) (fun z=>z) ?_ ?_
   ·refine ab.block (ab.seq (ab.aa ?_))
    refine Oc om (Oc om (Oc om ?_))
    obtain ⟨x_6,e8,h7⟩:=aP h7
    refine Oc (an aQ (aL e8) (aB (e:=eI) e8) rfl rfl) (Oc (au aD rfl rfl) ?_)
    obtain ⟨x_7,e9,h7⟩:=aP h7
    refine Oc (an aQ (aL e9) (aB (e:=eI) e9) rfl rfl) (Oc (au aD rfl rfl) (Oc om (Oc (di rfl rfl) ?_)))
    refine af.ak ⟨[(0,_),(1,_),(2,_),(7,_),(8,_),(23,B (decide (x_7 = region0)))],[(102,_)]⟩ rfl (ab.ite h7 rfl (fun _ h7=>?_) (fun _ h7=>?_))
    ·refine ab.aa (Oc om (Oc om (Oc om ?_)))
     obtain ⟨x_8,e10,h7⟩:=aP h7
     refine Oc (an aQ (aL e10) (aB (e:=eI) e10) rfl rfl) (Oc (au aD rfl rfl) (Oc (aO (k:=103) (es:=[x_8].map eI) aQ rfl rfl (bc fun _=>rfl) rfl (by decide) (by decide) rfl) ?_))
     obtain ⟨x_9,e11,h7⟩:=aP h7
     refine Oc (b4 aQ (ec e11) (dZ e11) rfl rfl rfl rfl (cf e11) rfl) (Oc oa ?_)
     refine af.nil (Fin.ar ?_)
     exact Fin.join [0,1,2,7,8] [102] x_9 (Option.some.inj h7) rfl
    ·refine ab.skip (Fin.ar ?_)
     exact Fin.join [0,1,2,7,8] [102] out_2 (Option.some.inj h7) rfl
   ·rintro out_5 hv
    subst v6
    refine ab.aa (Oc om (Oc (bh rfl rfl) (Oc oa ?_)))
    refine af.nil ?_
    exact Fin.bp [0,1,2,7,8] [102] (out_5,IntKind.i64.wrap (i_3 + 1)) (Option.some.inj h4) rfl
  ·refine ab.exit (Fin.aq ?_)
   obtain rfl:=hy5 _ (Option.some.inj h4).symm
   refine Fin.aq (Fin.aE ?_)
   exact Fin.join [7] [102] out_2 rfl rfl
 ·rintro out_1 hv
  subst v1
  refine ab.seq (ab.aa ?_)
  refine Oc om (Oc oa ?_)
  refine af.ak ⟨[(6,.b (.row 102))],[(102,_)]⟩ rfl (ab.ret ?_)
  obtain rfl:=Option.some.inj h
  refine Fin.ai ⟨[(6,_)],[(102,_)]⟩ rfl (Fin.dD 102 kr0 [.row 102] (.inl rfl) rfl (.cons (.tmp rfl) .nil) rfl rfl rfl rfl ⟨rfl,rfl⟩)
def cb (F:Nat) (states0:List de) (l0:List Int):Option (List de) :=
 Option.bind (iter F (eU fun out_2 i_3=>if (decide (i_3 < (l0.length:Int))) = true then ((aV l0 i_3).bind fun x_5=>(aV states0 x_5).bind fun x_6=>(eF out_2 [x_6]).bind fun x_7=>some (.inl (x_7,IntKind.i64.wrap (i_3 + 1)))) else (some (.inr out_2))) ([],0)) (fun out_1=>some out_1)
theorem fH (kr0:Nat) {F:Nat} {states0:List de} {l0:List Int} {r:(List de)} (h:cb F states0 l0 = some r):aA Try.prog [] 61 [] [.one (.sl 1 (states0.map eS)),.one (.sl 1 (l0.map eI))] (Is [(kr0,.row 9 1 (r.map eS))] (.b (.row kr0))):=by
 unfold cb at h
 refine aA.intro 24 Try.func61 Try.ntmps61 rfl (by simp) fun E=>?_
 show ab _ E ⟨24,[],[],[]⟩ _ ⟨[(0,.b (.one (.sl 1 (states0.map eS)))),(1,.b (.one (.sl 1 (l0.map eI))))],[]⟩ _
 refine ab.seq (ab.aa ?_)
 refine Oc oa (af.ak ⟨[(0,.b (.one (.sl 1 (states0.map eS)))),(1,.b (.one (.sl 1 (l0.map eI))))],[]⟩ rfl (ab.seq (ab.aa ?_)))
 refine Oc oa (af.ak ⟨[(0,_),(1,_),(5,.b (.one (.nil)))],[]⟩ rfl ?_)
 obtain ⟨v1,h2,h⟩:=aP h
 refine ab.ca (v:=v1) (fun (out_1:List de)=>⟨[(5,.b (.row 102))],[(102,.row 9 1 (out_1.map eS))]⟩) (fun z=>z) ?_ ?_
 ·refine ab.seq (ab.aa ?_)
  refine Oc oa (af.ak ⟨[(0,_),(1,_),(5,_),(6,I 0)],[]⟩ rfl (ab.block (ab.dc 5 102 1 9 rfl (by decide) rfl (ab.bZ h2 (eU fun (out_2:List de) (i_3:Int)=>⟨[(0,.b (.one (.sl 1 (states0.map eS)))),(1,.b (.one (.sl 1 (l0.map eI)))),(5,.b (.row 102)),(6,I i_3)],[(102,.row 9 1 (out_2.map eS))]⟩) [0,1,5,6] [102] rfl ?_))))
  rintro ⟨out_2,i_3⟩ o3 h4 hy5
  refine ab.seq (ab.seq (ab.aa ?_))
  refine Oc om (Oc om (Oc (av bR rfl (List.length_map _)) (Oc (aY rfl rfl) ?_)))
  refine af.ak ⟨[(0,_),(1,_),(5,_),(6,_),(10,B (decide (i_3 < (l0.length:Int))))],[(102,_)]⟩ rfl (ab.ite h4 rfl (fun _ h4=>?_) (fun _ h4=>?_))
  ·refine ab.skip (Fin.ai ⟨[(0,_),(1,_),(5,_),(6,_)],[(102,_)]⟩ rfl (Fin.then (ab.seq (ab.block (ab.aa ?_)))))
   refine Oc om (Oc om (Oc om (Oc om ?_)))
   obtain ⟨x_5,e6,h4⟩:=aP h4
   refine Oc (an aQ (aL e6) (aB (e:=eI) e6) rfl rfl) (Oc (au aD rfl rfl) ?_)
   obtain ⟨x_6,e7,h4⟩:=aP h4
   refine Oc (an cw (aL e7) (aB (e:=eS) e7) rfl rfl) (af.ai ⟨[(0,_),(1,_),(5,_),(6,_),(13,.b (.row 102)),(19,.b (.cx [.str x_6]))],[(102,_)]⟩ rfl (Oc (au fG rfl rfl) (Oc (aO (k:=103) (es:=[x_6].map eS) cw rfl rfl (bc fun _=>rfl) rfl (by decide) (by decide) rfl) ?_)))
   obtain ⟨x_7,e8,h4⟩:=aP h4
   refine Oc (b4 cw (ec e8) (dZ e8) rfl rfl rfl rfl (cf e8) rfl) (Oc oa ?_)
   refine af.nil (Fin.ar (Fin.ai ⟨[(0,_),(1,_),(5,_),(6,_)],[(102,.row 9 1 (x_7.map eS))]⟩ rfl (Fin.then (ab.aa ?_))))
   refine Oc om (Oc (bh rfl rfl) (Oc oa ?_))
   refine af.nil ?_
   exact Fin.bp [0,1,5,6] [102] (x_7,IntKind.i64.wrap (i_3 + 1)) (Option.some.inj h4) rfl
  ·refine ab.exit (Fin.aq ?_)
   obtain rfl:=hy5 _ (Option.some.inj h4).symm
   refine Fin.aq (Fin.aE ?_)
   exact Fin.join [5] [102] out_2 rfl rfl
 ·rintro out_1 hv
  subst v1
  refine ab.seq (ab.aa ?_)
  refine Oc om (Oc oa ?_)
  refine af.ak ⟨[(4,.b (.row 102))],[(102,_)]⟩ rfl (ab.ret ?_)
  obtain rfl:=Option.some.inj h
  refine Fin.ai ⟨[(4,_)],[(102,_)]⟩ rfl (Fin.dD 102 kr0 [.row 102] (.inl rfl) rfl (.cons (.tmp rfl) .nil) rfl rfl rfl rfl ⟨rfl,rfl⟩)
def cC (F:Nat) (r0:Round):Option Step :=
 (cM F r0.Home r0.Sets).bind fun x_1=>Option.bind (mk? (false:Bool) (x_1.length:Int) (x_1.length:Int)) (fun x_2=>Option.bind (iter F (eU fun out_4 i_5=>if (decide (i_5 < (x_1.length:Int))) = true then (Option.bind ((aV x_1 i_5).bind fun x_8=>(cj F r0.Home x_8.Bodies r0.Me).bind fun x_9=>bu ((decide (x_8.Owner ≠ r0.Me)) && (decide (0 < (x_9.length:Int)))) fun x_10=>if x_10 = true then ((cb F r0.States x_9).bind fun x_11=>(eF out_4 [(⟨2,r0.Step,r0.Me,x_8.Owner,[],x_9,x_11⟩:aI)]).bind fun x_12=>some x_12) else (some out_4)) (fun out_7=>some (.inl (out_7,IntKind.i64.wrap (i_5 + 1))))) else (some (.inr out_4))) ([],0)) (fun out_3=>bu (⟨r0.Me,r0.Regions,r0.Step,r0.Home,r0.Heard,r0.Sets,r0.States,x_1,x_2,r0.Results⟩:Round) fun x_13=>some (⟨x_13,out_3,0⟩:Step)))
theorem jm {F:Nat} {r0:Round} {r:Step} (h:cC F r0 = some r):aA Try.prog [] 46 [] [.agg (ay r0)] (Is [] (.b (.agg (gj r)))):=by
 unfold cC at h
 refine aA.intro 65 Try.func46 Try.ntmps46 rfl (by simp) fun E=>?_
 show ab _ E ⟨65,[],[],[]⟩ _ ⟨[(0,.b (.agg (ay r0)))],[]⟩ _
 refine ab.seq (ab.aa ?_)
 refine Oc (fv (k:=101) rfl rfl) (Oc (cz (k:=102) mB rfl) ?_)
 refine af.ak ⟨[(1,Pt 101 0),(2,Pt 102 0)],[(101,.box 31 (ay r0)),(102,.box 37 [.i 0,.i 0,.i 0,.nil,.nil,.nil,.nil,.nil,.nil,.nil,.nil,.i 0])]⟩ rfl (ab.seq (ab.aa ?_))
 refine Oc (ae dF rfl rfl) (Oc (ag aN rfl rfl rfl) (Oc (ae gp rfl rfl) (Oc (ag dT rfl rfl rfl) ?_)))
 obtain ⟨x_1,e1,h⟩:=aP h
 refine Oc (bL (mc 103 e1) goes84 rfl trivial rfl rfl) (Oc (ae c9 rfl rfl) ?_)
 refine af.bg 103 rfl (Oc (ew ey rfl rfl rfl (Nat.le_of_ble_eq_true rfl) rfl) (af.ak ⟨[(1,Pt 101 0),(2,Pt 102 0)],[(101,.box 31 [.i r0.Me,.i r0.Regions,.i r0.Step,.sl 1 (r0.Home.map eI),.sl 1 (r0.Heard.map eB),.sl 1 (r0.Sets.map (eL 1 eI)),.sl 1 (r0.States.map eS),.sl 3 (x_1.map ao),.sl 1 (r0.Done.map eB),.sl 1 (r0.Results.map eS)]),(102,.box 37 [.i 0,.i 0,.i 0,.nil,.nil,.nil,.nil,.nil,.nil,.nil,.nil,.i 0])]⟩ rfl (ab.seq (ab.aa ?_))))
 refine Oc (ae c9 rfl rfl) (Oc (ag ey rfl rfl rfl) (Oc (av kW rfl (List.length_map _)) ?_))
 obtain ⟨x_2,e2,h⟩:=aP h
 refine Oc (cA (k:=104) (enc:=eB) dK e2 (by decide) (.cons .refl .nil) rfl rfl rfl) (Oc (ae eG rfl rfl) ?_)
 refine af.bg 104 rfl (Oc (ew dd rfl rfl rfl (Nat.le_of_ble_eq_true rfl) rfl) (af.ak ⟨[(1,Pt 101 0),(2,Pt 102 0)],[(101,.box 31 [.i r0.Me,.i r0.Regions,.i r0.Step,.sl 1 (r0.Home.map eI),.sl 1 (r0.Heard.map eB),.sl 1 (r0.Sets.map (eL 1 eI)),.sl 1 (r0.States.map eS),.sl 3 (x_1.map ao),.sl 1 (x_2.map eB),.sl 1 (r0.Results.map eS)]),(102,.box 37 [.i 0,.i 0,.i 0,.nil,.nil,.nil,.nil,.nil,.nil,.nil,.nil,.i 0])]⟩ rfl (ab.seq (ab.aa ?_))))
 refine Oc oa (af.ak ⟨[(1,_),(2,_),(3,.b (.one (.nil)))],[(101,_),(102,_)]⟩ rfl ?_)
 obtain ⟨v3,h4,h⟩:=aP h
 refine ab.ca (v:=v3) (fun (out_3:List aI)=>⟨[(1,Pt 101 0),(2,Pt 102 0),(3,.b (.row 109))],[(101,.box 31 [.i r0.Me,.i r0.Regions,.i r0.Step,.sl 1 (r0.Home.map eI),.sl 1 (r0.Heard.map eB),.sl 1 (r0.Sets.map (eL 1 eI)),.sl 1 (r0.States.map eS),.sl 3 (x_1.map ao),.sl 1 (x_2.map eB),.sl 1 (r0.Results.map eS)]),(102,.box 37 [.i 0,.i 0,.i 0,.nil,.nil,.nil,.nil,.nil,.nil,.nil,.nil,.i 0]),(109,.row 42 7 (out_3.map ah))]⟩) (fun z=>z) ?_ ?_
 ·refine ab.seq (ab.aa ?_)
  refine Oc oa (af.ak ⟨[(1,_),(2,_),(3,_),(4,I 0)],[(101,_),(102,_)]⟩ rfl (ab.block (ab.dc 3 109 7 42 rfl (by decide) rfl (ab.bZ h4 (eU fun (out_4:List aI) (i_5:Int)=>⟨[(1,Pt 101 0),(2,Pt 102 0),(3,.b (.row 109)),(4,I i_5)],[(101,.box 31 [.i r0.Me,.i r0.Regions,.i r0.Step,.sl 1 (r0.Home.map eI),.sl 1 (r0.Heard.map eB),.sl 1 (r0.Sets.map (eL 1 eI)),.sl 1 (r0.States.map eS),.sl 3 (x_1.map ao),.sl 1 (x_2.map eB),.sl 1 (r0.Results.map eS)]),(102,.box 37 [.i 0,.i 0,.i 0,.nil,.nil,.nil,.nil,.nil,.nil,.nil,.nil,.i 0]),(109,.row 42 7 (out_4.map ah))]⟩) [1,2,3,4] [101,102,109] rfl ?_))))
  rintro ⟨out_4,i_5⟩ o5 h6 hy7
  refine ab.seq (ab.seq (ab.aa ?_))
  refine Oc om (Oc (ae c9 rfl rfl) (Oc (ag ey rfl rfl rfl) (Oc (av kW rfl (List.length_map _)) (Oc (aY rfl rfl) ?_))))
  refine af.ak ⟨[(1,_),(2,_),(3,_),(4,_),(22,B (decide (i_5 < (x_1.length:Int))))],[(101,_),(102,_),(109,_)]⟩ rfl (ab.ite h6 rfl (fun _ h6=>?_) (fun _ h6=>?_))
  ·refine ab.skip (Fin.ai ⟨[(1,_),(2,_),(3,_),(4,_)],[(101,_),(102,_),(109,_)]⟩ rfl (Fin.then ?_))
   obtain ⟨v8,h9,h6⟩:=aP h6
   refine ab.ca (v:=v8) (fun (out_7:List aI)=>⟨[(1,Pt 101 0),(2,Pt 102 0),(3,.b (.row 109)),(4,I i_5)],[(101,.box 31 [.i r0.Me,.i r0.Regions,.i r0.Step,.sl 1 (r0.Home.map eI),.sl 1 (r0.Heard.map eB),.sl 1 (r0.Sets.map (eL 1 eI)),.sl 1 (r0.States.map eS),.sl 3 (x_1.map ao),.sl 1 (x_2.map eB),.sl 1 (r0.Results.map eS)]),(102,.box 37 [.i 0,.i 0,.i 0,.nil,.nil,.nil,.nil,.nil,.nil,.nil,.nil,.i 0]),(109,.row 42 7 (out_7.map ah))]⟩) (fun z=>z) ?_ ?_
   ·refine ab.block (ab.seq (ab.aa ?_))
    refine Oc (ae c9 rfl rfl) (Oc (ag ey rfl rfl rfl) (Oc om ?_))
    obtain ⟨x_8,e10,h9⟩:=aP h9
    refine Oc (an fF (aL e10) (aB (e:=ao) e10) rfl rfl) (Oc (fl fR rfl rfl rfl) (Oc (cz (k:=110) ke rfl) (Oc (aR fR rfl rfl rfl rfl (Nat.le_of_ble_eq_true rfl) rfl) ?_)))
    refine af.ak ⟨[(1,_),(2,_),(3,_),(4,_),(5,Pt 110 0)],[(101,_),(102,_),(109,_),(110,.box 59 (ao x_8))]⟩ rfl (ab.seq (ab.aa ?_))
    refine Oc (ae dF rfl rfl) (Oc (ag aN rfl rfl rfl) (Oc (ae dE rfl rfl) (Oc (ag aN rfl rfl rfl) (Oc (ae cJ rfl rfl) (Oc (ag aD rfl rfl rfl) ?_)))))
    obtain ⟨x_9,e11,h9⟩:=aP h9
    refine Oc (bL (fD 111 e11) tc rfl trivial rfl rfl) (Oc oa ?_)
    refine af.ak ⟨[(1,_),(2,_),(3,_),(4,_),(5,_),(6,.b (.row 111))],[(101,_),(102,_),(109,_),(110,_),(111,.row 3 1 (x_9.map eI))]⟩ rfl (ab.seq (ab.aa ?_))
    refine Oc (ae fJ rfl rfl) (Oc (ag aD rfl rfl rfl) (Oc (ae cJ rfl rfl) (Oc (ag aD rfl rfl rfl) (Oc (cY rfl rfl) (Oc om ?_)))))
    refine dt (decide (x_8.Owner ≠ r0.Me)) [] (fun g12=>trivial) (fun g12=>om) (af.ai ⟨[(1,_),(2,_),(3,_),(4,_),(5,_),(6,_),(42,B (decide (x_8.Owner ≠ r0.Me))),(43,.opt (decide (x_8.Owner ≠ r0.Me)) (.row 111))],[(101,_),(102,_),(109,_),(110,_),(111,_)]⟩ rfl (dt (decide (x_8.Owner ≠ r0.Me)) [43] (fun g13=>by exact ⟨g13,trivial⟩) (fun g13=>fN bR rfl rfl (List.length_map _)) (dt (decide (x_8.Owner ≠ r0.Me)) [44] (fun g14=>by exact ⟨g14,trivial⟩) (fun g14=>gZ rfl rfl) (af.fQ h9 rfl (aT (fun e=>e) rfl rfl rfl rfl) (fun x_10 h9=>?_)))))
    refine af.ak ⟨[(1,_),(2,_),(3,_),(4,_),(5,_),(6,_),(46,B x_10)],[(101,_),(102,_),(109,_),(110,_),(111,_)]⟩ rfl (ab.ite h9 rfl (fun _ h9=>?_) (fun _ h9=>?_))
    ·refine ab.bg 111 rfl (ab.ai ⟨[(1,Pt 101 0),(2,Pt 102 0),(3,.b (.row 109)),(4,I i_5),(5,Pt 110 0),(6,.b (.one (.sl 1 (x_9.map eI))))],[(101,.box 31 [.i r0.Me,.i r0.Regions,.i r0.Step,.sl 1 (r0.Home.map eI),.sl 1 (r0.Heard.map eB),.sl 1 (r0.Sets.map (eL 1 eI)),.sl 1 (r0.States.map eS),.sl 3 (x_1.map ao),.sl 1 (x_2.map eB),.sl 1 (r0.Results.map eS)]),(102,.box 37 [.i 0,.i 0,.i 0,.nil,.nil,.nil,.nil,.nil,.nil,.nil,.nil,.i 0]),(109,.row 42 7 (out_4.map ah)),(110,.box 59 (ao x_8))]⟩ rfl ?_)
     obtain ⟨x_11,e15,h9⟩:=aP h9
     obtain ⟨x_12,e16,h9⟩:=aP h9
     refine ab.fy mixed 14 [.b (.row 109),Pt 101 2,I r0.Step,Pt 101 0,I r0.Me,Pt 110 0,I x_8.Owner,.b (.one (.sl 1 (x_9.map eI))),Pt 101 6,.b (.one (.sl 1 (r0.States.map eS))),.b (.one (.sl 1 (x_9.map eI))),.b (.one (.sl 1 (x_11.map eS))),.b (.agg [.i 2,.i r0.Step,.i r0.Me,.i x_8.Owner,.sl 1 ([].map (eL 1 eI)),.sl 1 (x_9.map eI),.sl 1 (x_11.map eS)]),.b (.one (.sl 7 ([(⟨2,r0.Step,r0.Me,x_8.Owner,[],x_9,x_11⟩:aI)].map ah)))] [1,2,3,4] [101,102,109] (s':=⟨[(1,_),(2,_),(3,_),(4,_)],[(101,_),(102,_),(109,.row 42 7 (x_12.map ah))]⟩) rfl ⟨fun _=>.p om,fun _=>.p (ae jL rfl rfl),fun _=>.p (ag aD rfl rfl rfl),fun _=>.p (ae cJ rfl rfl),fun _=>.p (ag aD rfl rfl rfl),fun _=>.p (ae fJ rfl rfl),fun _=>.p (ag aD rfl rfl rfl),fun _=>.p om,fun _=>.p (ae gO rfl rfl),fun _=>.p (ag b6 rfl rfl rfl),fun _=>.p om,fun _=>.p (az (fH 0 e15).fp uZ rfl rfl),fun _=>.p (bD.jH (.same (.same (.same (.same (.sl (size:=1) (by decide) (.same (.same (.nil)))))))) (cc kP rfl rfl)),fun _=>.p (cg (es:=[(⟨2,r0.Step,r0.Me,x_8.Owner,[],x_9,x_11⟩:aI)].map ah) iL rfl rfl (bc fun _=>rfl) rfl (by decide) (by decide)),trivial⟩ ⟨_,by exact .p (gq iL (ec e16) (dZ e16) rfl rfl rfl (cf e16) rfl),⟨_,by exact .p oa,rfl⟩⟩ rfl (Fin.ar ?_)
     exact Fin.join [1,2,3,4] [101,102,109] x_12 (Option.some.inj h9) rfl
    ·refine ab.skip (Fin.ar ?_)
     exact Fin.join [1,2,3,4] [101,102,109] out_4 (Option.some.inj h9) rfl
   ·rintro out_7 hv
    subst v8
    refine ab.aa (Oc om (Oc (bh rfl rfl) (Oc oa ?_)))
    refine af.nil ?_
    exact Fin.bp [1,2,3,4] [101,102,109] (out_7,IntKind.i64.wrap (i_5 + 1)) (Option.some.inj h6) rfl
  ·refine ab.exit (Fin.aq ?_)
   obtain rfl:=hy7 _ (Option.some.inj h6).symm
   refine Fin.aq (Fin.aE ?_)
   exact Fin.join [1,2,3] [101,102,109] out_4 rfl rfl
 ·rintro out_3 hv
  subst v3
  refine ab.seq (ab.aa ?_)
  refine af.rm ay h rfl (lp aU) (fun x_13 h=>?_)
  refine Oc om (af.bg 109 rfl (Oc (cc fM rfl rfl) (Oc (aR cP rfl rfl rfl rfl (Nat.le_of_ble_eq_true rfl) rfl) ?_)))
  refine af.ak ⟨[(2,Pt 102 0)],[(102,.box 37 (ay x_13 ++ ([.sl 7 (out_3.map ah),.i 0])))]⟩ rfl (ab.ret ?_)
  obtain rfl:=Option.some.inj h
  refine Fin.ai ⟨[(2,_)],[(102,_)]⟩ rfl (Fin.aM [.agg (ay x_13 ++ ([.sl 7 (out_3.map ah),.i 0]))] (.inl rfl) rfl (.cons (.agg cP rfl rfl rfl rfl) .nil) ⟨rfl,rfl⟩)
end Go.Proofs.Ytnpddoaeoefcnaa

