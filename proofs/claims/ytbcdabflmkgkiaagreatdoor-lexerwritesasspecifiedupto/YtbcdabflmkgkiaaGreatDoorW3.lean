/- printed walks -/
import Derived.Test.YtbcdabflmkgkiaaGreatDoorW2
set_option linter.unusedSimpArgs false
set_option linter.unusedVariables false
open Go.IntKind (i8 i16 i32 i64 u8 u16 u32 u64)
open Go.Proofs.Tryz (prog)
namespace Go.Proofs.YtbcdabflmkgkiaaGreatDoor
open Go.Sk
set_option maxHeartbeats 4000000
set_option maxRecDepth 4000
variable {mx : Int}
def fc (F:Nat) (l0:List Token):Option mi :=
 Option.bind (iter F (fun e=>if (decide (e<(l0.length:Int)))=true then ((aS l0 e).bind fun o=>(c8 F o).bind fun q=>if (!q)=true then (some (.inr (.inr (⟨[],1⟩:mi)))) else (some (.inl (i64.wrap (e+1))))) else (some (.inr (.inl ())))) 0) (cW (fun _=>Option.bind (iter F (bQ fun a c=>if (decide (c<(l0.length:Int)))=true then (Option.bind (Option.bind (if (decide (0<c))=true then ((gU a [32]).bind fun j=>some j) else (some a)) (fun f=>(aS l0 c).bind fun k=>(dq F k).bind fun m=>(gU f m).bind fun d=>if (decide (100000<(d.length:Int)))=true then (some (.inr (⟨[],2⟩:mi))) else (some (.inl d)))) (cW (fun g=>some (.inl (g,i64.wrap (c+1)))) (fun y=>some (.inr (.inr y))))) else (some (.inr (.inl a)))) ([],0)) (cW (fun h=>some (⟨h,0⟩:mi)) (fun y=>some y))) (fun y=>some y))
theorem oT {F:Nat} {l0:List Token} {r:mi} (h:fc F l0=some r):ax prog (bd mx) 10 [] [.one (.sl 3 (l0.map aC))] (Is [] (.b (.agg (Ai r)))):=by
 unfold fc at h
 refine ax.intro 44 Tryz.func10 Tryz.ntmps10 rfl (by simp) fun E=>(ab.seq (ab.aa ?_))
 refine Oc (aF (k:=101) zQ rfl) (ae.ag ⟨[(0,.b (.one (.sl 3 (l0.map aC)))),(2,Pt 101 0)],[(101,.box 28 [.str [],.i 0])]⟩ rfl (ab.seq (ab.aa ?_)))
 refine Oc oa (ae.ag ⟨[(0,_),(2,_),(3,.b (.one (.str [])))],[(101,_)]⟩ rfl ?_)
 obtain⟨v1,h2,h⟩:=aH h
 refine ab.bR (v:=v1) (fun (_:Unit)=>⟨[(0,.b (.one (.sl 3 (l0.map aC)))),(2,Pt 101 0),(3,.b (.one (.str [])))],[(101,.box 28 [.str [],.i 0])]⟩) (fun z=>.inl z) ?_ ?_
 refine ab.seq (ab.aa ?_)
 refine Oc oa (ae.ag ⟨[(0,_),(2,_),(3,_),(4,I 0)],[(101,_)]⟩ rfl (ab.block (ab.cx h2 (fun (m:Int)=>⟨[(0,.b (.one (.sl 3 (l0.map aC)))),(2,Pt 101 0),(3,.b (.one (.str []))),(4,I m)],[(101,.box 28 [.str [],.i 0])]⟩) [0,2,3,4] [101] rfl ?_)))
 rintro m o3 h4 hy5
 refine ab.seq (ab.seq (ab.aa ?_))
 refine Oc om (Oc om (Oc (ba qa rfl (List.length_map _)) (Oc (bt rfl rfl) (ae.ag ⟨[(0,_),(2,_),(3,_),(4,_),(10,B (decide (m<(l0.length:Int))))],[(101,_)]⟩ rfl (ab.ite h4 rfl (fun _ h4=>?_) (fun _ h4=>?_))))))
 refine ab.skip (Fin.af ⟨[(0,_),(2,_),(3,_),(4,_)],[(101,_)]⟩ rfl (Fin.then (ab.seq (ab.block (ab.seq (ab.aa ?_))))))
 refine Oc om (Oc om ?_)
 obtain⟨w,e6,h4⟩:=aH h4
 refine Oc (bm fh (aR e6) (cu (e:=aC) e6) rfl rfl) (Oc (j8 bK rfl rfl rfl) ?_)
 obtain⟨o,e7,h4⟩:=aH h4
 refine Oc (ah (iI e7) Fz rfl rfl) (Oc oa (ae.ag ⟨[(0,_),(2,_),(3,_),(4,_),(5,B o)],[(101,_)]⟩ rfl (ab.seq (ab.aa ?_))))
 refine Oc om (Oc (cc rfl) (ae.ag ⟨[(0,_),(2,_),(3,_),(4,_),(19,B (!o))],[(101,_)]⟩ rfl (ab.ite h4 rfl (fun _ h4=>?_) (fun _ h4=>?_))))
 refine ab.seq (ab.aa ?_)
 refine Oc (aU uF rfl rfl) (Oc (an pj rfl rfl rfl rfl (zab rfl) rfl) (ae.ag ⟨[(2,_)],[(101,.box 28 [.str [],.i 1])]⟩ rfl (ab.ret (Fin.bc (Fin.ay ?_)))))
 obtain rfl:=hy5 _ (zaa h4).symm
 refine Fin.ay (Fin.bc (Fin.ay ?_))
 obtain rfl:=zaa h
 refine Fin.af ⟨[(2,_)],[(101,_)]⟩ rfl (Fin.au [.agg [.str [],.i 1]] (.inl rfl) rfl (.cons (.agg pj rfl rfl rfl rfl) .nil) ⟨rfl,rfl⟩)
 refine ab.skip (Fin.aA (Fin.af ⟨[(0,_),(2,_),(3,_),(4,_)],[(101,_)]⟩ rfl (Fin.then (ab.aa ?_))))
 refine Oc om (Oc (aL rfl rfl) (Oc oa (ae.nil ?_)))
 exact Fin.bB [0,2,3,4] [101] (i64.wrap (m+1)) (zaa h4) rfl
 refine ab.exit (Fin.aw ?_)
 obtain rfl:=hy5 _ (zaa h4).symm
 refine Fin.aw (Fin.aJ ?_)
 exact Fin.join [0,2,3] [101] () rfl rfl
 rintro _ hv
 subst v1
 obtain⟨v8,h9,h⟩:=aH h
 refine ab.bR (v:=v8) (fun (a:Str)=>⟨[(2,Pt 101 0),(3,.b (.one (.str a)))],[(101,.box 28 [.str [],.i 0])]⟩) (fun z=>.inl z) ?_ ?_
 refine ab.seq (ab.aa ?_)
 refine Oc oa (ae.ag ⟨[(0,_),(2,_),(3,_),(6,I 0)],[(101,_)]⟩ rfl (ab.block (ab.cx h9 (bQ fun (c:Str) (d:Int)=>⟨[(0,.b (.one (.sl 3 (l0.map aC)))),(2,Pt 101 0),(3,.b (.one (.str c))),(6,I d)],[(101,.box 28 [.str [],.i 0])]⟩) [0,2,3,6] [101] rfl ?_)))
 rintro⟨c,d⟩ o10 h11 hy12
 refine ab.seq (ab.seq (ab.aa ?_))
 refine Oc om (Oc om (Oc (ba qa rfl (List.length_map _)) (Oc (bt rfl rfl) (ae.ag ⟨[(0,_),(2,_),(3,_),(6,_),(24,B (decide (d<(l0.length:Int))))],[(101,_)]⟩ rfl (ab.ite h11 rfl (fun _ h11=>?_) (fun _ h11=>?_))))))
 refine ab.skip (Fin.af ⟨[(0,_),(2,_),(3,_),(6,_)],[(101,_)]⟩ rfl (Fin.then ?_))
 obtain⟨v13,h14,h11⟩:=aH h11
 refine ab.bR (v:=v13) (fun (f:Str)=>⟨[(0,.b (.one (.sl 3 (l0.map aC)))),(2,Pt 101 0),(3,.b (.one (.str f))),(6,I d)],[(101,.box 28 [.str [],.i 0])]⟩) (fun z=>.inl z) ?_ ?_
 refine ab.block ?_
 obtain⟨v15,h16,h14⟩:=aH h14
 refine ab.bR (v:=v15) (fun (g:Str)=>⟨[(0,.b (.one (.sl 3 (l0.map aC)))),(2,Pt 101 0),(3,.b (.one (.str g))),(6,I d)],[(101,.box 28 [.str [],.i 0])]⟩) (fun z=>z) ?_ ?_
 refine ab.seq (ab.aa ?_)
 refine Oc om (Oc (dy rfl rfl) (ae.ag ⟨[(0,_),(2,_),(3,_),(6,_),(28,B (decide (0<d)))],[(101,_)]⟩ rfl (ab.ite h16 rfl (fun _ h16=>?_) (fun _ h16=>?_))))
 refine ab.aa (Oc om ?_)
 obtain⟨q,e17,h16⟩:=aH h16
 refine Oc (fE e17 rfl rfl) (Oc oa (ae.nil ?_))
 exact Fin.join [0,2,3,6] [101] q (zaa h16) rfl
 refine ab.skip ?_
 exact Fin.join [0,2,3,6] [101] c (zaa h16) rfl
 rintro g hv
 subst v15
 refine ab.seq (ab.aa ?_)
 refine Oc om (Oc om (Oc om ?_))
 obtain⟨t,e18,h14⟩:=aH h14
 refine Oc (bm fh (aR e18) (cu (e:=aC) e18) rfl rfl) (Oc (j8 bK rfl rfl rfl) (ae.af ⟨[(0,_),(2,_),(3,_),(6,_),(31,.b (.one (.str g))),(35,.b (.agg (aC t)))],[(101,_)]⟩ rfl ?_))
 obtain⟨u,e19,h14⟩:=aH h14
 refine Oc (ah (jc e19) Fy rfl rfl) ?_
 obtain⟨j,e20,h14⟩:=aH h14
 refine Oc (fE e20 rfl rfl) (Oc oa (ae.ag ⟨[(0,_),(2,_),(3,.b (.one (.str j))),(6,_)],[(101,_)]⟩ rfl (ab.seq (ab.aa ?_))))
 refine Oc om (Oc (bh cb rfl) (Oc (dy rfl rfl) (ae.ag ⟨[(0,_),(2,_),(3,_),(6,_),(40,B (decide (100000<(j.length:Int))))],[(101,_)]⟩ rfl (ab.ite h14 rfl (fun _ h14=>?_) (fun _ h14=>?_)))))
 refine ab.seq (ab.aa ?_)
 refine Oc (aU uF rfl rfl) (Oc (an pj rfl rfl rfl rfl (zab rfl) rfl) (ae.ag ⟨[(2,_)],[(101,.box 28 [.str [],.i 2])]⟩ rfl (ab.ret (Fin.bc ?_))))
 obtain rfl:=zaa h14
 refine Fin.ay ?_
 obtain rfl:=hy12 _ (zaa h11).symm
 refine Fin.ay (Fin.bc (Fin.ay ?_))
 obtain rfl:=zaa h
 refine Fin.af ⟨[(2,_)],[(101,_)]⟩ rfl (Fin.au [.agg [.str [],.i 2]] (.inl rfl) rfl (.cons (.agg pj rfl rfl rfl rfl) .nil) ⟨rfl,rfl⟩)
 refine ab.skip (Fin.aA ?_)
 exact Fin.join [0,2,3,6] [101] j (zaa h14) rfl
 rintro f hv
 subst v13
 refine ab.aa (Oc om (Oc (aL rfl rfl) (Oc oa (ae.nil ?_))))
 exact Fin.bB [0,2,3,6] [101] (f,i64.wrap (d+1)) (zaa h11) rfl
 refine ab.exit (Fin.aw ?_)
 obtain rfl:=hy12 _ (zaa h11).symm
 refine Fin.aw (Fin.aJ ?_)
 exact Fin.join [2,3] [101] c rfl rfl
 rintro a hv
 subst v8
 refine ab.seq (ab.aa ?_)
 refine Oc om (Oc (aU uF rfl rfl) (Oc (an pj rfl rfl rfl rfl (zab rfl) rfl) (ae.ag ⟨[(2,_)],[(101,.box 28 [.str a,.i 0])]⟩ rfl (ab.ret ?_))))
 obtain rfl:=zaa h
 refine Fin.af ⟨[(2,_)],[(101,_)]⟩ rfl (Fin.au [.agg [.str a,.i 0]] (.inl rfl) rfl (.cons (.agg pj rfl rfl rfl rfl) .nil) ⟨rfl,rfl⟩)
def gQ (F:Nat) (l0:List Int):Option (List Int) :=
 Option.bind (iter F (fun a=>(aT (decide (0<a)) (aS l0 (i64.wrap (a-1)))).bind fun c=>if ((decide (0<a))&&(decide (c=0)))=true then (some (.inl (i64.wrap (a-1)))) else (some (.inr a))) (l0.length:Int)) (fun d=>(tf l0 d).bind fun e=>some e)
theorem hZ {F:Nat} {l0:List Int} {r:(List Int)} (h:gQ F l0=some r):ax prog (bd mx) 131 [] [.one (.sl 1 (l0.map eI))] (Is [] (.b (.one (.sl 1 (r.map eI))))):=by
 unfold gQ at h
 refine ax.intro 21 Tryz.func131 Tryz.ntmps131 rfl (by simp) fun E=>(ab.seq (ab.aa ?_))
 refine Oc oa (ae.ag ⟨[(0,.b (.one (.sl 1 (l0.map eI))))],[]⟩ rfl (ab.seq (ab.aa ?_)))
 refine Oc om (Oc (ba fZ rfl (List.length_map _)) (Oc oa (ae.ag ⟨[(0,_),(3,I (l0.length:Int))],[]⟩ rfl ?_)))
 obtain⟨v1,h2,h⟩:=aH h
 refine ab.bR (v:=v1) (fun (c:Int)=>⟨[(0,.b (.one (.sl 1 (l0.map eI)))),(3,I c)],[]⟩) (fun z=>z) ?_ ?_
 refine ab.block (ab.cx h2 (fun (a:Int)=>⟨[(0,.b (.one (.sl 1 (l0.map eI)))),(3,I a)],[]⟩) [0,3] [] rfl ?_)
 rintro a o3 h4 hy5
 refine ab.seq (ab.seq (ab.aa ?_))
 refine Oc om (Oc (dy rfl rfl) (Oc om ?_))
 refine cH (decide (0<a)) [] (fun g6=>trivial) (fun g6=>om) (cH (decide (0<a)) [] (fun g7=>by exact trivial) (fun g7=>om) (cH (decide (0<a)) [10] (fun g8=>by exact⟨g8,trivial⟩) (fun g8=>bW rfl rfl) ?_))
 obtain⟨d,e10,h4⟩:=aH h4
 refine cH (decide (0<a)) [9,11] (fun g9=>⟨g9,g9,trivial⟩) (fun g9=>bm cZ (aR (gc e10 g9)) (cu (e:=eI) (gc e10 g9)) rfl rfl) (ae.af ⟨[(0,_),(3,_),(8,B (decide (0<a))),(12,.opt (decide (0<a)) (.dc [.i d]))],[]⟩ rfl (cH (decide (0<a)) [12] (fun g11=>⟨g11,trivial⟩) (fun g11=>bg bI rfl rfl) (cH (decide (0<a)) [13] (fun g12=>⟨g12,trivial⟩) (fun g12=>b8 rfl rfl) (Oc (aD (fun e=>e) rfl rfl rfl rfl) (ae.ag ⟨[(0,_),(3,_),(15,B ((decide (0<a))&&(decide (d=0))))],[]⟩ rfl (ab.ite h4 rfl (fun _ h4=>?_) (fun _ h4=>?_)))))))
 refine ab.skip (Fin.af ⟨[(0,_),(3,_)],[]⟩ rfl (Fin.then (ab.block (ab.aa ?_))))
 refine Oc om (Oc (bW rfl rfl) (Oc oa (ae.nil (Fin.aA ?_))))
 exact Fin.bB [0,3] [] (i64.wrap (a-1)) (zaa h4) rfl
 refine ab.exit (Fin.aw ?_)
 obtain rfl:=hy5 _ (zaa h4).symm
 refine Fin.aw (Fin.aJ ?_)
 exact Fin.join [0,3] [] a rfl rfl
 rintro c hv
 subst v1
 refine ab.seq (ab.aa ?_)
 refine Oc om (Oc om ?_)
 obtain⟨f,e13,h⟩:=aH h
 refine Oc (AI cZ e13 rfl rfl) (Oc oa (ae.ag ⟨[(2,.b (.one (.sl 1 (f.map eI))))],[]⟩ rfl (ab.ret ?_)))
 obtain rfl:=zaa h
 refine Fin.af ⟨[(2,_)],[]⟩ rfl (Fin.au [.one (.sl 1 (f.map eI))] (.inl rfl) rfl (.cons (.tmp rfl) .nil) ⟨rfl,rfl⟩)
def iR (F:Nat):Option bY :=
 some (⟨true,false,aZ.zero⟩:bY)
theorem gW {F:Nat} {r:bY} (h:iR F=some r):ax prog (bd mx) 80 [] [] (Is [] (.b (.agg (az r)))):=by
 unfold iR at h
 refine ax.intro 2 Tryz.func80 Tryz.ntmps80 rfl (by simp) fun E=>(ab.seq (ab.aa ?_))
 refine Oc (aF (k:=101) bO rfl) (ae.ag ⟨[(0,Pt 101 0)],[(101,.box 35 dL)]⟩ rfl (ab.seq (ab.aa ?_)))
 refine Oc (aU rT rfl rfl) (Oc (an aq rfl rfl rfl rfl (zab rfl) rfl) (ae.ag ⟨[(0,_)],[(101,.box 35 (.bool true::.bool false::(eW aZ.zero)))]⟩ rfl (ab.ret ?_)))
 obtain rfl:=zaa h
 refine Fin.af ⟨[(0,_)],[(101,_)]⟩ rfl (Fin.au [.agg (.bool true::.bool false::(eW aZ.zero))] (.inl rfl) rfl (.cons (.agg aq rfl rfl rfl rfl) .nil) ⟨rfl,rfl⟩)
def dw (F:Nat) (neg0:Bool) (l0:List Int):Option bY :=
 (gQ F l0).bind fun d=>if (decide (32<(d.length:Int)))=true then ((iR F).bind fun t=>some t) else (bA (⟨false,neg0&&(decide (0<(d.length:Int))),aZ.zero⟩:bY) fun u=>Option.bind (iter F (bQ fun a c=>if (decide (c<(d.length:Int)))=true then (Option.bind (if (decide ((Int.tmod c 2)=0))=true then ((ma .i64 c 2).bind fun h=>(ma .i64 c 2).bind fun j=>(aS a.W.l j).bind fun k=>(aS d c).bind fun m=>(aS a.W.l h).bind fun v=>some (⟨a.Bad,a.Neg,a.W.set h (u32.wrap (k+(u32.wrap m)))⟩:bY)) else ((ma .i64 c 2).bind fun e=>(ma .i64 c 2).bind fun o=>(aS a.W.l o).bind fun q=>(aS d c).bind fun r=>(aS a.W.l e).bind fun w=>some (⟨a.Bad,a.Neg,a.W.set e (u32.wrap (q+(u32.wrap ((u32.wrap r)*65536))))⟩:bY))) (fun f=>some (.inl (f,i64.wrap (c+1))))) else (some (.inr a))) (u,0)) (fun g=>some g))
theorem dK {F:Nat} {neg0:Bool} {l0:List Int} {r:bY} (h:dw F neg0 l0=some r):ax prog (bd mx) 76 [] [.one (.bool neg0),.one (.sl 1 (l0.map eI))] (Is [] (.b (.agg (az r)))):=by
 unfold dw at h
 refine ax.intro 62 Tryz.func76 Tryz.ntmps76 rfl (by simp) fun E=>(ab.seq (ab.aa ?_))
 refine Oc (aF (k:=101) bO rfl) (ae.ag ⟨[(0,B neg0),(1,.b (.one (.sl 1 (l0.map eI)))),(4,Pt 101 0)],[(101,.box 35 dL)]⟩ rfl (ab.seq (ab.aa ?_)))
 refine Oc om ?_
 obtain⟨j,e1,h⟩:=aH h
 refine Oc (ah (hZ e1) pC rfl rfl) (Oc oa (ae.ag ⟨[(0,_),(4,_),(5,.b (.one (.sl 1 (j.map eI))))],[(101,_)]⟩ rfl (ab.seq (ab.seq (ab.aa ?_)))))
 refine Oc om (Oc (ba fZ rfl (List.length_map _)) (Oc (dy rfl rfl) (ae.ag ⟨[(0,_),(4,_),(5,_),(12,B (decide (32<(j.length:Int))))],[(101,_)]⟩ rfl (ab.ite h rfl (fun _ h=>?_) (fun _ h=>?_)))))
 refine ab.seq (ab.aa ?_)
 obtain⟨y,e2,h⟩:=aH h
 refine Oc (ah (gW e2) qx rfl rfl) (Oc (an aq rfl rfl rfl rfl (zab rfl) rfl) (ae.ag ⟨[(4,_)],[(101,.box 35 (az y))]⟩ rfl (ab.ret (Fin.ay ?_))))
 obtain rfl:=zaa h
 refine Fin.af ⟨[(4,_)],[(101,_)]⟩ rfl (Fin.au [.agg (az y)] (.inl rfl) rfl (.cons (.agg aq rfl rfl rfl rfl) .nil) ⟨rfl,rfl⟩)
 refine ab.skip (Fin.af ⟨[(0,_),(4,_),(5,_)],[(101,_)]⟩ rfl (Fin.then (ab.seq (ab.aa ?_))))
 refine Oc om (Oc om ?_)
 refine cH neg0 [] (fun g3=>trivial) (fun g3=>om) (cH neg0 [16] (fun g4=>by exact⟨g4,trivial⟩) (fun g4=>ba fZ rfl (List.length_map _)) (cH neg0 [17] (fun g5=>by exact⟨g5,trivial⟩) (fun g5=>dy rfl rfl) (Oc (aD (fun e=>e) rfl rfl rfl rfl) (ae.af ⟨[(4,_),(5,_),(19,B (neg0&&(decide (0<(j.length:Int)))))],[(101,_)]⟩ rfl (ae.qd az h rfl (aU rT rfl rfl) (fun ac h=>?_))))))
 refine Oc (aF (k:=102) bO rfl) (Oc (an aq rfl rfl rfl rfl (zab rfl) rfl) (ae.ag ⟨[(4,_),(5,_),(6,Pt 102 0)],[(101,_),(102,.box 35 (az ac))]⟩ rfl ?_))
 obtain⟨v6,h7,h⟩:=aH h
 refine ab.bR (v:=v6) (fun (g:bY)=>⟨[(4,Pt 101 0),(6,Pt 102 0)],[(101,.box 35 dL),(102,.box 35 (az g))]⟩) (fun z=>z) ?_ ?_
 refine ab.seq (ab.aa ?_)
 refine Oc oa (ae.ag ⟨[(4,_),(5,_),(6,_),(7,I 0)],[(101,_),(102,_)]⟩ rfl (ab.block (ab.cx h7 (bQ fun (a:bY) (d:Int)=>⟨[(4,Pt 101 0),(5,.b (.one (.sl 1 (j.map eI)))),(6,Pt 102 0),(7,I d)],[(101,.box 35 dL),(102,.box 35 (az a))]⟩) [4,5,6,7] [101,102] rfl ?_)))
 rintro⟨a,d⟩ o8 h9 hy10
 refine ab.seq (ab.seq (ab.aa ?_))
 refine Oc om (Oc om (Oc (ba fZ rfl (List.length_map _)) (Oc (bt rfl rfl) (ae.ag ⟨[(4,_),(5,_),(6,_),(7,_),(24,B (decide (d<(j.length:Int))))],[(101,_),(102,_)]⟩ rfl (ab.ite h9 rfl (fun _ h9=>?_) (fun _ h9=>?_))))))
 refine ab.skip (Fin.af ⟨[(4,_),(5,_),(6,_),(7,_)],[(101,_),(102,_)]⟩ rfl (Fin.then ?_))
 obtain⟨v11,h12,h9⟩:=aH h9
 refine ab.bR (v:=v11) (fun (t:bY)=>⟨[(4,Pt 101 0),(5,.b (.one (.sl 1 (j.map eI)))),(6,Pt 102 0),(7,I d)],[(101,.box 35 dL),(102,.box 35 (az t))]⟩) (fun z=>z) ?_ ?_
 refine ab.block (ab.seq (ab.aa ?_))
 refine Oc om (Oc (lY (by decide) rfl rfl) (Oc (b8 rfl rfl) (ae.ag ⟨[(4,_),(5,_),(6,_),(7,_),(29,B (decide ((Int.tmod d 2)=0)))],[(101,_),(102,_)]⟩ rfl (ab.ite h12 rfl (fun _ h12=>?_) (fun _ h12=>?_)))))
 refine ab.af ⟨[(4,_),(5,_),(6,_),(7,_)],[(101,_),(102,_)]⟩ rfl ?_
 obtain⟨u,e13,h12⟩:=aH h12
 obtain⟨w,e14,h12⟩:=aH h12
 obtain⟨m,e15,h12⟩:=aH h12
 obtain⟨f,e16,h12⟩:=aH h12
 obtain⟨ad,e17,h12⟩:=aH h12
 refine ab.jH mixed 15 [I d,I u,I d,I w,Pt 102 2,.b (.ptr 102 (2+(w:Int).toNat*1)),.b (.one (.int .u32 m)),.b (.one (.sl 1 (j.map eI))),I d,.b (.dc [.i f]),I f,.b (.one (.int .u32 (u32.wrap f))),.b (.one (.int .u32 (u32.wrap (m+(u32.wrap f))))),Pt 102 2,.b (.ptr 102 (2+(u:Int).toNat*1))] [4,5,6,7] [101,102] (s':=⟨[(4,_),(5,_),(6,_),(7,_)],[(101,_),(102,.box 35 (.bool a.Bad::.bool a.Neg::(eW (a.W.set u (u32.wrap (m+(u32.wrap f)))))))]⟩) rfl ⟨fun _=>.p om,fun _=>.p (fv e13 rfl rfl),fun _=>.p om,fun _=>.p (fv e14 rfl rfl),fun _=>.p (aj aY rfl rfl),fun _=>.p (aK bH (aR e15) (cD e15) rfl rfl rfl),fun _=>.p (ao bn rfl rfl (cA (post:=[]) (k:=.u32) [.bool a.Bad,.bool a.Neg] e15 rfl rfl rfl)),fun _=>.p om,fun _=>.p om,fun _=>.p (bm cZ (aR e16) (cu (e:=eI) e16) rfl rfl),fun _=>.p (bg bI rfl rfl),fun _=>.p (aE nA bT rfl),fun _=>.p (aL rfl rfl),fun _=>.p (aj aY rfl rfl),fun _=>.p (aK bH (aR e17) (cD e17) rfl rfl rfl),trivial⟩ ⟨_,by exact .p (bF bn rfl rfl rfl (kA (post:=[]) (k:=.u32) [.bool a.Bad,.bool a.Neg] e17 rfl rfl rfl) (iH (post:=[]) (k:=.u32) [.bool a.Bad,.bool a.Neg] e17 rfl rfl (aZ.jZ a.W u (u32.wrap (m+(u32.wrap f)))) rfl rfl)),rfl⟩ rfl (Fin.aA ?_)
 exact Fin.join [4,5,6,7] [101,102] (⟨a.Bad,a.Neg,a.W.set u (u32.wrap (m+(u32.wrap f)))⟩:bY) (zaa h12) rfl
 refine ab.af ⟨[(4,_),(5,_),(6,_),(7,_)],[(101,_),(102,_)]⟩ rfl ?_
 obtain⟨o,e18,h12⟩:=aH h12
 obtain⟨x,e19,h12⟩:=aH h12
 obtain⟨q,e20,h12⟩:=aH h12
 obtain⟨c,e21,h12⟩:=aH h12
 obtain⟨ai,e22,h12⟩:=aH h12
 refine ab.jH mixed 16 [I d,I o,I d,I x,Pt 102 2,.b (.ptr 102 (2+(x:Int).toNat*1)),.b (.one (.int .u32 q)),.b (.one (.sl 1 (j.map eI))),I d,.b (.dc [.i c]),I c,.b (.one (.int .u32 (u32.wrap c))),.b (.one (.int .u32 (u32.wrap ((u32.wrap c)*65536)))),.b (.one (.int .u32 (u32.wrap (q+(u32.wrap ((u32.wrap c)*65536)))))),Pt 102 2,.b (.ptr 102 (2+(o:Int).toNat*1))] [4,5,6,7] [101,102] (s':=⟨[(4,_),(5,_),(6,_),(7,_)],[(101,_),(102,.box 35 (.bool a.Bad::.bool a.Neg::(eW (a.W.set o (u32.wrap (q+(u32.wrap ((u32.wrap c)*65536))))))))]⟩) rfl ⟨fun _=>.p om,fun _=>.p (fv e18 rfl rfl),fun _=>.p om,fun _=>.p (fv e19 rfl rfl),fun _=>.p (aj aY rfl rfl),fun _=>.p (aK bH (aR e20) (cD e20) rfl rfl rfl),fun _=>.p (ao bn rfl rfl (cA (post:=[]) (k:=.u32) [.bool a.Bad,.bool a.Neg] e20 rfl rfl rfl)),fun _=>.p om,fun _=>.p om,fun _=>.p (bm cZ (aR e21) (cu (e:=eI) e21) rfl rfl),fun _=>.p (bg bI rfl rfl),fun _=>.p (aE nA bT rfl),fun _=>.p (kU rfl rfl),fun _=>.p (aL rfl rfl),fun _=>.p (aj aY rfl rfl),fun _=>.p (aK bH (aR e22) (cD e22) rfl rfl rfl),trivial⟩ ⟨_,by exact .p (bF bn rfl rfl rfl (kA (post:=[]) (k:=.u32) [.bool a.Bad,.bool a.Neg] e22 rfl rfl rfl) (iH (post:=[]) (k:=.u32) [.bool a.Bad,.bool a.Neg] e22 rfl rfl (aZ.jZ a.W o (u32.wrap (q+(u32.wrap ((u32.wrap c)*65536))))) rfl rfl)),rfl⟩ rfl (Fin.aA ?_)
 exact Fin.join [4,5,6,7] [101,102] (⟨a.Bad,a.Neg,a.W.set o (u32.wrap (q+(u32.wrap ((u32.wrap c)*65536))))⟩:bY) (zaa h12) rfl
 rintro t hv
 subst v11
 refine ab.aa (Oc om (Oc (aL rfl rfl) (Oc oa (ae.nil ?_))))
 exact Fin.bB [4,5,6,7] [101,102] (t,i64.wrap (d+1)) (zaa h9) rfl
 refine ab.exit (Fin.aw ?_)
 obtain rfl:=hy10 _ (zaa h9).symm
 refine Fin.aw (Fin.aJ ?_)
 exact Fin.join [4,6] [101,102] a rfl rfl
 rintro g hv
 subst v6
 refine ab.seq (ab.aa ?_)
 refine Oc (lp aq) (Oc (an aq rfl rfl rfl rfl (zab rfl) rfl) (ae.ag ⟨[(4,_)],[(101,.box 35 (az g))]⟩ rfl (ab.ret ?_)))
 obtain rfl:=zaa h
 refine Fin.af ⟨[(4,_)],[(101,_)]⟩ rfl (Fin.au [.agg (az g)] (.inl rfl) rfl (.cons (.agg aq rfl rfl rfl rfl) .nil) ⟨rfl,rfl⟩)
def fj (F:Nat) (l0:List Int) (k0:Int):Option Int :=
 if (decide (k0<(l0.length:Int)))=true then ((aS l0 k0).bind fun a=>some a) else (some 0)
theorem fF {F:Nat} {l0:List Int} {k0 r:Int} (h:fj F l0 k0=some r):ax prog (bd mx) 132 [] [.one (.sl 1 (l0.map eI)),.one (.i k0)] (Is [] (.b (.one (.i r)))):=by
 unfold fj at h
 refine ax.intro 13 Tryz.func132 Tryz.ntmps132 rfl (by simp) fun E=>(ab.seq (ab.aa ?_))
 refine Oc oa (ae.ag ⟨[(0,.b (.one (.sl 1 (l0.map eI)))),(1,I k0)],[]⟩ rfl (ab.seq (ab.seq (ab.aa ?_))))
 refine Oc om (Oc om (Oc (ba fZ rfl (List.length_map _)) (Oc (bt rfl rfl) (ae.ag ⟨[(0,_),(1,_),(8,B (decide (k0<(l0.length:Int))))],[]⟩ rfl (ab.ite h rfl (fun _ h=>?_) (fun _ h=>?_))))))
 refine ab.seq (ab.aa ?_)
 refine Oc om (Oc om ?_)
 obtain⟨a,e1,h⟩:=aH h
 refine Oc (bm cZ (aR e1) (cu (e:=eI) e1) rfl rfl) (Oc (bg bI rfl rfl) (Oc oa (ae.ag ⟨[(4,I a)],[]⟩ rfl (ab.ret (Fin.ay ?_)))))
 obtain rfl:=zaa h
 refine Fin.af ⟨[(4,_)],[]⟩ rfl (Fin.au [.one (.i a)] (.inl rfl) rfl (.cons (.tmp rfl) .nil) ⟨rfl,rfl⟩)
 refine ab.skip (Fin.af ⟨[],[]⟩ rfl (Fin.then (ab.seq (ab.aa ?_))))
 refine Oc oa (ae.ag ⟨[(4,I 0)],[]⟩ rfl (ab.ret ?_))
 obtain rfl:=zaa h
 refine Fin.af ⟨[(4,_)],[]⟩ rfl (Fin.au [.one (.i 0)] (.inl rfl) rfl (.cons (.tmp rfl) .nil) ⟨rfl,rfl⟩)
def kY (F:Nat) (a0:List Int) (b0:List Int):Option (List Int) :=
 Option.bind (iter F (iJ fun a c d=>bA (max (a0.length:Int) (b0.length:Int)) fun k=>if (decide (d<(i64.wrap (k+1))))=true then ((fj F a0 d).bind fun m=>(fj F b0 d).bind fun o=>bA (i64.wrap ((i64.wrap (m+o))+c)) fun f=>(gU a [Int.tmod f 65536]).bind fun g=>(ma .i64 f 65536).bind fun h=>some (.inl (g,h,i64.wrap (d+1)))) else (some (.inr a))) ([],0,0)) (fun e=>(gQ F e).bind fun j=>some j)
theorem pP {F:Nat} {a0:List Int} {b0:List Int} {r:(List Int)} (h:kY F a0 b0=some r):ax prog (bd mx) 77 [] [.one (.sl 1 (a0.map eI)),.one (.sl 1 (b0.map eI))] (Is [] (.b (.one (.sl 1 (r.map eI))))):=by
 unfold kY at h
 refine ax.intro 37 Tryz.func77 Tryz.ntmps77 rfl (by simp) fun E=>(ab.seq (ab.aa ?_))
 refine Oc oa (ae.ag ⟨[(0,.b (.one (.sl 1 (a0.map eI)))),(1,.b (.one (.sl 1 (b0.map eI))))],[]⟩ rfl (ab.seq (ab.aa ?_)))
 refine Oc oa (ae.ag ⟨[(0,_),(1,_),(5,.b (.one (.nil)))],[]⟩ rfl (ab.seq (ab.aa ?_)))
 refine Oc oa (ae.ag ⟨[(0,_),(1,_),(5,_),(6,I 0)],[]⟩ rfl ?_)
 obtain⟨v1,h2,h⟩:=aH h
 refine ab.bR (v:=v1) (fun (e:List Int)=>⟨[(5,.b (.row 102))],[(102,.row 3 1 (e.map eI))]⟩) (fun z=>z) ?_ ?_
 refine ab.seq (ab.aa ?_)
 refine Oc oa (ae.ag ⟨[(0,_),(1,_),(5,_),(6,_),(7,I 0)],[]⟩ rfl (ab.block (ab.kr 5 102 1 3 rfl (by decide) rfl (ab.cx h2 (iJ fun (c:List Int) (a:Int) (d:Int)=>⟨[(0,.b (.one (.sl 1 (a0.map eI)))),(1,.b (.one (.sl 1 (b0.map eI)))),(5,.b (.row 102)),(6,I a),(7,I d)],[(102,.row 3 1 (c.map eI))]⟩) [0,1,5,6,7] [102] rfl ?_))))
 rintro⟨c,a,d⟩ o3 h4 hy5
 refine ab.seq (ab.seq (ab.aa ?_))
 refine Oc om (Oc om (Oc (ba fZ rfl (List.length_map _)) (Oc om (Oc (ba fZ rfl (List.length_map _)) (ae.af ⟨[(0,_),(1,_),(5,_),(6,_),(7,_),(9,I d),(11,I (a0.length:Int)),(13,I (b0.length:Int))],[(102,_)]⟩ rfl (ae.cJ .i64 h4 rfl (E1 rfl rfl) (fun o h4=>?_)))))))
 refine Oc (aL rfl rfl) (Oc (bt rfl rfl) (ae.ag ⟨[(0,_),(1,_),(5,_),(6,_),(7,_),(16,B (decide (d<(i64.wrap (o+1)))))],[(102,_)]⟩ rfl (ab.ite h4 rfl (fun _ h4=>?_) (fun _ h4=>?_))))
 refine ab.skip (Fin.af ⟨[(0,_),(1,_),(5,_),(6,_),(7,_)],[(102,_)]⟩ rfl (Fin.then (ab.seq (ab.block (ab.seq (ab.aa ?_))))))
 refine Oc om (Oc om ?_)
 obtain⟨q,e6,h4⟩:=aH h4
 refine Oc (ah (fF e6) nJ rfl rfl) (Oc om (Oc om (ae.af ⟨[(0,_),(1,_),(5,_),(6,_),(7,_),(21,I q),(22,.b (.one (.sl 1 (b0.map eI)))),(23,I d)],[(102,_)]⟩ rfl ?_)))
 obtain⟨t,e7,h4⟩:=aH h4
 refine Oc (ah (fF e7) nJ rfl rfl) (Oc (aL rfl rfl) (Oc om ?_))
 refine ae.cJ .i64 h4 rfl (aL rfl rfl) (fun m h4=>?_)
 refine Oc oa (ae.ag ⟨[(0,_),(1,_),(5,_),(7,_),(8,I m)],[(102,_)]⟩ rfl (ab.seq (ab.aa ?_)))
 refine Oc om (Oc om (Oc (lY (by decide) rfl rfl) (Oc (aX (k:=103) (es:=[Int.tmod m 65536].map eI) cZ rfl rfl (cg fun _=>rfl) rfl (by decide) (by decide) rfl) ?_)))
 obtain⟨f,e8,h4⟩:=aH h4
 refine Oc (eV cZ (oo e8) (oi e8) rfl rfl rfl rfl (jj e8) rfl) (Oc oa (ae.ag ⟨[(0,_),(1,_),(5,_),(7,_),(8,_)],[(102,.row 3 1 (f.map eI))]⟩ rfl (ab.aa (Oc om ?_))))
 obtain⟨g,e9,h4⟩:=aH h4
 refine Oc (fv e9 rfl rfl) (Oc oa (ae.nil (Fin.aA (Fin.af ⟨[(0,_),(1,_),(5,_),(6,I g),(7,_)],[(102,_)]⟩ rfl (Fin.then (ab.aa ?_))))))
 refine Oc om (Oc (aL rfl rfl) (Oc oa (ae.nil ?_)))
 exact Fin.bB [0,1,5,6,7] [102] (f,g,i64.wrap (d+1)) (zaa h4) rfl
 refine ab.exit (Fin.aw ?_)
 obtain rfl:=hy5 _ (zaa h4).symm
 refine Fin.aw (Fin.aJ ?_)
 exact Fin.join [5] [102] c rfl rfl
 rintro e hv
 subst v1
 refine ab.seq (ab.aa ?_)
 refine Oc om (ae.c5 102 rfl ?_)
 obtain⟨j,e10,h⟩:=aH h
 refine Oc (ah (hZ e10) pC rfl rfl) (Oc oa (ae.ag ⟨[(4,.b (.one (.sl 1 (j.map eI))))],[]⟩ rfl (ab.ret ?_)))
 obtain rfl:=zaa h
 refine Fin.af ⟨[(4,_)],[]⟩ rfl (Fin.au [.one (.sl 1 (j.map eI))] (.inl rfl) rfl (.cons (.tmp rfl) .nil) ⟨rfl,rfl⟩)
def fu (F:Nat) (n0:Int):Option bY :=
 if (decide (0<=n0))=true then ((ma .i64 n0 65536).bind fun d=>(ma .i64 n0 4294967296).bind fun e=>(ma .i64 n0 281474976710656).bind fun f=>(dw F false [Int.tmod n0 65536,Int.tmod d 65536,Int.tmod e 65536,f]).bind fun g=>some g) else (bA (i64.wrap (-(i64.wrap (n0+1)))) fun a=>(ma .i64 a 65536).bind fun h=>(ma .i64 a 4294967296).bind fun j=>(ma .i64 a 281474976710656).bind fun k=>(kY F [Int.tmod a 65536,Int.tmod h 65536,Int.tmod j 65536,k] [1]).bind fun m=>(dw F true m).bind fun c=>some c)
theorem hH {F:Nat} {n0:Int} {r:bY} (h:fu F n0=some r):ax prog (bd mx) 36 [] [.one (.i n0)] (Is [] (.b (.agg (az r)))):=by
 unfold fu at h
 refine ax.intro 35 Tryz.func36 Tryz.ntmps36 rfl (by simp) fun E=>(ab.seq (ab.aa ?_))
 refine Oc (aF (k:=101) bO rfl) (ae.ag ⟨[(0,I n0),(2,Pt 101 0)],[(101,.box 35 dL)]⟩ rfl (ab.seq (ab.seq (ab.aa ?_))))
 refine Oc om (Oc (gf rfl rfl) (ae.ag ⟨[(0,_),(2,_),(5,B (decide (0<=n0)))],[(101,_)]⟩ rfl (ab.ite h rfl (fun _ h=>?_) (fun _ h=>?_))))
 refine ab.seq (ab.aa ?_)
 refine Oc om (Oc (lY (by decide) rfl rfl) (Oc om ?_))
 obtain⟨f,e1,h⟩:=aH h
 refine Oc (fv e1 rfl rfl) (Oc (lY (by decide) rfl rfl) (Oc om ?_))
 obtain⟨g,e2,h⟩:=aH h
 refine Oc (fv e2 rfl rfl) (ae.af ⟨[(0,_),(2,_),(7,I (Int.tmod n0 65536)),(10,I (Int.tmod f 65536)),(12,I g)],[(101,_)]⟩ rfl (Oc (lY (by decide) rfl rfl) (Oc om ?_)))
 obtain⟨o,e3,h⟩:=aH h
 refine Oc (fv e3 rfl rfl) (Oc (aX (k:=102) (es:=[Int.tmod n0 65536,Int.tmod f 65536,Int.tmod g 65536,o].map eI) cZ rfl rfl (cg fun _=>rfl) rfl (by decide) (by decide) rfl) ?_)
 obtain⟨j,e4,h⟩:=aH h
 refine Oc (gL (dK e4) n3 rfl (flat_agg ⟨CP.gi,CP.gi,CP.eT,CP.eT,CP.eT,CP.eT,CP.eT,CP.eT,CP.eT,CP.eT,CP.eT,CP.eT,CP.eT,CP.eT,CP.eT,CP.eT,CP.eT,CP.eT,trivial⟩)) (Oc (an aq rfl rfl rfl rfl (zab rfl) rfl) (ae.ag ⟨[(2,_)],[(101,.box 35 (az j))]⟩ rfl (ab.ret (Fin.ay ?_))))
 obtain rfl:=zaa h
 refine Fin.af ⟨[(2,_)],[(101,_)]⟩ rfl (Fin.au [.agg (az j)] (.inl rfl) rfl (.cons (.agg aq rfl rfl rfl rfl) .nil) ⟨rfl,rfl⟩)
 refine ab.skip (Fin.af ⟨[(0,_),(2,_)],[(101,_)]⟩ rfl (Fin.then (ab.seq (ab.aa ?_))))
 refine Oc om (Oc (aL rfl rfl) ?_)
 refine ae.cJ .i64 h rfl (yF rfl) (fun a h=>?_)
 refine Oc oa (ae.ag ⟨[(2,_),(3,I a)],[(101,_)]⟩ rfl (ab.seq (ab.aa ?_)))
 refine Oc om (Oc (lY (by decide) rfl rfl) (Oc om ?_))
 obtain⟨d,e5,h⟩:=aH h
 refine Oc (fv e5 rfl rfl) (Oc (lY (by decide) rfl rfl) (Oc om ?_))
 obtain⟨e,e6,h⟩:=aH h
 refine Oc (fv e6 rfl rfl) (ae.af ⟨[(2,_),(3,_),(22,I (Int.tmod a 65536)),(25,I (Int.tmod d 65536)),(27,I e)],[(101,_)]⟩ rfl (Oc (lY (by decide) rfl rfl) (Oc om ?_)))
 obtain⟨m,e7,h⟩:=aH h
 refine Oc (fv e7 rfl rfl) (Oc (aX (k:=103) (es:=[Int.tmod a 65536,Int.tmod d 65536,Int.tmod e 65536,m].map eI) cZ rfl rfl (cg fun _=>rfl) rfl (by decide) (by decide) rfl) (Oc (aX (k:=104) (es:=[1].map eI) cZ rfl rfl (cg fun _=>rfl) rfl (by decide) (by decide) rfl) (ae.c5 103 rfl (ae.c5 104 rfl (ae.af ⟨[(2,Pt 101 0),(31,.b (.one (.sl 1 ([Int.tmod a 65536,Int.tmod d 65536,Int.tmod e 65536,m].map eI)))),(32,.b (.one (.sl 1 ([1].map eI))))],[(101,.box 35 dL)]⟩ rfl ?_)))))
 obtain⟨q,e8,h⟩:=aH h
 refine Oc (ah (pP e8) Bu rfl rfl) ?_
 obtain⟨c,e9,h⟩:=aH h
 refine Oc (ah (dK e9) n3 rfl rfl) (Oc (an aq rfl rfl rfl rfl (zab rfl) rfl) (ae.ag ⟨[(2,_)],[(101,.box 35 (az c))]⟩ rfl (ab.ret ?_)))
 obtain rfl:=zaa h
 refine Fin.af ⟨[(2,_)],[(101,_)]⟩ rfl (Fin.au [.agg (az c)] (.inl rfl) rfl (.cons (.agg aq rfl rfl rfl rfl) .nil) ⟨rfl,rfl⟩)
def mV (F:Nat) (x0:bY):Option Bool :=
 Option.bind (iter F (bQ fun a d=>if (decide (d<16))=true then ((aT a (aS x0.W.l d)).bind fun e=>some (.inl (a&&(decide (e=0)),i64.wrap (d+1)))) else (some (.inr a))) (true,0)) (fun c=>if x0.Bad=true then (some (c&&(!x0.Neg))) else (some ((!c)||(!x0.Neg))))
theorem xP {F:Nat} {x0:bY} {r:Bool} (h:mV F x0=some r):ax prog (bd mx) 133 [] [.agg (az x0)] (Is [] (.b (.one (.bool r)))):=by
 unfold mV at h
 refine ax.intro 32 Tryz.func133 Tryz.ntmps133 rfl (by simp) fun E=>(ab.seq (ab.aa ?_))
 refine Oc (bE (k:=101) rfl rfl) (Oc oa (ae.ag ⟨[(1,Pt 101 0)],[(101,.box 35 (az x0))]⟩ rfl (ab.seq (ab.aa ?_))))
 refine Oc oa (ae.ag ⟨[(1,_),(3,B true)],[(101,_)]⟩ rfl ?_)
 obtain⟨v1,h2,h⟩:=aH h
 refine ab.bR (v:=v1) (fun (a:Bool)=>⟨[(1,Pt 101 0),(3,B a)],[(101,.box 35 (az x0))]⟩) (fun z=>z) ?_ ?_
 refine ab.seq (ab.aa ?_)
 refine Oc oa (ae.ag ⟨[(1,_),(3,_),(4,I 0)],[(101,_)]⟩ rfl (ab.block (ab.cx h2 (bQ fun (c:Bool) (d:Int)=>⟨[(1,Pt 101 0),(3,B c),(4,I d)],[(101,.box 35 (az x0))]⟩) [1,3,4] [101] rfl ?_)))
 rintro⟨c,d⟩ o3 h4 hy5
 refine ab.seq (ab.seq (ab.aa ?_))
 refine Oc om (Oc (bt rfl rfl) (ae.ag ⟨[(1,_),(3,_),(4,_),(6,B (decide (d<16)))],[(101,_)]⟩ rfl (ab.ite h4 rfl (fun _ h4=>?_) (fun _ h4=>?_))))
 refine ab.skip (Fin.af ⟨[(1,_),(3,_),(4,_)],[(101,_)]⟩ rfl (Fin.then (ab.seq (ab.block (ab.aa ?_)))))
 refine Oc om (Oc om ?_)
 refine cH c [] (fun g6=>trivial) (fun g6=>om) (cH c [] (fun g7=>by exact trivial) (fun g7=>aj aY rfl rfl) ?_)
 obtain⟨f,e9,h4⟩:=aH h4
 refine cH c [11,12] (fun g8=>⟨g8,g8,trivial⟩) (fun g8=>aK bH (aR (gc e9 g8)) (cD (gc e9 g8)) rfl rfl rfl) (cH c [13] (fun g10=>⟨g10,trivial⟩) (fun g10=>ao bn rfl rfl (cA (post:=[]) (k:=.u32) [.bool x0.Bad,.bool x0.Neg] (gc e9 g10) rfl rfl rfl)) (cH c [14] (fun g11=>⟨g11,trivial⟩) (fun g11=>b8 rfl rfl) (Oc (aD (fun e=>e) rfl rfl rfl rfl) (Oc oa (ae.nil (Fin.aA (Fin.af ⟨[(1,_),(3,B (c&&(decide (f=0)))),(4,_)],[(101,_)]⟩ rfl (Fin.then (ab.aa ?_)))))))))
 refine Oc om (Oc (aL rfl rfl) (Oc oa (ae.nil ?_)))
 exact Fin.bB [1,3,4] [101] (c&&(decide (f=0)),i64.wrap (d+1)) (zaa h4) rfl
 refine ab.exit (Fin.aw ?_)
 obtain rfl:=hy5 _ (zaa h4).symm
 refine Fin.aw (Fin.aJ ?_)
 exact Fin.join [1,3] [101] c rfl rfl
 rintro a hv
 subst v1
 refine ab.seq (ab.seq (ab.aa ?_))
 refine Oc (aj my rfl rfl) (Oc (ao cE rfl rfl rfl) (ae.ag ⟨[(1,_),(3,_),(18,B x0.Bad)],[(101,_)]⟩ rfl (ab.ite h rfl (fun _ h=>?_) (fun _ h=>?_))))
 refine ab.seq (ab.aa ?_)
 refine Oc om (Oc om ?_)
 refine cH a [] (fun g12=>trivial) (fun g12=>aj bJ rfl rfl) (cH a [21] (fun g13=>⟨g13,trivial⟩) (fun g13=>ao cE rfl rfl rfl) (cH a [22] (fun g14=>⟨g14,trivial⟩) (fun g14=>cc rfl) (Oc (aD (fun e=>e) rfl rfl rfl rfl) (Oc oa (ae.ag ⟨[(2,B (a&&(!x0.Neg)))],[]⟩ rfl (ab.ret (Fin.ay ?_)))))))
 obtain rfl:=zaa h
 refine Fin.af ⟨[(2,_)],[]⟩ rfl (Fin.au [.one (.bool (a&&(!x0.Neg)))] (.inl rfl) rfl (.cons (.tmp rfl) .nil) ⟨rfl,rfl⟩)
 refine ab.skip (Fin.af ⟨[(1,_),(3,_)],[(101,_)]⟩ rfl (Fin.then (ab.seq (ab.aa ?_))))
 refine Oc om (Oc (cc rfl) (Oc om ?_))
 refine dD (!(!a)) [] (fun g15=>trivial) (fun g15=>aj bJ rfl rfl) (dD (!(!a)) [28] (fun g16=>⟨g16,trivial⟩) (fun g16=>ao cE rfl rfl rfl) (dD (!(!a)) [29] (fun g17=>⟨g17,trivial⟩) (fun g17=>cc rfl) (Oc (aW (fun e=>by first|(rw[e];rfl)|(simp only at e;rw[e];rfl)) rfl rfl rfl rfl) (Oc oa (ae.ag ⟨[(2,B ((!a)||(!x0.Neg)))],[]⟩ rfl (ab.ret ?_))))))
 obtain rfl:=zaa h
 refine Fin.af ⟨[(2,_)],[]⟩ rfl (Fin.au [.one (.bool ((!a)||(!x0.Neg)))] (.inl rfl) rfl (.cons (.tmp rfl) .nil) ⟨rfl,rfl⟩)
def dH (F:Nat) (x0:bY):Option Bool :=
 (mV F x0).bind fun a=>some (a&&(!x0.Bad))
theorem dm {F:Nat} {x0:bY} {r:Bool} (h:dH F x0=some r):ax prog (bd mx) 79 [] [.agg (az x0)] (Is [] (.b (.one (.bool r)))):=by
 unfold dH at h
 refine ax.intro 12 Tryz.func79 Tryz.ntmps79 rfl (by simp) fun E=>(ab.seq (ab.aa ?_))
 refine Oc (bE (k:=101) rfl rfl) (Oc oa (ae.ag ⟨[(1,Pt 101 0)],[(101,.box 35 (az x0))]⟩ rfl (ab.seq (ab.aa ?_))))
 refine Oc (lp aq) ?_
 obtain⟨a,e1,h⟩:=aH h
 refine Oc (ah (xP e1) goes133 rfl rfl) (Oc oa (ae.ag ⟨[(1,_),(3,B a)],[(101,_)]⟩ rfl (ab.seq (ab.aa ?_))))
 refine Oc om (Oc om ?_)
 refine cH a [] (fun g2=>trivial) (fun g2=>aj my rfl rfl) (cH a [8] (fun g3=>⟨g3,trivial⟩) (fun g3=>ao cE rfl rfl rfl) (cH a [9] (fun g4=>⟨g4,trivial⟩) (fun g4=>cc rfl) (Oc (aD (fun e=>e) rfl rfl rfl rfl) (Oc oa (ae.ag ⟨[(2,B (a&&(!x0.Bad)))],[]⟩ rfl (ab.ret ?_))))))
 obtain rfl:=zaa h
 refine Fin.af ⟨[(2,_)],[]⟩ rfl (Fin.au [.one (.bool (a&&(!x0.Bad)))] (.inl rfl) rfl (.cons (.tmp rfl) .nil) ⟨rfl,rfl⟩)
def fI (F:Nat) (x0:bY):Option (Int×Bool) :=
 (dH F x0).bind fun d=>if ((!d)||(decide (1073741824<=x0.W.a1)))=true then (some (0,false)) else (Option.bind (iter F (fun a=>if (decide (a<16))=true then ((aS x0.W.l a).bind fun e=>if (decide (e≠0))=true then (some (.inr (.inr (0,false)))) else (some (.inl (i64.wrap (a+1))))) else (some (.inr (.inl ())))) 2) (cW (fun _=>bA (i64.wrap ((i64.wrap x0.W.a1)*4294967296)) fun f=>bA (i64.wrap (f+(i64.wrap x0.W.a0))) fun c=>if x0.Neg=true then (some (i64.wrap (-c),true)) else (some (c,true))) (fun y=>some y)))
theorem gw {F:Nat} {x0:bY} {r:Int×Bool} (h:fI F x0=some r):ax prog (bd mx) 78 [] [.agg (az x0)] (Is [] (.gS [.one (.i r.1),.one (.bool r.2)])):=by
 unfold fI at h
 refine ax.intro 41 Tryz.func78 Tryz.ntmps78 rfl (by simp) fun E=>(ab.seq (ab.aa ?_))
 refine Oc (bE (k:=101) rfl rfl) (Oc oa (Oc oa (ae.ag ⟨[(1,Pt 101 0)],[(101,.box 35 (az x0))]⟩ rfl (ab.seq (ab.aa ?_)))))
 refine Oc (lp aq) ?_
 obtain⟨a,e1,h⟩:=aH h
 refine Oc (ah (dm e1) kv rfl rfl) (Oc oa (ae.ag ⟨[(1,_),(4,B a)],[(101,_)]⟩ rfl (ab.seq (ab.seq (ab.aa ?_)))))
 refine Oc om (Oc (cc rfl) (Oc om ?_))
 refine dD (!(!a)) [] (fun g2=>trivial) (fun g2=>aj aY rfl rfl) (dD (!(!a)) [12] (fun g3=>⟨g3,trivial⟩) (fun g3=>aK bH (by decide) (by decide) rfl rfl rfl) (dD (!(!a)) [13] (fun g4=>⟨g4,trivial⟩) (fun g4=>ao bn rfl rfl rfl) (dD (!(!a)) [14] (fun g5=>⟨g5,trivial⟩) (fun g5=>gf rfl rfl) (Oc (aW (fun e=>by first|(rw[e];rfl)|(simp only at e;rw[e];rfl)) rfl rfl rfl rfl) (ae.ag ⟨[(1,_),(16,B ((!a)||(decide (1073741824<=x0.W.a1))))],[(101,_)]⟩ rfl (ab.ite h rfl (fun _ h=>?_) (fun _ h=>?_)))))))
 refine ab.seq (ab.aa ?_)
 refine Oc oa (Oc oa (ae.ag ⟨[(2,I 0),(3,B false)],[]⟩ rfl (ab.ret (Fin.ay ?_))))
 obtain rfl:=zaa h
 refine Fin.af ⟨[(2,_),(3,_)],[]⟩ rfl (Fin.au [.one (.i 0),.one (.bool false)] (.inl rfl) rfl (.cons (.tmp rfl) (.cons (.tmp rfl) .nil)) ⟨rfl,rfl⟩)
 refine ab.skip (Fin.af ⟨[(1,_)],[(101,_)]⟩ rfl (Fin.then ?_))
 obtain⟨v6,h7,h⟩:=aH h
 refine ab.bR (v:=v6) (fun (_:Unit)=>⟨[(1,Pt 101 0)],[(101,.box 35 (az x0))]⟩) (fun z=>.inl z) ?_ ?_
 refine ab.seq (ab.aa ?_)
 refine Oc oa (ae.ag ⟨[(1,_),(5,I 2)],[(101,_)]⟩ rfl (ab.block (ab.cx h7 (fun (d:Int)=>⟨[(1,Pt 101 0),(5,I d)],[(101,.box 35 (az x0))]⟩) [1,5] [101] rfl ?_)))
 rintro d o8 h9 hy10
 refine ab.seq (ab.seq (ab.aa ?_))
 refine Oc om (Oc (bt rfl rfl) (ae.ag ⟨[(1,_),(5,_),(18,B (decide (d<16)))],[(101,_)]⟩ rfl (ab.ite h9 rfl (fun _ h9=>?_) (fun _ h9=>?_))))
 refine ab.skip (Fin.af ⟨[(1,_),(5,_)],[(101,_)]⟩ rfl (Fin.then (ab.seq (ab.block (ab.seq (ab.aa ?_))))))
 refine Oc om (Oc (aj aY rfl rfl) ?_)
 obtain⟨f,e11,h9⟩:=aH h9
 refine Oc (aK bH (aR e11) (cD e11) rfl rfl rfl) (Oc (ao bn rfl rfl (cA (post:=[]) (k:=.u32) [.bool x0.Bad,.bool x0.Neg] e11 rfl rfl rfl)) (Oc (dd rfl rfl) (ae.ag ⟨[(1,_),(5,_),(25,B (decide (f≠0)))],[(101,_)]⟩ rfl (ab.ite h9 rfl (fun _ h9=>?_) (fun _ h9=>?_)))))
 refine ab.seq (ab.aa ?_)
 refine Oc oa (Oc oa (ae.ag ⟨[(2,I 0),(3,B false)],[]⟩ rfl (ab.ret (Fin.bc (Fin.ay ?_)))))
 obtain rfl:=hy10 _ (zaa h9).symm
 refine Fin.ay (Fin.bc (Fin.ay ?_))
 obtain rfl:=zaa h
 refine Fin.af ⟨[(2,_),(3,_)],[]⟩ rfl (Fin.au [.one (.i 0),.one (.bool false)] (.inl rfl) rfl (.cons (.tmp rfl) (.cons (.tmp rfl) .nil)) ⟨rfl,rfl⟩)
 refine ab.skip (Fin.aA (Fin.af ⟨[(1,_),(5,_)],[(101,_)]⟩ rfl (Fin.then (ab.aa ?_))))
 refine Oc om (Oc (aL rfl rfl) (Oc oa (ae.nil ?_)))
 exact Fin.bB [1,5] [101] (i64.wrap (d+1)) (zaa h9) rfl
 refine ab.exit (Fin.aw ?_)
 obtain rfl:=hy10 _ (zaa h9).symm
 refine Fin.aw (Fin.aJ ?_)
 exact Fin.join [1] [101] () rfl rfl
 rintro _ hv
 subst v6
 refine ab.seq (ab.aa ?_)
 refine Oc (aj aY rfl rfl) (Oc (aK bH (by decide) (by decide) rfl rfl rfl) (Oc (ao bn rfl rfl rfl) (Oc (aE bT nA rfl) ?_)))
 refine ae.cJ .i64 h rfl (kU rfl rfl) (fun g h=>?_)
 refine Oc (aj aY rfl rfl) (Oc (aK bH (by decide) (by decide) rfl rfl rfl) (ae.af ⟨[(1,_),(30,I g),(32,Pt 101 2)],[(101,_)]⟩ rfl (Oc (ao bn rfl rfl rfl) (Oc (aE bT nA rfl) ?_))))
 refine ae.cJ .i64 h rfl (aL rfl rfl) (fun c h=>?_)
 refine Oc oa (ae.ag ⟨[(1,_),(6,I c)],[(101,_)]⟩ rfl (ab.seq (ab.seq (ab.aa ?_))))
 refine Oc (aj bJ rfl rfl) (Oc (ao cE rfl rfl rfl) (ae.ag ⟨[(6,_),(37,B x0.Neg)],[]⟩ rfl (ab.ite h rfl (fun _ h=>?_) (fun _ h=>?_))))
 refine ab.seq (ab.aa ?_)
 refine Oc om (Oc (yF rfl) (Oc oa (Oc oa (ae.ag ⟨[(2,I (i64.wrap (-c))),(3,B true)],[]⟩ rfl (ab.ret (Fin.ay ?_))))))
 obtain rfl:=zaa h
 refine Fin.af ⟨[(2,_),(3,_)],[]⟩ rfl (Fin.au [.one (.i (i64.wrap (-c))),.one (.bool true)] (.inl rfl) rfl (.cons (.tmp rfl) (.cons (.tmp rfl) .nil)) ⟨rfl,rfl⟩)
 refine ab.skip (Fin.af ⟨[(6,_)],[]⟩ rfl (Fin.then (ab.seq (ab.aa ?_))))
 refine Oc om (Oc oa (Oc oa (ae.ag ⟨[(2,I c),(3,B true)],[]⟩ rfl (ab.ret ?_))))
 obtain rfl:=zaa h
 refine Fin.af ⟨[(2,_),(3,_)],[]⟩ rfl (Fin.au [.one (.i c),.one (.bool true)] (.inl rfl) rfl (.cons (.tmp rfl) (.cons (.tmp rfl) .nil)) ⟨rfl,rfl⟩)
def oH (F:Nat) (n0:Int):Option Bool :=
 some ((decide (n0<2147483648))&&(decide ((-2147483648)<n0)))
theorem ue {F:Nat} {n0:Int} {r:Bool} (h:oH F n0=some r):ax prog (bd mx) 84 [] [.one (.i n0)] (Is [] (.b (.one (.bool r)))):=by
 unfold oH at h
 refine ax.intro 9 Tryz.func84 Tryz.ntmps84 rfl (by simp) fun E=>(ab.seq (ab.aa ?_))
 refine Oc oa (ae.ag ⟨[(0,I n0)],[]⟩ rfl (ab.seq (ab.aa ?_)))
 refine Oc om (Oc (bt rfl rfl) (Oc om ?_))
 refine cH (decide (n0<2147483648)) [] (fun g1=>trivial) (fun g1=>om) (cH (decide (n0<2147483648)) [6] (fun g2=>by exact⟨g2,trivial⟩) (fun g2=>dy rfl rfl) (Oc (aD (fun e=>e) rfl rfl rfl rfl) (Oc oa (ae.ag ⟨[(2,B ((decide (n0<2147483648))&&(decide ((-2147483648)<n0))))],[]⟩ rfl (ab.ret ?_)))))
 obtain rfl:=zaa h
 refine Fin.af ⟨[(2,_)],[]⟩ rfl (Fin.au [.one (.bool ((decide (n0<2147483648))&&(decide ((-2147483648)<n0))))] (.inl rfl) rfl (.cons (.tmp rfl) .nil) ⟨rfl,rfl⟩)
def cO (F:Nat) (x0:bY):Option (List Int) :=
 Option.bind (iter F (bQ fun a c=>if (decide (c<16))=true then ((aS x0.W.l c).bind fun e=>(aS x0.W.l c).bind fun f=>(ma .u32 f 65536).bind fun g=>(gU a [i64.wrap (Int.tmod e 65536),i64.wrap g]).bind fun h=>some (.inl (h,i64.wrap (c+1)))) else (some (.inr a))) ([],0)) (fun d=>(gQ F d).bind fun j=>some j)
theorem cY {F:Nat} {x0:bY} {r:(List Int)} (h:cO F x0=some r):ax prog (bd mx) 81 [] [.agg (az x0)] (Is [] (.b (.one (.sl 1 (r.map eI))))):=by
 unfold cO at h
 refine ax.intro 26 Tryz.func81 Tryz.ntmps81 rfl (by simp) fun E=>(ab.seq (ab.aa ?_))
 refine Oc (bE (k:=101) rfl rfl) (Oc oa (ae.ag ⟨[(1,Pt 101 0)],[(101,.box 35 (az x0))]⟩ rfl (ab.seq (ab.aa ?_))))
 refine Oc oa (ae.ag ⟨[(1,_),(3,.b (.one (.nil)))],[(101,_)]⟩ rfl ?_)
 obtain⟨v1,h2,h⟩:=aH h
 refine ab.bR (v:=v1) (fun (d:List Int)=>⟨[(3,.b (.row 103))],[(103,.row 3 1 (d.map eI))]⟩) (fun z=>z) ?_ ?_
 refine ab.seq (ab.aa ?_)
 refine Oc oa (ae.ag ⟨[(1,_),(3,_),(4,I 0)],[(101,_)]⟩ rfl (ab.block (ab.kr 3 103 1 3 rfl (by decide) rfl (ab.cx h2 (bQ fun (c:List Int) (a:Int)=>⟨[(1,Pt 101 0),(3,.b (.row 103)),(4,I a)],[(101,.box 35 (az x0)),(103,.row 3 1 (c.map eI))]⟩) [1,3,4] [101,103] rfl ?_))))
 rintro⟨c,a⟩ o3 h4 hy5
 refine ab.seq (ab.seq (ab.aa ?_))
 refine Oc om (Oc (bt rfl rfl) (ae.ag ⟨[(1,_),(3,_),(4,_),(6,B (decide (a<16)))],[(101,_),(103,_)]⟩ rfl (ab.ite h4 rfl (fun _ h4=>?_) (fun _ h4=>?_))))
 refine ab.skip (Fin.af ⟨[(1,_),(3,_),(4,_)],[(101,_),(103,_)]⟩ rfl (Fin.then (ab.seq (ab.block (ab.af ⟨[(1,_),(3,_),(4,_)],[(101,_),(103,_)]⟩ rfl ?_)))))
 obtain⟨e,e6,h4⟩:=aH h4
 obtain⟨m,e7,h4⟩:=aH h4
 obtain⟨f,e8,h4⟩:=aH h4
 obtain⟨g,e9,h4⟩:=aH h4
 refine ab.jH mixed 14 [.b (.row 103),I a,Pt 101 2,.b (.ptr 101 (2+(a:Int).toNat*1)),.b (.one (.int .u32 e)),.b (.one (.int .u32 (Int.tmod e 65536))),I (i64.wrap (Int.tmod e 65536)),I a,Pt 101 2,.b (.ptr 101 (2+(a:Int).toNat*1)),.b (.one (.int .u32 m)),.b (.one (.int .u32 f)),I (i64.wrap f),.b (.one (.sl 1 ([i64.wrap (Int.tmod e 65536),i64.wrap f].map eI)))] [1,3,4] [101,103] (s':=⟨[(1,_),(3,_),(4,_)],[(101,_),(103,.row 3 1 (g.map eI))]⟩) rfl ⟨fun _=>.p om,fun _=>.p om,fun _=>.p (aj aY rfl rfl),fun _=>.p (aK bH (aR e6) (cD e6) rfl rfl rfl),fun _=>.p (ao bn rfl rfl (cA (post:=[]) (k:=.u32) [.bool x0.Bad,.bool x0.Neg] e6 rfl rfl rfl)),fun _=>.p (lY (by decide) rfl rfl),fun _=>.p (aE bT nA rfl),fun _=>.p om,fun _=>.p (aj aY rfl rfl),fun _=>.p (aK bH (aR e7) (cD e7) rfl rfl rfl),fun _=>.p (ao bn rfl rfl (cA (post:=[]) (k:=.u32) [.bool x0.Bad,.bool x0.Neg] e7 rfl rfl rfl)),fun _=>.p (fv e8 rfl rfl),fun _=>.p (aE bT nA rfl),fun _=>.p (mX (es:=[i64.wrap (Int.tmod e 65536),i64.wrap f].map eI) cZ rfl rfl (cg fun _=>rfl) rfl (by decide) (by decide)),trivial⟩ ⟨_,by exact .p (ye cZ (oo e9) (oi e9) rfl rfl rfl (jj e9) rfl),⟨_,by exact .p oa,rfl⟩⟩ rfl (Fin.aA (Fin.af ⟨[(1,_),(3,_),(4,_)],[(101,_),(103,_)]⟩ rfl (Fin.then (ab.aa ?_))))
 refine Oc om (Oc (aL rfl rfl) (Oc oa (ae.nil ?_)))
 exact Fin.bB [1,3,4] [101,103] (g,i64.wrap (a+1)) (zaa h4) rfl
 refine ab.exit (Fin.aw ?_)
 obtain rfl:=hy5 _ (zaa h4).symm
 refine Fin.aw (Fin.aJ ?_)
 exact Fin.join [3] [103] c rfl rfl
 rintro d hv
 subst v1
 refine ab.seq (ab.aa ?_)
 refine Oc om (ae.c5 103 rfl ?_)
 obtain⟨j,e10,h⟩:=aH h
 refine Oc (ah (hZ e10) pC rfl rfl) (Oc oa (ae.ag ⟨[(2,.b (.one (.sl 1 (j.map eI))))],[]⟩ rfl (ab.ret ?_)))
 obtain rfl:=zaa h
 refine Fin.af ⟨[(2,_)],[]⟩ rfl (Fin.au [.one (.sl 1 (j.map eI))] (.inl rfl) rfl (.cons (.tmp rfl) .nil) ⟨rfl,rfl⟩)
def lf (F:Nat) (a0:List Int) (b0:List Int):Option (List Int) :=
 bA (i64.wrap ((a0.length:Int)+(b0.length:Int))) fun r=>Option.bind (mk? (0:Int) (i64.wrap (r+1)) (i64.wrap (r+1))) (fun z=>Option.bind (iter F (bQ fun h g=>if (decide (g<(a0.length:Int)))=true then (Option.bind (Option.bind (iter F (bQ fun e c=>if (decide (c<(b0.length:Int)))=true then ((aS e (i64.wrap (g+c))).bind fun t=>(aS a0 g).bind fun u=>(aS b0 c).bind fun v=>(aS e (i64.wrap (g+c))).bind fun ac=>some (.inl (e.set (i64.wrap (g+c):Int).toNat (i64.wrap (t+(i64.wrap (u*v)))),i64.wrap (c+1)))) else (some (.inr e))) (h,0)) (fun m=>Option.bind (iter F (iJ fun a d f=>if (decide (f<(a.length:Int)))=true then ((aS a f).bind fun k=>bA (Int.tmod (i64.wrap (k+d)) 65536) fun w=>(aS a f).bind fun ad=>(ma .i64 (i64.wrap (k+d)) 65536).bind fun x=>some (.inl (a.set (f:Int).toNat w,x,i64.wrap (f+1)))) else (some (.inr a))) (m,0,0)) (fun j=>some j))) (fun o=>some (.inl (o,i64.wrap (g+1))))) else (some (.inr h))) (z,0)) (fun q=>(gQ F q).bind fun y=>some y))
theorem su {F:Nat} {a0:List Int} {b0:List Int} {r:(List Int)} (h:lf F a0 b0=some r):ax prog (bd mx) 85 [] [.one (.sl 1 (a0.map eI)),.one (.sl 1 (b0.map eI))] (Is [] (.b (.one (.sl 1 (r.map eI))))):=by
 unfold lf at h
 refine ax.intro 72 Tryz.func85 Tryz.ntmps85 rfl (by simp) fun E=>(ab.seq (ab.aa ?_))
 refine Oc oa (ae.ag ⟨[(0,.b (.one (.sl 1 (a0.map eI)))),(1,.b (.one (.sl 1 (b0.map eI))))],[]⟩ rfl (ab.seq (ab.aa ?_)))
 refine Oc om (Oc (ba fZ rfl (List.length_map _)) (Oc om (Oc (ba fZ rfl (List.length_map _)) ?_)))
 refine ae.cJ .i64 h rfl (aL rfl rfl) (fun al h=>(ae.af ⟨[(0,_),(1,_),(15,I al)],[]⟩ rfl (Oc (aL rfl rfl) ?_)))
 obtain⟨am,e1,h⟩:=aH h
 refine Oc (mn (k:=101) (enc:=eI) cZ e1 (by decide) (.cons .refl .nil) rfl rfl rfl) (Oc oa (ae.ag ⟨[(0,_),(1,_),(5,.b (.row 101))],[(101,.row 3 1 (am.map eI))]⟩ rfl ?_))
 obtain⟨v2,h3,h⟩:=aH h
 refine ab.bR (v:=v2) (fun (x:List Int)=>⟨[(5,.b (.row 101))],[(101,.row 3 1 (x.map eI))]⟩) (fun z=>z) ?_ ?_
 refine ab.seq (ab.aa ?_)
 refine Oc oa (ae.ag ⟨[(0,_),(1,_),(5,_),(6,I 0)],[(101,_)]⟩ rfl (ab.block (ab.cx h3 (bQ fun (t:List Int) (c:Int)=>⟨[(0,.b (.one (.sl 1 (a0.map eI)))),(1,.b (.one (.sl 1 (b0.map eI)))),(5,.b (.row 101)),(6,I c)],[(101,.row 3 1 (t.map eI))]⟩) [0,1,5,6] [101] rfl ?_)))
 rintro⟨t,c⟩ o4 h5 hy6
 refine ab.seq (ab.seq (ab.aa ?_))
 refine Oc om (Oc om (Oc (ba fZ rfl (List.length_map _)) (Oc (bt rfl rfl) (ae.ag ⟨[(0,_),(1,_),(5,_),(6,_),(21,B (decide (c<(a0.length:Int))))],[(101,_)]⟩ rfl (ab.ite h5 rfl (fun _ h5=>?_) (fun _ h5=>?_))))))
 refine ab.skip (Fin.af ⟨[(0,_),(1,_),(5,_),(6,_)],[(101,_)]⟩ rfl (Fin.then ?_))
 obtain⟨v7,h8,h5⟩:=aH h5
 refine ab.bR (v:=v7) (fun (u:List Int)=>⟨[(0,.b (.one (.sl 1 (a0.map eI)))),(1,.b (.one (.sl 1 (b0.map eI)))),(5,.b (.row 101)),(6,I c)],[(101,.row 3 1 (u.map eI))]⟩) (fun z=>z) ?_ ?_
 refine ab.block ?_
 obtain⟨v9,h10,h8⟩:=aH h8
 refine ab.bR (v:=v9) (fun (y:List Int)=>⟨[(0,.b (.one (.sl 1 (a0.map eI)))),(1,.b (.one (.sl 1 (b0.map eI)))),(5,.b (.row 101)),(6,I c)],[(101,.row 3 1 (y.map eI))]⟩) (fun z=>z) ?_ ?_
 refine ab.seq (ab.aa ?_)
 refine Oc oa (ae.ag ⟨[(0,_),(1,_),(5,_),(6,_),(7,I 0)],[(101,_)]⟩ rfl (ab.block (ab.cx h10 (bQ fun (m:List Int) (a:Int)=>⟨[(0,.b (.one (.sl 1 (a0.map eI)))),(1,.b (.one (.sl 1 (b0.map eI)))),(5,.b (.row 101)),(6,I c),(7,I a)],[(101,.row 3 1 (m.map eI))]⟩) [0,1,5,6,7] [101] rfl ?_)))
 rintro⟨m,a⟩ o11 h12 hy13
 refine ab.seq (ab.seq (ab.aa ?_))
 refine Oc om (Oc om (Oc (ba fZ rfl (List.length_map _)) (Oc (bt rfl rfl) (ae.ag ⟨[(0,_),(1,_),(5,_),(6,_),(7,_),(27,B (decide (a<(b0.length:Int))))],[(101,_)]⟩ rfl (ab.ite h12 rfl (fun _ h12=>?_) (fun _ h12=>?_))))))
 refine ab.skip (Fin.af ⟨[(0,_),(1,_),(5,_),(6,_),(7,_)],[(101,_)]⟩ rfl (Fin.then (ab.seq (ab.block (ab.af ⟨[(0,_),(1,_),(5,_),(6,_),(7,_)],[(101,_)]⟩ rfl ?_)))))
 obtain⟨w,e14,h12⟩:=aH h12
 obtain⟨o,e15,h12⟩:=aH h12
 obtain⟨q,e16,h12⟩:=aH h12
 obtain⟨ap,e17,h12⟩:=aH h12
 refine ab.jH mixed 21 [.b (.row 101),I c,I a,I (i64.wrap (c+a)),.b (.row 101),I c,I a,I (i64.wrap (c+a)),.b (.nh 101 ((i64.wrap (c+a):Int).toNat*1)),I w,.b (.one (.sl 1 (a0.map eI))),I c,.b (.dc [.i o]),I o,.b (.one (.sl 1 (b0.map eI))),I a,.b (.dc [.i q]),I q,I (i64.wrap (o*q)),I (i64.wrap (w+(i64.wrap (o*q)))),.b (.nh 101 ((i64.wrap (c+a):Int).toNat*1))] [0,1,5,6,7] [101] (s':=⟨[(0,_),(1,_),(5,_),(6,_),(7,_)],[(101,.row 3 1 ((m.set (i64.wrap (c+a):Int).toNat (i64.wrap (w+(i64.wrap (o*q))))).map eI))]⟩) rfl ⟨fun _=>.p om,fun _=>.p om,fun _=>.p om,fun _=>.p (aL rfl rfl),fun _=>.p om,fun _=>.p om,fun _=>.p om,fun _=>.p (aL rfl rfl),fun _=>.p (fO cZ (aR e14) (mK e14) rfl rfl rfl rfl),fun _=>.p (jX (i:=(i64.wrap (c+a):Int).toNat) (f:=0) bI rfl rfl rfl (cu (e:=eI) e14) rfl),fun _=>.p om,fun _=>.p om,fun _=>.p (bm cZ (aR e15) (cu (e:=eI) e15) rfl rfl),fun _=>.p (bg bI rfl rfl),fun _=>.p om,fun _=>.p om,fun _=>.p (bm cZ (aR e16) (cu (e:=eI) e16) rfl rfl),fun _=>.p (bg bI rfl rfl),fun _=>.p (kU rfl rfl),fun _=>.p (aL rfl rfl),fun _=>.p (fO cZ (aR e17) (mK e17) rfl rfl rfl rfl),trivial⟩ ⟨_,by exact .p (nO (i:=(i64.wrap (c+a):Int).toNat) bI rfl rfl rfl rfl (CC e17) (map_set _ _ _ _)),rfl⟩ rfl (Fin.aA (Fin.af ⟨[(0,_),(1,_),(5,_),(6,_),(7,_)],[(101,_)]⟩ rfl (Fin.then (ab.aa ?_))))
 refine Oc om (Oc (aL rfl rfl) (Oc oa (ae.nil ?_)))
 exact Fin.bB [0,1,5,6,7] [101] (m.set (i64.wrap (c+a):Int).toNat (i64.wrap (w+(i64.wrap (o*q)))),i64.wrap (a+1)) (zaa h12) rfl
 refine ab.exit (Fin.aw ?_)
 obtain rfl:=hy13 _ (zaa h12).symm
 refine Fin.aw (Fin.aJ ?_)
 exact Fin.join [0,1,5,6] [101] m rfl rfl
 rintro y hv
 subst v9
 refine ab.seq (ab.aa ?_)
 refine Oc oa (ae.ag ⟨[(0,_),(1,_),(5,_),(6,_),(8,I 0)],[(101,_)]⟩ rfl (ab.seq (ab.aa ?_)))
 refine Oc oa (ae.ag ⟨[(0,_),(1,_),(5,_),(6,_),(8,_),(9,I 0)],[(101,_)]⟩ rfl (ab.block ?_))
 obtain⟨v18,h19,h8⟩:=aH h8
 refine ab.cx h19 (iJ fun (d:List Int) (g:Int) (j:Int)=>⟨[(0,.b (.one (.sl 1 (a0.map eI)))),(1,.b (.one (.sl 1 (b0.map eI)))),(5,.b (.row 101)),(6,I c),(8,I g),(9,I j)],[(101,.row 3 1 (d.map eI))]⟩) [0,1,5,6,8,9] [101] rfl ?_
 rintro⟨d,g,j⟩ o20 h21 hy22
 refine ab.seq (ab.seq (ab.aa ?_))
 refine Oc om (Oc om (Oc (oJ fZ rfl rfl (List.length_map _)) (Oc (bt rfl rfl) (ae.ag ⟨[(0,_),(1,_),(5,_),(6,_),(8,_),(9,_),(54,B (decide (j<(d.length:Int))))],[(101,_)]⟩ rfl (ab.ite h21 rfl (fun _ h21=>?_) (fun _ h21=>?_))))))
 refine ab.skip (Fin.af ⟨[(0,_),(1,_),(5,_),(6,_),(8,_),(9,_)],[(101,_)]⟩ rfl (Fin.then (ab.seq (ab.block (ab.seq (ab.aa ?_))))))
 refine Oc om (Oc om ?_)
 obtain⟨ak,e23,h21⟩:=aH h21
 refine Oc (fO cZ (aR e23) (mK e23) rfl rfl rfl rfl) (Oc (jX (i:=(j:Int).toNat) (f:=0) bI rfl rfl rfl (cu (e:=eI) e23) rfl) (Oc om (Oc (aL rfl rfl) (Oc oa (ae.ag ⟨[(0,_),(1,_),(5,_),(6,_),(9,_),(10,I (i64.wrap (ak+g)))],[(101,_)]⟩ rfl (ab.seq (ab.aa ?_)))))))
 refine Oc om (Oc om (Oc om ?_))
 refine ae.cJ .i64 h21 rfl (lY (by decide) rfl rfl) (fun ac h21=>?_)
 obtain⟨be,e24,h21⟩:=aH h21
 refine Oc (fO cZ (aR e24) (mK e24) rfl rfl rfl rfl) (Oc (nO (i:=(j:Int).toNat) bI rfl rfl rfl rfl (CC e24) (map_set _ _ _ _)) (ae.ag ⟨[(0,_),(1,_),(5,_),(6,_),(9,_),(10,_)],[(101,.row 3 1 ((d.set (j:Int).toNat ac).map eI))]⟩ rfl (ab.aa (Oc om ?_))))
 obtain⟨ad,e25,h21⟩:=aH h21
 refine Oc (fv e25 rfl rfl) (Oc oa (ae.nil (Fin.aA (Fin.af ⟨[(0,_),(1,_),(5,_),(6,_),(8,I ad),(9,_)],[(101,_)]⟩ rfl (Fin.then (ab.aa ?_))))))
 refine Oc om (Oc (aL rfl rfl) (Oc oa (ae.nil ?_)))
 exact Fin.bB [0,1,5,6,8,9] [101] (d.set (j:Int).toNat ac,ad,i64.wrap (j+1)) (zaa h21) rfl
 refine ab.exit (Fin.aw ?_)
 obtain rfl:=hy22 _ (zaa h21).symm
 refine Fin.aw (Fin.aJ (Fin.aA ?_))
 exact Fin.join [0,1,5,6] [101] d (zaa h8) rfl
 rintro u hv
 subst v7
 refine ab.aa (Oc om (Oc (aL rfl rfl) (Oc oa (ae.nil ?_))))
 exact Fin.bB [0,1,5,6] [101] (u,i64.wrap (c+1)) (zaa h5) rfl
 refine ab.exit (Fin.aw ?_)
 obtain rfl:=hy6 _ (zaa h5).symm
 refine Fin.aw (Fin.aJ ?_)
 exact Fin.join [5] [101] t rfl rfl
 rintro x hv
 subst v2
 refine ab.seq (ab.aa ?_)
 refine Oc om (ae.c5 101 rfl ?_)
 obtain⟨ai,e26,h⟩:=aH h
 refine Oc (ah (hZ e26) pC rfl rfl) (Oc oa (ae.ag ⟨[(4,.b (.one (.sl 1 (ai.map eI))))],[]⟩ rfl (ab.ret ?_)))
 obtain rfl:=zaa h
 refine Fin.af ⟨[(4,_)],[]⟩ rfl (Fin.au [.one (.sl 1 (ai.map eI))] (.inl rfl) rfl (.cons (.tmp rfl) .nil) ⟨rfl,rfl⟩)
def jI (F:Nat) (a0:bY) (b0:bY):Option bY :=
 Option.bind (fI F a0) (bQ fun d a=>Option.bind (fI F b0) (bQ fun e c=>(aT (a&&c) (oH F d)).bind fun f=>(aT ((a&&c)&&f) (oH F e)).bind fun q=>if (((a&&c)&&f)&&q)=true then ((fu F (i64.wrap (d*e))).bind fun r=>some r) else ((dH F a0).bind fun g=>(aT (!(!g)) (dH F b0)).bind fun t=>if ((!g)||(!t))=true then ((iR F).bind fun h=>some h) else ((cO F a0).bind fun j=>(cO F b0).bind fun k=>(lf F j k).bind fun m=>(dw F (a0.Neg != b0.Neg) m).bind fun o=>some o))))
theorem vn {F:Nat} {a0 b0 r:bY} (h:jI F a0 b0=some r):ax prog (bd mx) 38 [] [.agg (az a0),.agg (az b0)] (Is [] (.b (.agg (az r)))):=by
 unfold jI at h
 refine ax.intro 55 Tryz.func38 Tryz.ntmps38 rfl (by simp) fun E=>(ab.seq (ab.aa ?_))
 refine Oc (bE (k:=101) rfl rfl) (Oc (bE (k:=102) rfl rfl) (Oc (aF (k:=103) bO rfl) (ae.ag ⟨[(2,Pt 101 0),(3,Pt 102 0),(4,Pt 103 0)],[(101,.box 35 (az a0)),(102,.box 35 (az b0)),(103,.box 35 dL)]⟩ rfl (ab.seq (ab.aa ?_)))))
 refine Oc (lp aq) ?_
 obtain⟨⟨m,a⟩,e1,h⟩:=aH h
 refine Oc (ah (gw e1) qy rfl rfl) (Oc om (Oc (aG rfl rfl) (Oc (aG rfl rfl) (Oc oa (Oc oa (ae.ag ⟨[(2,_),(3,_),(4,_),(5,I m),(6,B a)],[(101,_),(102,_),(103,_)]⟩ rfl (ab.seq (ab.aa ?_))))))))
 refine Oc (lp aq) ?_
 obtain⟨⟨v,c⟩,e2,h⟩:=aH h
 refine Oc (ah (gw e2) qy rfl rfl) (Oc om (Oc (aG rfl rfl) (Oc (aG rfl rfl) (Oc oa (Oc oa (ae.ag ⟨[(2,_),(3,_),(4,_),(5,_),(6,_),(7,I v),(8,B c)],[(101,_),(102,_),(103,_)]⟩ rfl (ab.seq (ab.seq (ab.aa ?_)))))))))
 refine Oc om (Oc om ?_)
 refine cH a [] (fun g3=>trivial) (fun g3=>om) (Oc (aD (fun e=>e) rfl rfl rfl rfl) (Oc om ?_))
 refine cH (a&&c) [] (fun g4=>trivial) (fun g4=>om) (ae.af ⟨[(2,_),(3,_),(4,_),(5,_),(7,_),(23,B (a&&c)),(24,.opt (a&&c) (.one (.i m)))],[(101,_),(102,_),(103,_)]⟩ rfl ?_)
 obtain⟨j,e6,h⟩:=aH h
 refine cH (a&&c) [24] (fun g5=>⟨g5,trivial⟩) (fun g5=>ah (ue (gc e6 g5)) Ff rfl rfl) (Oc (aD (fun e=>e) rfl rfl rfl rfl) (Oc om ?_))
 refine cH ((a&&c)&&j) [] (fun g7=>trivial) (fun g7=>om) ?_
 obtain⟨w,e9,h⟩:=aH h
 refine cH ((a&&c)&&j) [28] (fun g8=>⟨g8,trivial⟩) (fun g8=>ah (ue (gc e9 g8)) Ff rfl rfl) (Oc (aD (fun e=>e) rfl rfl rfl rfl) (ae.ag ⟨[(2,_),(3,_),(4,_),(5,_),(7,_),(30,B (((a&&c)&&j)&&w))],[(101,_),(102,_),(103,_)]⟩ rfl (ab.ite h rfl (fun _ h=>?_) (fun _ h=>?_))))
 refine ab.seq (ab.aa ?_)
 refine Oc om (Oc om (Oc (kU rfl rfl) ?_))
 obtain⟨o,e10,h⟩:=aH h
 refine Oc (ah (hH e10) pb rfl rfl) (Oc (an aq rfl rfl rfl rfl (zab rfl) rfl) (ae.ag ⟨[(4,_)],[(103,.box 35 (az o))]⟩ rfl (ab.ret (Fin.ay ?_))))
 obtain rfl:=zaa h
 refine Fin.af ⟨[(4,_)],[(103,_)]⟩ rfl (Fin.au [.agg (az o)] (.inl rfl) rfl (.cons (.agg aq rfl rfl rfl rfl) .nil) ⟨rfl,rfl⟩)
 refine ab.skip (Fin.af ⟨[(2,_),(3,_),(4,_)],[(101,_),(102,_),(103,_)]⟩ rfl (Fin.then (ab.seq (ab.seq (ab.aa ?_)))))
 refine Oc (lp aq) ?_
 obtain⟨d,e11,h⟩:=aH h
 refine Oc (ah (dm e11) kv rfl rfl) (Oc (cc rfl) (Oc om ?_))
 refine dD (!(!d)) [] (fun g12=>trivial) (fun g12=>lp aq) (ae.af ⟨[(2,_),(3,_),(4,_),(38,B (!d)),(39,.opt (!(!d)) (.agg (az b0)))],[(101,_),(102,_),(103,_)]⟩ rfl ?_)
 obtain⟨x,e14,h⟩:=aH h
 refine dD (!(!d)) [39] (fun g13=>⟨g13,trivial⟩) (fun g13=>ah (dm (gc e14 g13)) kv rfl rfl) (dD (!(!d)) [40] (fun g15=>⟨g15,trivial⟩) (fun g15=>cc rfl) (Oc (aW (fun e=>by first|(rw[e];rfl)|(simp only at e;rw[e];rfl)) rfl rfl rfl rfl) (ae.ag ⟨[(2,_),(3,_),(4,_),(42,B ((!d)||(!x)))],[(101,_),(102,_),(103,_)]⟩ rfl (ab.ite h rfl (fun _ h=>?_) (fun _ h=>?_)))))
 refine ab.seq (ab.aa ?_)
 obtain⟨g,e16,h⟩:=aH h
 refine Oc (ah (gW e16) qx rfl rfl) (Oc (an aq rfl rfl rfl rfl (zab rfl) rfl) (ae.ag ⟨[(4,_)],[(103,.box 35 (az g))]⟩ rfl (ab.ret (Fin.ay ?_))))
 obtain rfl:=zaa h
 refine Fin.af ⟨[(4,_)],[(103,_)]⟩ rfl (Fin.au [.agg (az g)] (.inl rfl) rfl (.cons (.agg aq rfl rfl rfl rfl) .nil) ⟨rfl,rfl⟩)
 refine ab.skip (Fin.af ⟨[(2,_),(3,_),(4,_)],[(101,_),(102,_),(103,_)]⟩ rfl (Fin.then (ab.seq (ab.af ⟨[(2,_),(3,_),(4,_)],[(101,_),(102,_),(103,_)]⟩ rfl ?_))))
 obtain⟨q,e17,h⟩:=aH h
 obtain⟨t,e18,h⟩:=aH h
 obtain⟨u,e19,h⟩:=aH h
 obtain⟨f,e20,h⟩:=aH h
 refine ab.bN mixed 11 [Pt 101 1,B a0.Neg,Pt 102 1,B b0.Neg,B (a0.Neg != b0.Neg),.b (.agg (az a0)),.b (.one (.sl 1 (q.map eI))),.b (.agg (az b0)),.b (.one (.sl 1 (t.map eI))),.b (.one (.sl 1 (u.map eI))),.b (.agg (az f))] [4] [103] (s':=⟨[(4,_)],[(103,.box 35 (az f))]⟩) rfl ⟨fun _=>.p (aj bJ rfl rfl),fun _=>.p (ao cE rfl rfl rfl),fun _=>.p (aj bJ rfl rfl),fun _=>.p (ao cE rfl rfl rfl),fun _=>.p (gX xG rfl rfl),fun _=>.p (lp aq),fun _=>.p (ah (cY e17) lZ rfl rfl),fun _=>.p (lp aq),fun _=>.p (ah (cY e18) lZ rfl rfl),fun _=>.p (ah (su e19) Fe rfl rfl),fun _=>.p (ah (dK e20) n3 rfl rfl),trivial⟩ ⟨_,by exact .p (an aq rfl rfl rfl rfl (zab rfl) rfl),rfl⟩ rfl (ab.ret ?_)
 obtain rfl:=zaa h
 refine Fin.af ⟨[(4,_)],[(103,_)]⟩ rfl (Fin.au [.agg (az f)] (.inl rfl) rfl (.cons (.agg aq rfl rfl rfl rfl) .nil) ⟨rfl,rfl⟩)
def mB (F:Nat) (a0:List Int) (b0:List Int):Option Bool :=
 Option.bind (bA (max (a0.length:Int) (b0.length:Int)) fun c=>iter F (fun a=>if (decide (0<=a))=true then ((fj F a0 a).bind fun d=>(fj F b0 a).bind fun e=>if (decide (d≠e))=true then ((fj F a0 a).bind fun f=>(fj F b0 a).bind fun g=>some (.inr (.inr (decide (f<g))))) else (some (.inl (i64.wrap (a-1))))) else (some (.inr (.inl ())))) (i64.wrap (c-1))) (cW (fun _=>some false) (fun y=>some y))
theorem ud {F:Nat} {a0:List Int} {b0:List Int} {r:Bool} (h:mB F a0 b0=some r):ax prog (bd mx) 82 [] [.one (.sl 1 (a0.map eI)),.one (.sl 1 (b0.map eI))] (Is [] (.b (.one (.bool r)))):=by
 unfold mB at h
 refine ax.intro 30 Tryz.func82 Tryz.ntmps82 rfl (by simp) fun E=>(ab.seq (ab.aa ?_))
 refine Oc oa (ae.ag ⟨[(0,.b (.one (.sl 1 (a0.map eI)))),(1,.b (.one (.sl 1 (b0.map eI))))],[]⟩ rfl ?_)
 obtain⟨v1,h2,h⟩:=aH h
 refine ab.bR (v:=v1) (fun (_:Unit)=>⟨[],[]⟩) (fun z=>.inl z) ?_ ?_
 refine ab.seq (ab.aa ?_)
 refine Oc om (Oc (ba fZ rfl (List.length_map _)) (Oc om (Oc (ba fZ rfl (List.length_map _)) (ae.af ⟨[(0,_),(1,_),(7,I (a0.length:Int)),(9,I (b0.length:Int))],[]⟩ rfl (ae.cJ .i64 h2 rfl (E1 rfl rfl) (fun e h2=>?_))))))
 refine Oc (bW rfl rfl) (Oc oa (ae.ag ⟨[(0,_),(1,_),(5,I (i64.wrap (e-1)))],[]⟩ rfl (ab.block (ab.cx h2 (fun (a:Int)=>⟨[(0,.b (.one (.sl 1 (a0.map eI)))),(1,.b (.one (.sl 1 (b0.map eI)))),(5,I a)],[]⟩) [0,1,5] [] rfl ?_))))
 rintro a o3 h4 hy5
 refine ab.seq (ab.seq (ab.aa ?_))
 refine Oc om (Oc (gf rfl rfl) (ae.ag ⟨[(0,_),(1,_),(5,_),(13,B (decide (0<=a)))],[]⟩ rfl (ab.ite h4 rfl (fun _ h4=>?_) (fun _ h4=>?_))))
 refine ab.skip (Fin.af ⟨[(0,_),(1,_),(5,_)],[]⟩ rfl (Fin.then (ab.seq (ab.block (ab.seq (ab.aa ?_))))))
 refine Oc om (Oc om ?_)
 obtain⟨f,e6,h4⟩:=aH h4
 refine Oc (ah (fF e6) nJ rfl rfl) (Oc om (Oc om ?_))
 obtain⟨g,e7,h4⟩:=aH h4
 refine Oc (ah (fF e7) nJ rfl rfl) (Oc (dd rfl rfl) (ae.ag ⟨[(0,_),(1,_),(5,_),(22,B (decide (f≠g)))],[]⟩ rfl (ab.ite h4 rfl (fun _ h4=>?_) (fun _ h4=>?_))))
 refine ab.seq (ab.aa ?_)
 refine Oc om (Oc om ?_)
 obtain⟨c,e8,h4⟩:=aH h4
 refine Oc (ah (fF e8) nJ rfl rfl) (Oc om (Oc om (ae.af ⟨[(25,I c),(26,.b (.one (.sl 1 (b0.map eI)))),(27,I a)],[]⟩ rfl ?_)))
 obtain⟨d,e9,h4⟩:=aH h4
 refine Oc (ah (fF e9) nJ rfl rfl) (Oc (bt rfl rfl) (Oc oa (ae.ag ⟨[(4,B (decide (c<d)))],[]⟩ rfl (ab.ret (Fin.bc (Fin.ay ?_))))))
 obtain rfl:=hy5 _ (zaa h4).symm
 refine Fin.ay (Fin.bc (Fin.ay ?_))
 obtain rfl:=zaa h
 refine Fin.af ⟨[(4,_)],[]⟩ rfl (Fin.au [.one (.bool (decide (c<d)))] (.inl rfl) rfl (.cons (.tmp rfl) .nil) ⟨rfl,rfl⟩)
 refine ab.skip (Fin.aA (Fin.af ⟨[(0,_),(1,_),(5,_)],[]⟩ rfl (Fin.then (ab.aa ?_))))
 refine Oc om (Oc (bW rfl rfl) (Oc oa (ae.nil ?_)))
 exact Fin.bB [0,1,5] [] (i64.wrap (a-1)) (zaa h4) rfl
 refine ab.exit (Fin.aw ?_)
 obtain rfl:=hy5 _ (zaa h4).symm
 refine Fin.aw (Fin.aJ ?_)
 exact Fin.join [] [] () rfl rfl
 rintro _ hv
 subst v1
 refine ab.seq (ab.aa ?_)
 refine Oc oa (ae.ag ⟨[(4,B false)],[]⟩ rfl (ab.ret ?_))
 obtain rfl:=zaa h
 refine Fin.af ⟨[(4,_)],[]⟩ rfl (Fin.au [.one (.bool false)] (.inl rfl) rfl (.cons (.tmp rfl) .nil) ⟨rfl,rfl⟩)
def iT (F:Nat) (a0:List Int) (b0:List Int):Option (List Int) :=
 Option.bind (iter F (iJ fun e a f=>if (decide (f<(a0.length:Int)))=true then (Option.bind ((aS a0 f).bind fun g=>(fj F b0 f).bind fun h=>Option.bind (bA (i64.wrap ((i64.wrap (g-h))-a)) fun m=>if (decide (m<0))=true then (bA (i64.wrap ((i64.wrap (g-h))-a)) fun o=>some (1,i64.wrap (o+65536))) else (some (0,i64.wrap ((i64.wrap (g-h))-a)))) (bQ fun c q=>(gU e [q]).bind fun r=>some (r,c))) (bQ fun j d=>some (.inl (j,d,i64.wrap (f+1))))) else (some (.inr e))) ([],0,0)) (fun k=>(gQ F k).bind fun t=>some t)
theorem lC {F:Nat} {a0:List Int} {b0:List Int} {r:(List Int)} (h:iT F a0 b0=some r):ax prog (bd mx) 83 [] [.one (.sl 1 (a0.map eI)),.one (.sl 1 (b0.map eI))] (Is [] (.b (.one (.sl 1 (r.map eI))))):=by
 unfold iT at h
 refine ax.intro 35 Tryz.func83 Tryz.ntmps83 rfl (by simp) fun E=>(ab.seq (ab.aa ?_))
 refine Oc oa (ae.ag ⟨[(0,.b (.one (.sl 1 (a0.map eI)))),(1,.b (.one (.sl 1 (b0.map eI))))],[]⟩ rfl (ab.seq (ab.aa ?_)))
 refine Oc oa (ae.ag ⟨[(0,_),(1,_),(5,.b (.one (.nil)))],[]⟩ rfl (ab.seq (ab.aa ?_)))
 refine Oc oa (ae.ag ⟨[(0,_),(1,_),(5,_),(6,I 0)],[]⟩ rfl ?_)
 obtain⟨v1,h2,h⟩:=aH h
 refine ab.bR (v:=v1) (fun (q:List Int)=>⟨[(5,.b (.row 102))],[(102,.row 3 1 (q.map eI))]⟩) (fun z=>z) ?_ ?_
 refine ab.seq (ab.aa ?_)
 refine Oc oa (ae.ag ⟨[(0,_),(1,_),(5,_),(6,_),(7,I 0)],[]⟩ rfl (ab.block (ab.kr 5 102 1 3 rfl (by decide) rfl (ab.cx h2 (iJ fun (f:List Int) (a:Int) (g:Int)=>⟨[(0,.b (.one (.sl 1 (a0.map eI)))),(1,.b (.one (.sl 1 (b0.map eI)))),(5,.b (.row 102)),(6,I a),(7,I g)],[(102,.row 3 1 (f.map eI))]⟩) [0,1,5,6,7] [102] rfl ?_))))
 rintro⟨f,a,g⟩ o3 h4 hy5
 refine ab.seq (ab.seq (ab.aa ?_))
 refine Oc om (Oc om (Oc (ba fZ rfl (List.length_map _)) (Oc (bt rfl rfl) (ae.ag ⟨[(0,_),(1,_),(5,_),(6,_),(7,_),(12,B (decide (g<(a0.length:Int))))],[(102,_)]⟩ rfl (ab.ite h4 rfl (fun _ h4=>?_) (fun _ h4=>?_))))))
 refine ab.skip (Fin.af ⟨[(0,_),(1,_),(5,_),(6,_),(7,_)],[(102,_)]⟩ rfl (Fin.then ?_))
 obtain⟨v6,h7,h4⟩:=aH h4
 refine ab.bR (v:=v6) (bQ fun (j:List Int) (d:Int)=>⟨[(0,.b (.one (.sl 1 (a0.map eI)))),(1,.b (.one (.sl 1 (b0.map eI)))),(5,.b (.row 102)),(6,I d),(7,I g)],[(102,.row 3 1 (j.map eI))]⟩) (fun z=>z) ?_ ?_
 refine ab.block (ab.seq (ab.af ⟨[(0,_),(1,_),(5,_),(6,_),(7,_)],[(102,_)]⟩ rfl ?_))
 obtain⟨m,e8,h7⟩:=aH h7
 obtain⟨o,e9,h7⟩:=aH h7
 refine ab.bN mixed 11 [.b (.one (.sl 1 (a0.map eI))),I g,.b (.dc [.i m]),I m,.b (.one (.sl 1 (b0.map eI))),I g,I o,I (i64.wrap (m-o)),I a,I (i64.wrap ((i64.wrap (m-o))-a)),I (i64.wrap ((i64.wrap (m-o))-a))] [0,1,5,7,8] [102] (s':=⟨[(0,_),(1,_),(5,_),(7,_),(8,I (i64.wrap ((i64.wrap (m-o))-a)))],[(102,_)]⟩) rfl ⟨fun _=>.p om,fun _=>.p om,fun _=>.p (bm cZ (aR e8) (cu (e:=eI) e8) rfl rfl),fun _=>.p (bg bI rfl rfl),fun _=>.p om,fun _=>.p om,fun _=>.p (ah (fF e9) nJ rfl rfl),fun _=>.p (bW rfl rfl),fun _=>.p om,fun _=>.p (bW rfl rfl),fun _=>.p oa,trivial⟩ rfl rfl (ab.seq (ab.aa ?_))
 refine Oc oa (ae.ag ⟨[(0,_),(1,_),(5,_),(6,I 0),(7,_),(8,_)],[(102,_)]⟩ rfl ?_)
 obtain⟨v10,h11,h7⟩:=aH h7
 refine ab.bR (v:=v10) (bQ fun (c:Int) (t:Int)=>⟨[(0,.b (.one (.sl 1 (a0.map eI)))),(1,.b (.one (.sl 1 (b0.map eI)))),(5,.b (.row 102)),(6,I c),(7,I g),(8,I t)],[(102,.row 3 1 (f.map eI))]⟩) (fun z=>z) ?_ ?_
 refine ab.seq (ab.aa ?_)
 refine ae.cJ .i64 h11 rfl om (fun x h11=>?_)
 refine Oc (bt rfl rfl) (ae.ag ⟨[(0,_),(1,_),(5,_),(6,_),(7,_),(8,_),(26,B (decide (x<0)))],[(102,_)]⟩ rfl (ab.ite h11 rfl (fun _ h11=>?_) (fun _ h11=>?_)))
 refine ab.seq (ab.aa ?_)
 refine ae.cJ .i64 h11 rfl om (fun u h11=>?_)
 refine Oc (aL rfl rfl) (Oc oa (ae.ag ⟨[(0,_),(1,_),(5,_),(7,_),(8,I (i64.wrap (u+65536)))],[(102,_)]⟩ rfl (ab.aa (Oc oa (ae.nil ?_)))))
 exact Fin.join [0,1,5,6,7,8] [102] (1,i64.wrap (u+65536)) (zaa h11) rfl
 refine ab.skip ?_
 exact Fin.join [0,1,5,6,7,8] [102] (0,i64.wrap ((i64.wrap (m-o))-a)) (zaa h11) rfl
 rintro⟨c,t⟩ hv
 subst v10
 refine ab.aa (Oc om (Oc om (Oc (aX (k:=103) (es:=[t].map eI) cZ rfl rfl (cg fun _=>rfl) rfl (by decide) (by decide) rfl) ?_)))
 obtain⟨y,e12,h7⟩:=aH h7
 refine Oc (eV cZ (oo e12) (oi e12) rfl rfl rfl rfl (jj e12) rfl) (Oc oa (ae.nil (Fin.aA ?_)))
 exact Fin.join [0,1,5,6,7] [102] (y,c) (zaa h7) rfl
 rintro⟨j,d⟩ hv
 subst v6
 refine ab.aa (Oc om (Oc (aL rfl rfl) (Oc oa (ae.nil ?_))))
 exact Fin.bB [0,1,5,6,7] [102] (j,d,i64.wrap (g+1)) (zaa h4) rfl
 refine ab.exit (Fin.aw ?_)
 obtain rfl:=hy5 _ (zaa h4).symm
 refine Fin.aw (Fin.aJ ?_)
 exact Fin.join [5] [102] f rfl rfl
 rintro q hv
 subst v1
 refine ab.seq (ab.aa ?_)
 refine Oc om (ae.c5 102 rfl ?_)
 obtain⟨w,e13,h⟩:=aH h
 refine Oc (ah (hZ e13) pC rfl rfl) (Oc oa (ae.ag ⟨[(4,.b (.one (.sl 1 (w.map eI))))],[]⟩ rfl (ab.ret ?_)))
 obtain rfl:=zaa h
 refine Fin.af ⟨[(4,_)],[]⟩ rfl (Fin.au [.one (.sl 1 (w.map eI))] (.inl rfl) rfl (.cons (.tmp rfl) .nil) ⟨rfl,rfl⟩)
def mP (F:Nat) (a0:bY) (b0:bY):Option bY :=
 Option.bind (fI F a0) (bQ fun o q=>Option.bind (fI F b0) (bQ fun r t=>if (q&&t)=true then ((fu F (i64.wrap (o+r))).bind fun u=>some u) else ((dH F a0).bind fun d=>(aT (!(!d)) (dH F b0)).bind fun v=>if ((!d)||(!v))=true then ((iR F).bind fun w=>some w) else ((cO F a0).bind fun c=>(cO F b0).bind fun a=>if (a0.Neg==b0.Neg)=true then ((kY F c a).bind fun e=>(dw F a0.Neg e).bind fun f=>some f) else ((mB F c a).bind fun g=>if g=true then ((iT F a c).bind fun h=>(dw F b0.Neg h).bind fun j=>some j) else ((iT F c a).bind fun k=>(dw F a0.Neg k).bind fun m=>some m))))))
theorem AD {F:Nat} {a0 b0 r:bY} (h:mP F a0 b0=some r):ax prog (bd mx) 37 [] [.agg (az a0),.agg (az b0)] (Is [] (.b (.agg (az r)))):=by
 unfold mP at h
 refine ax.intro 70 Tryz.func37 Tryz.ntmps37 rfl (by simp) fun E=>(ab.seq (ab.aa ?_))
 refine Oc (bE (k:=101) rfl rfl) (Oc (bE (k:=102) rfl rfl) (Oc (aF (k:=103) bO rfl) (ae.ag ⟨[(2,Pt 101 0),(3,Pt 102 0),(4,Pt 103 0)],[(101,.box 35 (az a0)),(102,.box 35 (az b0)),(103,.box 35 dL)]⟩ rfl (ab.seq (ab.aa ?_)))))
 refine Oc (lp aq) ?_
 obtain⟨⟨y,o⟩,e1,h⟩:=aH h
 refine Oc (ah (gw e1) qy rfl rfl) (Oc om (Oc (aG rfl rfl) (Oc (aG rfl rfl) (Oc oa (Oc oa (ae.ag ⟨[(2,_),(3,_),(4,_),(5,I y),(6,B o)],[(101,_),(102,_),(103,_)]⟩ rfl (ab.seq (ab.aa ?_))))))))
 refine Oc (lp aq) ?_
 obtain⟨⟨z,q⟩,e2,h⟩:=aH h
 refine Oc (ah (gw e2) qy rfl rfl) (Oc om (Oc (aG rfl rfl) (Oc (aG rfl rfl) (Oc oa (Oc oa (ae.ag ⟨[(2,_),(3,_),(4,_),(5,_),(6,_),(7,I z),(8,B q)],[(101,_),(102,_),(103,_)]⟩ rfl (ab.seq (ab.seq (ab.aa ?_)))))))))
 refine Oc om (Oc om ?_)
 refine cH o [] (fun g3=>trivial) (fun g3=>om) (Oc (aD (fun e=>e) rfl rfl rfl rfl) (ae.ag ⟨[(2,_),(3,_),(4,_),(5,_),(7,_),(25,B (o&&q))],[(101,_),(102,_),(103,_)]⟩ rfl (ab.ite h rfl (fun _ h=>?_) (fun _ h=>?_))))
 refine ab.seq (ab.aa ?_)
 refine Oc om (Oc om (Oc (aL rfl rfl) ?_))
 obtain⟨t,e4,h⟩:=aH h
 refine Oc (ah (hH e4) pb rfl rfl) (Oc (an aq rfl rfl rfl rfl (zab rfl) rfl) (ae.ag ⟨[(4,_)],[(103,.box 35 (az t))]⟩ rfl (ab.ret (Fin.ay ?_))))
 obtain rfl:=zaa h
 refine Fin.af ⟨[(4,_)],[(103,_)]⟩ rfl (Fin.au [.agg (az t)] (.inl rfl) rfl (.cons (.agg aq rfl rfl rfl rfl) .nil) ⟨rfl,rfl⟩)
 refine ab.skip (Fin.af ⟨[(2,_),(3,_),(4,_)],[(101,_),(102,_),(103,_)]⟩ rfl (Fin.then (ab.seq (ab.seq (ab.aa ?_)))))
 refine Oc (lp aq) ?_
 obtain⟨c,e5,h⟩:=aH h
 refine Oc (ah (dm e5) kv rfl rfl) (Oc (cc rfl) (Oc om ?_))
 refine dD (!(!c)) [] (fun g6=>trivial) (fun g6=>lp aq) (ae.af ⟨[(2,_),(3,_),(4,_),(33,B (!c)),(34,.opt (!(!c)) (.agg (az b0)))],[(101,_),(102,_),(103,_)]⟩ rfl ?_)
 obtain⟨ac,e8,h⟩:=aH h
 refine dD (!(!c)) [34] (fun g7=>⟨g7,trivial⟩) (fun g7=>ah (dm (gc e8 g7)) kv rfl rfl) (dD (!(!c)) [35] (fun g9=>⟨g9,trivial⟩) (fun g9=>cc rfl) (Oc (aW (fun e=>by first|(rw[e];rfl)|(simp only at e;rw[e];rfl)) rfl rfl rfl rfl) (ae.ag ⟨[(2,_),(3,_),(4,_),(37,B ((!c)||(!ac)))],[(101,_),(102,_),(103,_)]⟩ rfl (ab.ite h rfl (fun _ h=>?_) (fun _ h=>?_)))))
 refine ab.seq (ab.aa ?_)
 obtain⟨u,e10,h⟩:=aH h
 refine Oc (ah (gW e10) qx rfl rfl) (Oc (an aq rfl rfl rfl rfl (zab rfl) rfl) (ae.ag ⟨[(4,_)],[(103,.box 35 (az u))]⟩ rfl (ab.ret (Fin.ay ?_))))
 obtain rfl:=zaa h
 refine Fin.af ⟨[(4,_)],[(103,_)]⟩ rfl (Fin.au [.agg (az u)] (.inl rfl) rfl (.cons (.agg aq rfl rfl rfl rfl) .nil) ⟨rfl,rfl⟩)
 refine ab.skip (Fin.af ⟨[(2,_),(3,_),(4,_)],[(101,_),(102,_),(103,_)]⟩ rfl (Fin.then (ab.seq (ab.aa ?_))))
 refine Oc (lp aq) ?_
 obtain⟨j,e11,h⟩:=aH h
 refine Oc (ah (cY e11) lZ rfl rfl) (Oc oa (ae.ag ⟨[(2,_),(3,_),(4,_),(9,.b (.one (.sl 1 (j.map eI))))],[(101,_),(102,_),(103,_)]⟩ rfl (ab.seq (ab.aa ?_))))
 refine Oc (lp aq) ?_
 obtain⟨a,e12,h⟩:=aH h
 refine Oc (ah (cY e12) lZ rfl rfl) (Oc oa (ae.ag ⟨[(2,_),(3,_),(4,_),(9,_),(10,.b (.one (.sl 1 (a.map eI))))],[(101,_),(102,_),(103,_)]⟩ rfl (ab.seq (ab.seq (ab.aa ?_)))))
 refine Oc (aj bJ rfl rfl) (Oc (ao cE rfl rfl rfl) (Oc (aj bJ rfl rfl) (Oc (ao cE rfl rfl rfl) (Oc (vt xG rfl rfl) (ae.ag ⟨[(2,_),(3,_),(4,_),(9,_),(10,_),(47,B (a0.Neg==b0.Neg))],[(101,_),(102,_),(103,_)]⟩ rfl (ab.ite h rfl (fun _ h=>?_) (fun _ h=>?_)))))))
 refine ab.seq (ab.af ⟨[(2,_),(4,_),(9,_),(10,_)],[(101,_),(103,_)]⟩ rfl ?_)
 obtain⟨v,e13,h⟩:=aH h
 obtain⟨d,e14,h⟩:=aH h
 refine ab.bN mixed 6 [Pt 101 1,B a0.Neg,.b (.one (.sl 1 (j.map eI))),.b (.one (.sl 1 (a.map eI))),.b (.one (.sl 1 (v.map eI))),.b (.agg (az d))] [4] [103] (s':=⟨[(4,_)],[(103,.box 35 (az d))]⟩) rfl ⟨fun _=>.p (aj bJ rfl rfl),fun _=>.p (ao cE rfl rfl rfl),fun _=>.p om,fun _=>.p om,fun _=>.p (ah (pP e13) Bu rfl rfl),fun _=>.p (ah (dK e14) n3 rfl rfl),trivial⟩ ⟨_,by exact .p (an aq rfl rfl rfl rfl (zab rfl) rfl),rfl⟩ rfl (ab.ret (Fin.ay ?_))
 obtain rfl:=zaa h
 refine Fin.af ⟨[(4,_)],[(103,_)]⟩ rfl (Fin.au [.agg (az d)] (.inl rfl) rfl (.cons (.agg aq rfl rfl rfl rfl) .nil) ⟨rfl,rfl⟩)
 refine ab.skip (Fin.af ⟨[(2,_),(3,_),(4,_),(9,_),(10,_)],[(101,_),(102,_),(103,_)]⟩ rfl (Fin.then (ab.seq (ab.aa ?_))))
 refine Oc om (Oc om ?_)
 obtain⟨m,e15,h⟩:=aH h
 refine Oc (ah (ud e15) Fg rfl rfl) (Oc oa (ae.ag ⟨[(2,_),(3,_),(4,_),(9,_),(10,_),(11,B m)],[(101,_),(102,_),(103,_)]⟩ rfl (ab.seq (ab.seq (ab.aa ?_)))))
 refine Oc om (ae.ag ⟨[(2,_),(3,_),(4,_),(9,_),(10,_),(57,B m)],[(101,_),(102,_),(103,_)]⟩ rfl (ab.ite h rfl (fun _ h=>?_) (fun _ h=>?_)))
 refine ab.seq (ab.af ⟨[(3,_),(4,_),(9,_),(10,_)],[(102,_),(103,_)]⟩ rfl ?_)
 obtain⟨w,e16,h⟩:=aH h
 obtain⟨f,e17,h⟩:=aH h
 refine ab.bN mixed 6 [Pt 102 1,B b0.Neg,.b (.one (.sl 1 (a.map eI))),.b (.one (.sl 1 (j.map eI))),.b (.one (.sl 1 (w.map eI))),.b (.agg (az f))] [4] [103] (s':=⟨[(4,_)],[(103,.box 35 (az f))]⟩) rfl ⟨fun _=>.p (aj bJ rfl rfl),fun _=>.p (ao cE rfl rfl rfl),fun _=>.p om,fun _=>.p om,fun _=>.p (ah (lC e16) yK rfl rfl),fun _=>.p (ah (dK e17) n3 rfl rfl),trivial⟩ ⟨_,by exact .p (an aq rfl rfl rfl rfl (zab rfl) rfl),rfl⟩ rfl (ab.ret (Fin.ay ?_))
 obtain rfl:=zaa h
 refine Fin.af ⟨[(4,_)],[(103,_)]⟩ rfl (Fin.au [.agg (az f)] (.inl rfl) rfl (.cons (.agg aq rfl rfl rfl rfl) .nil) ⟨rfl,rfl⟩)
 refine ab.skip (Fin.af ⟨[(2,_),(4,_),(9,_),(10,_)],[(101,_),(103,_)]⟩ rfl (Fin.then (ab.seq (ab.af ⟨[(2,_),(4,_),(9,_),(10,_)],[(101,_),(103,_)]⟩ rfl ?_))))
 obtain⟨x,e18,h⟩:=aH h
 obtain⟨g,e19,h⟩:=aH h
 refine ab.bN mixed 6 [Pt 101 1,B a0.Neg,.b (.one (.sl 1 (j.map eI))),.b (.one (.sl 1 (a.map eI))),.b (.one (.sl 1 (x.map eI))),.b (.agg (az g))] [4] [103] (s':=⟨[(4,_)],[(103,.box 35 (az g))]⟩) rfl ⟨fun _=>.p (aj bJ rfl rfl),fun _=>.p (ao cE rfl rfl rfl),fun _=>.p om,fun _=>.p om,fun _=>.p (ah (lC e18) yK rfl rfl),fun _=>.p (ah (dK e19) n3 rfl rfl),trivial⟩ ⟨_,by exact .p (an aq rfl rfl rfl rfl (zab rfl) rfl),rfl⟩ rfl (ab.ret ?_)
 obtain rfl:=zaa h
 refine Fin.af ⟨[(4,_)],[(103,_)]⟩ rfl (Fin.au [.agg (az g)] (.inl rfl) rfl (.cons (.agg aq rfl rfl rfl rfl) .nil) ⟨rfl,rfl⟩)
def kZ (F:Nat) (x0:bY):Option Int :=
 (dH F x0).bind fun a=>(aT (!(!a)) (cO F x0)).bind fun c=>if ((!a)||(decide ((c.length:Int)=0)))=true then (some 0) else (if x0.Neg=true then (some (-1)) else (some 1))
theorem uf {F:Nat} {x0:bY} {r:Int} (h:kZ F x0=some r):ax prog (bd mx) 86 [] [.agg (az x0)] (Is [] (.b (.one (.i r)))):=by
 unfold kZ at h
 refine ax.intro 14 Tryz.func86 Tryz.ntmps86 rfl (by simp) fun E=>(ab.seq (ab.aa ?_))
 refine Oc (bE (k:=101) rfl rfl) (Oc oa (ae.ag ⟨[(1,Pt 101 0)],[(101,.box 35 (az x0))]⟩ rfl (ab.seq (ab.seq (ab.aa ?_)))))
 refine Oc (lp aq) ?_
 obtain⟨a,e1,h⟩:=aH h
 refine Oc (ah (dm e1) kv rfl rfl) (Oc (cc rfl) (Oc om ?_))
 refine dD (!(!a)) [] (fun g2=>trivial) (fun g2=>lp aq) (ae.af ⟨[(1,_),(6,B (!a)),(7,.opt (!(!a)) (.agg (az x0)))],[(101,_)]⟩ rfl ?_)
 obtain⟨c,e4,h⟩:=aH h
 refine dD (!(!a)) [7] (fun g3=>⟨g3,trivial⟩) (fun g3=>ah (cY (gc e4 g3)) lZ rfl rfl) (dD (!(!a)) [8] (fun g5=>⟨g5,trivial⟩) (fun g5=>ba fZ rfl (List.length_map _)) (dD (!(!a)) [9] (fun g6=>⟨g6,trivial⟩) (fun g6=>b8 rfl rfl) (Oc (aW (fun e=>by first|(rw[e];rfl)|(simp only at e;rw[e];rfl)) rfl rfl rfl rfl) (ae.ag ⟨[(1,_),(11,B ((!a)||(decide ((c.length:Int)=0))))],[(101,_)]⟩ rfl (ab.ite h rfl (fun _ h=>?_) (fun _ h=>?_))))))
 refine ab.seq (ab.aa ?_)
 refine Oc oa (ae.ag ⟨[(2,I 0)],[]⟩ rfl (ab.ret (Fin.ay ?_)))
 obtain rfl:=zaa h
 refine Fin.af ⟨[(2,_)],[]⟩ rfl (Fin.au [.one (.i 0)] (.inl rfl) rfl (.cons (.tmp rfl) .nil) ⟨rfl,rfl⟩)
 refine ab.skip (Fin.af ⟨[(1,_)],[(101,_)]⟩ rfl (Fin.then (ab.seq (ab.seq (ab.aa ?_)))))
 refine Oc (aj bJ rfl rfl) (Oc (ao cE rfl rfl rfl) (ae.ag ⟨[(13,B x0.Neg)],[]⟩ rfl (ab.ite h rfl (fun _ h=>?_) (fun _ h=>?_))))
 refine ab.seq (ab.aa ?_)
 refine Oc oa (ae.ag ⟨[(2,I (-1))],[]⟩ rfl (ab.ret (Fin.ay ?_)))
 obtain rfl:=zaa h
 refine Fin.af ⟨[(2,_)],[]⟩ rfl (Fin.au [.one (.i (-1))] (.inl rfl) rfl (.cons (.tmp rfl) .nil) ⟨rfl,rfl⟩)
 refine ab.skip (Fin.af ⟨[],[]⟩ rfl (Fin.then (ab.seq (ab.aa ?_))))
 refine Oc oa (ae.ag ⟨[(2,I 1)],[]⟩ rfl (ab.ret ?_))
 obtain rfl:=zaa h
 refine Fin.af ⟨[(2,_)],[]⟩ rfl (Fin.au [.one (.i 1)] (.inl rfl) rfl (.cons (.tmp rfl) .nil) ⟨rfl,rfl⟩)
def qI (F:Nat):Option bY :=
 (fu F 1).bind fun a=>some a
theorem Ay {F:Nat} {r:bY} (h:qI F=some r):ax prog (bd mx) 134 [] [] (Is [] (.b (.agg (az r)))):=by
 unfold qI at h
 refine ax.intro 2 Tryz.func134 Tryz.ntmps134 rfl (by simp) fun E=>(ab.seq (ab.aa ?_))
 refine Oc (aF (k:=101) bO rfl) (ae.ag ⟨[(0,Pt 101 0)],[(101,.box 35 dL)]⟩ rfl (ab.seq (ab.aa ?_)))
 obtain⟨a,e1,h⟩:=aH h
 refine Oc (ah (hH e1) pb rfl rfl) (Oc (an aq rfl rfl rfl rfl (zab rfl) rfl) (ae.ag ⟨[(0,_)],[(101,.box 35 (az a))]⟩ rfl (ab.ret ?_)))
 obtain rfl:=zaa h
 refine Fin.af ⟨[(0,_)],[(101,_)]⟩ rfl (Fin.au [.agg (az a)] (.inl rfl) rfl (.cons (.agg aq rfl rfl rfl rfl) .nil) ⟨rfl,rfl⟩)
def qJ (F:Nat):Option s9 :=
 (iR F).bind fun a=>(qI F).bind fun c=>some (⟨a,c⟩:s9)
theorem Az {F:Nat} {r:s9} (h:qJ F=some r):ax prog (bd mx) 87 [] [] (Is [] (.b (.agg (km r)))):=by
 unfold qJ at h
 refine ax.intro 4 Tryz.func87 Tryz.ntmps87 rfl (by simp) fun E=>(ab.seq (ab.aa ?_))
 refine Oc (aF (k:=101) lM rfl) (ae.ag ⟨[(0,Pt 101 0)],[(101,.box 37 wh)]⟩ rfl (ab.seq (ab.aa ?_)))
 obtain⟨a,e1,h⟩:=aH h
 refine Oc (ah (gW e1) qx rfl rfl) ?_
 obtain⟨c,e2,h⟩:=aH h
 refine Oc (ah (Ay e2) goes134 rfl rfl) (Oc (aU oF rfl rfl) (Oc (an dM rfl rfl rfl rfl (zab rfl) rfl) (ae.ag ⟨[(0,_)],[(101,.box 37 (az a++(az c)))]⟩ rfl (ab.ret ?_))))
 obtain rfl:=zaa h
 refine Fin.af ⟨[(0,_)],[(101,_)]⟩ rfl (Fin.au [.agg (az a++(az c))] (.inl rfl) rfl (.cons (.agg dM rfl rfl rfl rfl) .nil) ⟨rfl,rfl⟩)
def qM (F:Nat) (x0:bY):Option bY :=
 (dH F x0).bind fun a=>if (!a)=true then ((iR F).bind fun c=>some c) else ((cO F x0).bind fun d=>(dw F false d).bind fun e=>some e)
theorem AE {F:Nat} {x0 r:bY} (h:qM F x0=some r):ax prog (bd mx) 135 [] [.agg (az x0)] (Is [] (.b (.agg (az r)))):=by
 unfold qM at h
 refine ax.intro 10 Tryz.func135 Tryz.ntmps135 rfl (by simp) fun E=>(ab.seq (ab.aa ?_))
 refine Oc (bE (k:=101) rfl rfl) (Oc (aF (k:=102) bO rfl) (ae.ag ⟨[(1,Pt 101 0),(2,Pt 102 0)],[(101,.box 35 (az x0)),(102,.box 35 dL)]⟩ rfl (ab.seq (ab.seq (ab.aa ?_)))))
 refine Oc (lp aq) ?_
 obtain⟨d,e1,h⟩:=aH h
 refine Oc (ah (dm e1) kv rfl rfl) (Oc (cc rfl) (ae.ag ⟨[(1,_),(2,_),(5,B (!d))],[(101,_),(102,_)]⟩ rfl (ab.ite h rfl (fun _ h=>?_) (fun _ h=>?_))))
 refine ab.seq (ab.aa ?_)
 obtain⟨a,e2,h⟩:=aH h
 refine Oc (ah (gW e2) qx rfl rfl) (Oc (an aq rfl rfl rfl rfl (zab rfl) rfl) (ae.ag ⟨[(2,_)],[(102,.box 35 (az a))]⟩ rfl (ab.ret (Fin.ay ?_))))
 obtain rfl:=zaa h
 refine Fin.af ⟨[(2,_)],[(102,_)]⟩ rfl (Fin.au [.agg (az a)] (.inl rfl) rfl (.cons (.agg aq rfl rfl rfl rfl) .nil) ⟨rfl,rfl⟩)
 refine ab.skip (Fin.af ⟨[(1,_),(2,_)],[(101,_),(102,_)]⟩ rfl (Fin.then (ab.seq (ab.aa ?_))))
 refine Oc (lp aq) ?_
 obtain⟨e,e3,h⟩:=aH h
 refine Oc (ah (cY e3) lZ rfl rfl) ?_
 obtain⟨c,e4,h⟩:=aH h
 refine Oc (ah (dK e4) n3 rfl rfl) (Oc (an aq rfl rfl rfl rfl (zab rfl) rfl) (ae.ag ⟨[(2,_)],[(102,.box 35 (az c))]⟩ rfl (ab.ret ?_)))
 obtain rfl:=zaa h
 refine Fin.af ⟨[(2,_)],[(102,_)]⟩ rfl (Fin.au [.agg (az c)] (.inl rfl) rfl (.cons (.agg aq rfl rfl rfl rfl) .nil) ⟨rfl,rfl⟩)
def nH (F:Nat) (l0:List Int) (k0:Int):Option Int :=
 if (decide (k0<0))=true then (some 0) else ((fj F l0 k0).bind fun a=>some a)
theorem pI {F:Nat} {l0:List Int} {k0 r:Int} (h:nH F l0 k0=some r):ax prog (bd mx) 166 [] [.one (.sl 1 (l0.map eI)),.one (.i k0)] (Is [] (.b (.one (.i r)))):=by
 unfold nH at h
 refine ax.intro 10 Tryz.func166 Tryz.ntmps166 rfl (by simp) fun E=>(ab.seq (ab.aa ?_))
 refine Oc oa (ae.ag ⟨[(0,.b (.one (.sl 1 (l0.map eI)))),(1,I k0)],[]⟩ rfl (ab.seq (ab.seq (ab.aa ?_))))
 refine Oc om (Oc (bt rfl rfl) (ae.ag ⟨[(0,_),(1,_),(6,B (decide (k0<0)))],[]⟩ rfl (ab.ite h rfl (fun _ h=>?_) (fun _ h=>?_))))
 refine ab.seq (ab.aa ?_)
 refine Oc oa (ae.ag ⟨[(4,I 0)],[]⟩ rfl (ab.ret (Fin.ay ?_)))
 obtain rfl:=zaa h
 refine Fin.af ⟨[(4,_)],[]⟩ rfl (Fin.au [.one (.i 0)] (.inl rfl) rfl (.cons (.tmp rfl) .nil) ⟨rfl,rfl⟩)
 refine ab.skip (Fin.af ⟨[(0,_),(1,_)],[]⟩ rfl (Fin.then (ab.seq (ab.aa ?_))))
 refine Oc om (Oc om ?_)
 obtain⟨a,e1,h⟩:=aH h
 refine Oc (ah (fF e1) nJ rfl rfl) (Oc oa (ae.ag ⟨[(4,I a)],[]⟩ rfl (ab.ret ?_)))
 obtain rfl:=zaa h
 refine Fin.af ⟨[(4,_)],[]⟩ rfl (Fin.au [.one (.i a)] (.inl rfl) rfl (.cons (.tmp rfl) .nil) ⟨rfl,rfl⟩)
def j9 (F:Nat) (a0:List Int) (b0:List Int):Option ((List Int)×(List Int)) :=
 Option.bind (mk? (0:Int) (a0.length:Int) (a0.length:Int)) (fun am=>(aS b0 (i64.wrap ((b0.length:Int)-1))).bind fun ap=>(nH F b0 (i64.wrap ((b0.length:Int)-2))).bind fun be=>Option.bind (bA (i64.wrap ((a0.length:Int)-1)) fun bi=>iter F (iJ fun h j d=>if (decide (0<=d))=true then (Option.bind ((aS a0 d).bind fun k=>(gU [k] j).bind fun m=>(gQ F m).bind fun c=>(nH F c (b0.length:Int)).bind fun o=>bA (i64.wrap ((b0.length:Int)-1)) fun q=>(nH F c q).bind fun r=>bA (i64.wrap ((i64.wrap (o*4294967296))+(i64.wrap (r*65536)))) fun t=>bA (i64.wrap ((b0.length:Int)-2)) fun u=>(nH F c u).bind fun v=>bA (i64.wrap ((i64.wrap (ap*65536))+be)) fun w=>(ma .i64 (i64.wrap (t+v)) w).bind fun f=>(lf F b0 [min 65535 f]).bind fun x=>Option.bind (iter F (bQ fun g a=>(mB F c a).bind fun y=>if y=true then ((iT F a b0).bind fun z=>some (.inl (i64.wrap (g-1),z))) else (some (.inr (g,a)))) (min 65535 f,x)) (bQ fun ac e=>(aS h d).bind fun bo=>(iT F c e).bind fun ad=>some (h.set (d:Int).toNat ac,ad))) (bQ fun ai ak=>some (.inl (ai,ak,i64.wrap (d-1))))) else (some (.inr (h,j)))) (am,[],bi)) (bQ fun bk bl=>(gQ F bk).bind fun al=>some (al,bl)))
theorem rf {F:Nat} {a0:List Int} {b0:List Int} {r:(List Int)×(List Int)} (h:j9 F a0 b0=some r):ax prog (bd mx) 136 [] [.one (.sl 1 (a0.map eI)),.one (.sl 1 (b0.map eI))] (Is [] (.gS [.one (.sl 1 (r.1.map eI)),.one (.sl 1 (r.2.map eI))])):=by
 unfold j9 at h
 refine ax.intro 84 Tryz.func136 Tryz.ntmps136 rfl (by simp) fun E=>(ab.seq (ab.aa ?_))
 refine Oc oa (Oc oa (ae.ag ⟨[(0,.b (.one (.sl 1 (a0.map eI)))),(1,.b (.one (.sl 1 (b0.map eI))))],[]⟩ rfl (ab.seq (ab.aa ?_))))
 refine Oc om (Oc (ba fZ rfl (List.length_map _)) ?_)
 obtain⟨bk,e1,h⟩:=aH h
 refine Oc (mn (k:=101) (enc:=eI) cZ e1 (by decide) (.cons .refl .nil) rfl rfl rfl) (Oc oa (ae.ag ⟨[(0,_),(1,_),(6,.b (.row 101))],[(101,.row 3 1 (bk.map eI))]⟩ rfl (ab.seq (ab.aa ?_))))
 refine Oc om (Oc (ba fZ rfl (List.length_map _)) (Oc oa (ae.ag ⟨[(0,_),(1,_),(6,_),(7,I (b0.length:Int))],[(101,_)]⟩ rfl (ab.seq ?_))))
 obtain⟨a,e2,h⟩:=aH h
 obtain⟨f,e3,h⟩:=aH h
 refine ab.bN mixed 12 [.b (.one (.sl 1 (b0.map eI))),I (b0.length:Int),I (i64.wrap ((b0.length:Int)-1)),.b (.dc [.i a]),I a,I (i64.wrap (a*65536)),.b (.one (.sl 1 (b0.map eI))),I (b0.length:Int),I (i64.wrap ((b0.length:Int)-2)),I f,I (i64.wrap ((i64.wrap (a*65536))+f)),I (i64.wrap ((i64.wrap (a*65536))+f))] [0,1,6,7,8] [101] (s':=⟨[(0,_),(1,_),(6,_),(7,_),(8,I (i64.wrap ((i64.wrap (a*65536))+f)))],[(101,_)]⟩) rfl ⟨fun _=>.p om,fun _=>.p om,fun _=>.p (bW rfl rfl),fun _=>.p (bm cZ (aR e2) (cu (e:=eI) e2) rfl rfl),fun _=>.p (bg bI rfl rfl),fun _=>.p (kU rfl rfl),fun _=>.p om,fun _=>.p om,fun _=>.p (bW rfl rfl),fun _=>.p (ah (pI e3) vY rfl rfl),fun _=>.p (aL rfl rfl),fun _=>.p oa,trivial⟩ rfl rfl (ab.seq (ab.aa ?_))
 refine Oc oa (ae.ag ⟨[(0,_),(1,_),(6,_),(7,_),(8,_),(9,.b (.one (.nil)))],[(101,_)]⟩ rfl ?_)
 obtain⟨v4,h5,h⟩:=aH h
 refine ab.bR (v:=v4) (bQ fun (ai:List Int) (x:List Int)=>⟨[(6,.b (.row 101)),(9,.b (.one (.sl 1 (x.map eI))))],[(101,.row 3 1 (ai.map eI))]⟩) (fun z=>z) ?_ ?_
 refine ab.seq (ab.aa ?_)
 refine Oc om (Oc (ba fZ rfl (List.length_map _)) ?_)
 refine ae.cJ .i64 h5 rfl (bW rfl rfl) (fun bl h5=>?_)
 refine Oc oa (ae.ag ⟨[(0,_),(1,_),(6,_),(7,_),(8,_),(9,_),(10,I bl)],[(101,_)]⟩ rfl (ab.block (ab.si 9 1 rfl (by decide) (ab.cx h5 (iJ fun (j:List Int) (y:List Int) (c:Int)=>⟨[(0,.b (.one (.sl 1 (a0.map eI)))),(1,.b (.one (.sl 1 (b0.map eI)))),(6,.b (.row 101)),(7,I (b0.length:Int)),(8,I (i64.wrap ((i64.wrap (a*65536))+f))),(9,.b (.one (.sl 1 (y.map eI)))),(10,I c)],[(101,.row 3 1 (j.map eI))]⟩) [0,1,6,7,8,9,10] [101] rfl ?_))))
 rintro⟨j,y,c⟩ o6 h7 hy8
 refine ab.seq (ab.seq (ab.aa ?_))
 refine Oc om (Oc (gf rfl rfl) (ae.ag ⟨[(0,_),(1,_),(6,_),(7,_),(8,_),(9,_),(10,_),(33,B (decide (0<=c)))],[(101,_)]⟩ rfl (ab.ite h7 rfl (fun _ h7=>?_) (fun _ h7=>?_))))
 refine ab.skip (Fin.af ⟨[(0,_),(1,_),(6,_),(7,_),(8,_),(9,_),(10,_)],[(101,_)]⟩ rfl (Fin.then ?_))
 obtain⟨v9,h10,h7⟩:=aH h7
 refine ab.bR (v:=v9) (bQ fun (t:List Int) (u:List Int)=>⟨[(0,.b (.one (.sl 1 (a0.map eI)))),(1,.b (.one (.sl 1 (b0.map eI)))),(6,.b (.row 101)),(7,I (b0.length:Int)),(8,I (i64.wrap ((i64.wrap (a*65536))+f))),(9,.b (.one (.sl 1 (u.map eI)))),(10,I c)],[(101,.row 3 1 (t.map eI))]⟩) (fun z=>z) ?_ ?_
 refine ab.block (ab.seq (ab.aa ?_))
 refine Oc om (Oc om ?_)
 obtain⟨ac,e11,h10⟩:=aH h10
 refine Oc (bm cZ (aR e11) (cu (e:=eI) e11) rfl rfl) (Oc (bg bI rfl rfl) (Oc (aX (k:=102) (es:=[ac].map eI) cZ rfl rfl (cg fun _=>rfl) rfl (by decide) (by decide) rfl) (Oc om (ae.af ⟨[(0,_),(1,_),(6,_),(7,_),(8,_),(9,_),(10,_),(40,.b (.row 102)),(41,.b (.one (.sl 1 (y.map eI))))],[(101,_),(102,.row 3 1 ([ac].map eI))]⟩ rfl ?_))))
 obtain⟨bo,e12,h10⟩:=aH h10
 refine Oc (ye cZ (oo e12) (oi e12) rfl rfl rfl (jj e12) rfl) (ae.c5 102 rfl ?_)
 obtain⟨g,e13,h10⟩:=aH h10
 refine Oc (ah (hZ e13) pC rfl rfl) (Oc oa (ae.ag ⟨[(0,.b (.one (.sl 1 (a0.map eI)))),(1,.b (.one (.sl 1 (b0.map eI)))),(6,.b (.row 101)),(7,I (b0.length:Int)),(8,I (i64.wrap ((i64.wrap (a*65536))+f))),(9,.b (.one (.sl 1 (g.map eI)))),(10,I c)],[(101,.row 3 1 (j.map eI))]⟩ rfl (ab.seq (ab.aa ?_))))
 refine Oc om (Oc om ?_)
 obtain⟨ak,e14,h10⟩:=aH h10
 refine Oc (ah (pI e14) vY rfl rfl) (Oc (kU rfl rfl) (Oc om (ae.af ⟨[(0,_),(1,_),(6,_),(7,_),(8,_),(9,_),(10,_),(47,I (i64.wrap (ak*4294967296))),(48,.b (.one (.sl 1 (g.map eI))))],[(101,_)]⟩ rfl (Oc om (ae.cJ .i64 h10 rfl (bW rfl rfl) (fun bs h10=>?_))))))
 obtain⟨bw,e15,h10⟩:=aH h10
 refine Oc (ah (pI e15) vY rfl rfl) (Oc (kU rfl rfl) ?_)
 refine ae.cJ .i64 h10 rfl (aL rfl rfl) (fun al h10=>?_)
 refine Oc om (ae.af ⟨[(0,_),(1,_),(6,_),(7,_),(8,_),(9,_),(10,_),(53,I al),(54,.b (.one (.sl 1 (g.map eI))))],[(101,_)]⟩ rfl (Oc om (ae.cJ .i64 h10 rfl (bW rfl rfl) (fun b1 h10=>?_))))
 obtain⟨b2,e16,h10⟩:=aH h10
 refine Oc (ah (pI e16) vY rfl rfl) (Oc (aL rfl rfl) ?_)
 refine ae.cJ .i64 h10 rfl om (fun b3 h10=>?_)
 obtain⟨w,e17,h10⟩:=aH h10
 refine Oc (fv e17 rfl rfl) (Oc (E0 rfl rfl) (Oc oa (ae.ag ⟨[(0,_),(1,_),(6,_),(7,_),(8,_),(9,_),(10,_),(11,I (min 65535 w))],[(101,_)]⟩ rfl (ab.seq (ab.aa ?_)))))
 refine Oc om (Oc om (Oc (aX (k:=103) (es:=[min 65535 w].map eI) cZ rfl rfl (cg fun _=>rfl) rfl (by decide) (by decide) rfl) (ae.c5 103 rfl ?_)))
 obtain⟨am,e18,h10⟩:=aH h10
 refine Oc (ah (su e18) Fe rfl rfl) (Oc oa (ae.ag ⟨[(0,.b (.one (.sl 1 (a0.map eI)))),(1,.b (.one (.sl 1 (b0.map eI)))),(6,.b (.row 101)),(7,I (b0.length:Int)),(8,I (i64.wrap ((i64.wrap (a*65536))+f))),(9,.b (.one (.sl 1 (g.map eI)))),(10,I c),(11,I (min 65535 w)),(12,.b (.one (.sl 1 (am.map eI))))],[(101,.row 3 1 (j.map eI))]⟩ rfl ?_))
 obtain⟨v19,h20,h10⟩:=aH h10
 refine ab.bR (v:=v19) (bQ fun (q:Int) (m:List Int)=>⟨[(0,.b (.one (.sl 1 (a0.map eI)))),(1,.b (.one (.sl 1 (b0.map eI)))),(6,.b (.row 101)),(7,I (b0.length:Int)),(8,I (i64.wrap ((i64.wrap (a*65536))+f))),(9,.b (.one (.sl 1 (g.map eI)))),(10,I c),(11,I q),(12,.b (.one (.sl 1 (m.map eI))))],[(101,.row 3 1 (j.map eI))]⟩) (fun z=>z) ?_ ?_
 refine ab.block (ab.cx h20 (bQ fun (o:Int) (d:List Int)=>⟨[(0,.b (.one (.sl 1 (a0.map eI)))),(1,.b (.one (.sl 1 (b0.map eI)))),(6,.b (.row 101)),(7,I (b0.length:Int)),(8,I (i64.wrap ((i64.wrap (a*65536))+f))),(9,.b (.one (.sl 1 (g.map eI)))),(10,I c),(11,I o),(12,.b (.one (.sl 1 (d.map eI))))],[(101,.row 3 1 (j.map eI))]⟩) [0,1,6,7,8,9,10,11,12] [101] rfl ?_)
 rintro⟨o,d⟩ o21 h22 hy23
 refine ab.seq (ab.seq (ab.aa ?_))
 refine Oc om (Oc om ?_)
 obtain⟨ap,e24,h22⟩:=aH h22
 refine Oc (ah (ud e24) Fg rfl rfl) (ae.ag ⟨[(0,_),(1,_),(6,_),(7,_),(8,_),(9,_),(10,_),(11,_),(12,_),(68,B ap)],[(101,_)]⟩ rfl (ab.ite h22 rfl (fun _ h22=>?_) (fun _ h22=>?_)))
 refine ab.skip (Fin.af ⟨[(0,_),(1,_),(6,_),(7,_),(8,_),(9,_),(10,_),(11,_),(12,_)],[(101,_)]⟩ rfl (Fin.then (ab.block (ab.seq (ab.aa ?_)))))
 refine Oc om (Oc (bW rfl rfl) (Oc oa (ae.ag ⟨[(0,_),(1,_),(6,_),(7,_),(8,_),(9,_),(10,_),(11,I (i64.wrap (o-1))),(12,_)],[(101,_)]⟩ rfl (ab.aa (Oc om (Oc om ?_))))))
 obtain⟨be,e25,h22⟩:=aH h22
 refine Oc (ah (lC e25) yK rfl rfl) (Oc oa (ae.nil (Fin.aA ?_)))
 exact Fin.bB [0,1,6,7,8,9,10,11,12] [101] (i64.wrap (o-1),be) (zaa h22) rfl
 refine ab.exit (Fin.aw ?_)
 obtain rfl:=hy23 _ (zaa h22).symm
 refine Fin.aw (Fin.aJ ?_)
 exact Fin.join [0,1,6,7,8,9,10,11,12] [101] (o,d) rfl rfl
 rintro⟨q,m⟩ hv
 subst v19
 refine ab.seq (ab.aa ?_)
 refine Oc om (Oc om (Oc om ?_))
 obtain⟨b4,e26,h10⟩:=aH h10
 refine Oc (fO cZ (aR e26) (mK e26) rfl rfl rfl rfl) (Oc (nO (i:=(c:Int).toNat) bI rfl rfl rfl rfl (CC e26) (map_set _ _ _ _)) (ae.ag ⟨[(0,_),(1,_),(6,_),(7,_),(8,_),(9,_),(10,_),(12,_)],[(101,.row 3 1 ((j.set (c:Int).toNat q).map eI))]⟩ rfl (ab.aa (Oc om (Oc om ?_)))))
 obtain⟨bi,e27,h10⟩:=aH h10
 refine Oc (ah (lC e27) yK rfl rfl) (Oc oa (ae.nil (Fin.aA ?_)))
 exact Fin.join [0,1,6,7,8,9,10] [101] (j.set (c:Int).toNat q,bi) (zaa h10) rfl
 rintro⟨t,u⟩ hv
 subst v9
 refine ab.aa (Oc om (Oc (bW rfl rfl) (Oc oa (ae.nil ?_))))
 exact Fin.bB [0,1,6,7,8,9,10] [101] (t,u,i64.wrap (c-1)) (zaa h7) rfl
 refine ab.exit (Fin.aw ?_)
 obtain rfl:=hy8 _ (zaa h7).symm
 refine Fin.aw (Fin.aJ ?_)
 exact Fin.join [6,9] [101] (j,y) rfl rfl
 rintro⟨ai,x⟩ hv
 subst v4
 refine ab.seq (ab.aa ?_)
 refine Oc om (ae.c5 101 rfl ?_)
 obtain⟨ad,e28,h⟩:=aH h
 refine Oc (ah (hZ e28) pC rfl rfl) (Oc om (Oc oa (Oc oa (ae.ag ⟨[(4,.b (.one (.sl 1 (ad.map eI)))),(5,.b (.one (.sl 1 (x.map eI))))],[]⟩ rfl (ab.ret ?_)))))
 obtain rfl:=zaa h
 refine Fin.af ⟨[(4,_),(5,_)],[]⟩ rfl (Fin.au [.one (.sl 1 (ad.map eI)),.one (.sl 1 (x.map eI))] (.inl rfl) rfl (.cons (.tmp rfl) (.cons (.tmp rfl) .nil)) ⟨rfl,rfl⟩)
def qL (F:Nat) (a0:bY) (b0:bY):Option bY :=
 Option.bind (fI F a0) (bQ fun u v=>Option.bind (fI F b0) (bQ fun w x=>Option.bind (if (v&&x)=true then (Option.bind (iter F (bQ fun f e=>if (decide (e≠0))=true then ((wj f e).bind fun z=>some (.inl (e,z))) else (some (.inr f))) (u,w)) (fun ac=>(fu F ac).bind fun g=>(qM F g).bind fun h=>some (.inr h))) else (some (.inl ()))) (cW (fun _=>(dH F a0).bind fun c=>(aT (!(!c)) (dH F b0)).bind fun j=>if ((!c)||(!j))=true then ((iR F).bind fun k=>some k) else ((cO F a0).bind fun m=>(cO F b0).bind fun o=>Option.bind (iter F (bQ fun d a=>if (decide (0<(a.length:Int)))=true then (Option.bind (j9 F d a) (bQ fun ad q=>some (.inl (a,q)))) else (some (.inr d))) (m,o)) (fun r=>(dw F false r).bind fun t=>some t))) (fun y=>some y))))
theorem AB {F:Nat} {a0 b0 r:bY} (h:qL F a0 b0=some r):ax prog (bd mx) 88 [] [.agg (az a0),.agg (az b0)] (Is [] (.b (.agg (az r)))):=by
 unfold qL at h
 refine ax.intro 64 Tryz.func88 Tryz.ntmps88 rfl (by simp) fun E=>(ab.seq (ab.aa ?_))
 refine Oc (bE (k:=101) rfl rfl) (Oc (bE (k:=102) rfl rfl) (Oc (aF (k:=103) bO rfl) (ae.ag ⟨[(2,Pt 101 0),(3,Pt 102 0),(4,Pt 103 0)],[(101,.box 35 (az a0)),(102,.box 35 (az b0)),(103,.box 35 dL)]⟩ rfl (ab.seq (ab.aa ?_)))))
 refine Oc (lp aq) ?_
 obtain⟨⟨al,u⟩,e1,h⟩:=aH h
 refine Oc (ah (gw e1) qy rfl rfl) (Oc om (Oc (aG rfl rfl) (Oc (aG rfl rfl) (Oc oa (Oc oa (ae.ag ⟨[(2,_),(3,_),(4,_),(5,I al),(6,B u)],[(101,_),(102,_),(103,_)]⟩ rfl (ab.seq (ab.aa ?_))))))))
 refine Oc (lp aq) ?_
 obtain⟨⟨am,x⟩,e2,h⟩:=aH h
 refine Oc (ah (gw e2) qy rfl rfl) (Oc om (Oc (aG rfl rfl) (Oc (aG rfl rfl) (Oc oa (Oc oa (ae.ag ⟨[(2,_),(3,_),(4,_),(5,_),(6,_),(7,I am),(8,B x)],[(101,_),(102,_),(103,_)]⟩ rfl ?_))))))
 obtain⟨v3,h4,h⟩:=aH h
 refine ab.bR (v:=v3) (fun (_:Unit)=>⟨[(2,Pt 101 0),(3,Pt 102 0),(4,Pt 103 0)],[(101,.box 35 (az a0)),(102,.box 35 (az b0)),(103,.box 35 dL)]⟩) (fun z=>.inl z) ?_ ?_
 refine ab.seq (ab.aa ?_)
 refine Oc om (Oc om ?_)
 refine cH u [] (fun g5=>trivial) (fun g5=>om) (Oc (aD (fun e=>e) rfl rfl rfl rfl) (ae.ag ⟨[(2,_),(3,_),(4,_),(5,_),(7,_),(27,B (u&&x))],[(101,_),(102,_),(103,_)]⟩ rfl (ab.ite h4 rfl (fun _ h4=>?_) (fun _ h4=>?_))))
 obtain⟨v6,h7,h4⟩:=aH h4
 refine ab.bR (v:=v6) (fun (y:Int)=>⟨[(4,Pt 103 0),(5,I y)],[(103,.box 35 dL)]⟩) (fun z=>z) ?_ ?_
 refine ab.block (ab.cx h7 (bQ fun (w:Int) (d:Int)=>⟨[(4,Pt 103 0),(5,I w),(7,I d)],[(103,.box 35 dL)]⟩) [4,5,7] [103] rfl ?_)
 rintro⟨w,d⟩ o8 h9 hy10
 refine ab.seq (ab.seq (ab.aa ?_))
 refine Oc om (Oc (dd rfl rfl) (ae.ag ⟨[(4,_),(5,_),(7,_),(29,B (decide (d≠0)))],[(103,_)]⟩ rfl (ab.ite h9 rfl (fun _ h9=>?_) (fun _ h9=>?_))))
 refine ab.skip (Fin.af ⟨[(4,_),(5,_),(7,_)],[(103,_)]⟩ rfl (Fin.then (ab.block (ab.seq (ab.aa ?_)))))
 refine Oc om (Oc om ?_)
 obtain⟨ac,e11,h9⟩:=aH h9
 refine Oc (rD e11 rfl rfl) (Oc oa (ae.ag ⟨[(4,_),(7,_),(9,I ac)],[(103,_)]⟩ rfl (ab.seq (ab.aa ?_))))
 refine Oc om (Oc oa (ae.ag ⟨[(4,_),(5,I d),(9,_)],[(103,_)]⟩ rfl (ab.aa (Oc om (Oc oa (ae.nil (Fin.aA ?_)))))))
 exact Fin.bB [4,5,7] [103] (d,ac) (zaa h9) rfl
 refine ab.exit (Fin.aw ?_)
 obtain rfl:=hy10 _ (zaa h9).symm
 refine Fin.aw (Fin.aJ ?_)
 exact Fin.join [4,5] [103] w rfl rfl
 rintro y hv
 subst v6
 refine ab.seq (ab.aa ?_)
 refine Oc om ?_
 obtain⟨ap,e12,h4⟩:=aH h4
 refine Oc (ah (hH e12) pb rfl rfl) ?_
 obtain⟨j,e13,h4⟩:=aH h4
 refine Oc (ah (AE e13) goes135 rfl rfl) (Oc (an aq rfl rfl rfl rfl (zab rfl) rfl) (ae.ag ⟨[(4,_)],[(103,.box 35 (az j))]⟩ rfl (ab.ret ?_)))
 obtain rfl:=zaa h4
 refine Fin.ay ?_
 obtain rfl:=zaa h
 refine Fin.af ⟨[(4,_)],[(103,_)]⟩ rfl (Fin.au [.agg (az j)] (.inl rfl) rfl (.cons (.agg aq rfl rfl rfl rfl) .nil) ⟨rfl,rfl⟩)
 refine ab.skip ?_
 exact Fin.join [2,3,4] [101,102,103] () (zaa h4) rfl
 rintro _ hv
 subst v3
 refine ab.seq (ab.seq (ab.aa ?_))
 refine Oc (lp aq) ?_
 obtain⟨a,e14,h⟩:=aH h
 refine Oc (ah (dm e14) kv rfl rfl) (Oc (cc rfl) (Oc om ?_))
 refine dD (!(!a)) [] (fun g15=>trivial) (fun g15=>lp aq) (ae.af ⟨[(2,_),(3,_),(4,_),(41,B (!a)),(42,.opt (!(!a)) (.agg (az b0)))],[(101,_),(102,_),(103,_)]⟩ rfl ?_)
 obtain⟨ad,e17,h⟩:=aH h
 refine dD (!(!a)) [42] (fun g16=>⟨g16,trivial⟩) (fun g16=>ah (dm (gc e17 g16)) kv rfl rfl) (dD (!(!a)) [43] (fun g18=>⟨g18,trivial⟩) (fun g18=>cc rfl) (Oc (aW (fun e=>by first|(rw[e];rfl)|(simp only at e;rw[e];rfl)) rfl rfl rfl rfl) (ae.ag ⟨[(2,_),(3,_),(4,_),(45,B ((!a)||(!ad)))],[(101,_),(102,_),(103,_)]⟩ rfl (ab.ite h rfl (fun _ h=>?_) (fun _ h=>?_)))))
 refine ab.seq (ab.aa ?_)
 obtain⟨m,e19,h⟩:=aH h
 refine Oc (ah (gW e19) qx rfl rfl) (Oc (an aq rfl rfl rfl rfl (zab rfl) rfl) (ae.ag ⟨[(4,_)],[(103,.box 35 (az m))]⟩ rfl (ab.ret (Fin.ay ?_))))
 obtain rfl:=zaa h
 refine Fin.af ⟨[(4,_)],[(103,_)]⟩ rfl (Fin.au [.agg (az m)] (.inl rfl) rfl (.cons (.agg aq rfl rfl rfl rfl) .nil) ⟨rfl,rfl⟩)
 refine ab.skip (Fin.af ⟨[(2,_),(3,_),(4,_)],[(101,_),(102,_),(103,_)]⟩ rfl (Fin.then (ab.seq (ab.aa ?_))))
 refine Oc (lp aq) ?_
 obtain⟨ai,e20,h⟩:=aH h
 refine Oc (ah (cY e20) lZ rfl rfl) (Oc oa (ae.ag ⟨[(3,_),(4,_),(10,.b (.one (.sl 1 (ai.map eI))))],[(102,_),(103,_)]⟩ rfl (ab.seq (ab.aa ?_))))
 refine Oc (lp aq) ?_
 obtain⟨ak,e21,h⟩:=aH h
 refine Oc (ah (cY e21) lZ rfl rfl) (Oc oa (ae.ag ⟨[(4,_),(10,_),(11,.b (.one (.sl 1 (ak.map eI))))],[(103,_)]⟩ rfl ?_))
 obtain⟨v22,h23,h⟩:=aH h
 refine ab.bR (v:=v22) (fun (o:List Int)=>⟨[(4,Pt 103 0),(10,.b (.one (.sl 1 (o.map eI))))],[(103,.box 35 dL)]⟩) (fun z=>z) ?_ ?_
 refine ab.block (ab.cx h23 (bQ fun (f:List Int) (c:List Int)=>⟨[(4,Pt 103 0),(10,.b (.one (.sl 1 (f.map eI)))),(11,.b (.one (.sl 1 (c.map eI))))],[(103,.box 35 dL)]⟩) [4,10,11] [103] rfl ?_)
 rintro⟨f,c⟩ o24 h25 hy26
 refine ab.seq (ab.seq (ab.aa ?_))
 refine Oc om (Oc (ba fZ rfl (List.length_map _)) (Oc (dy rfl rfl) (ae.ag ⟨[(4,_),(10,_),(11,_),(53,B (decide (0<(c.length:Int))))],[(103,_)]⟩ rfl (ab.ite h25 rfl (fun _ h25=>?_) (fun _ h25=>?_)))))
 refine ab.skip (Fin.af ⟨[(4,_),(10,_),(11,_)],[(103,_)]⟩ rfl (Fin.then (ab.block (ab.seq (ab.aa ?_)))))
 refine Oc om (Oc om ?_)
 obtain⟨⟨q,g⟩,e27,h25⟩:=aH h25
 refine Oc (ah (rf e27) De rfl rfl) (Oc om (Oc (aG rfl rfl) (ae.af ⟨[(4,_),(11,_),(54,.gS [.one (.sl 1 (q.map eI)),.one (.sl 1 (g.map eI))]),(58,.b (.one (.sl 1 (q.map eI))))],[(103,_)]⟩ rfl (Oc (aG rfl rfl) (Oc oa (Oc oa (ae.ag ⟨[(4,_),(11,_),(13,.b (.one (.sl 1 (g.map eI))))],[(103,_)]⟩ rfl (ab.seq (ab.aa ?_)))))))))
 refine Oc om (Oc oa (ae.ag ⟨[(4,_),(10,.b (.one (.sl 1 (c.map eI)))),(13,_)],[(103,_)]⟩ rfl (ab.aa (Oc om (Oc oa (ae.nil (Fin.aA ?_)))))))
 exact Fin.bB [4,10,11] [103] (c,g) (zaa h25) rfl
 refine ab.exit (Fin.aw ?_)
 obtain rfl:=hy26 _ (zaa h25).symm
 refine Fin.aw (Fin.aJ ?_)
 exact Fin.join [4,10] [103] f rfl rfl
 rintro o hv
 subst v22
 refine ab.seq (ab.aa ?_)
 refine Oc om ?_
 obtain⟨t,e28,h⟩:=aH h
 refine Oc (ah (dK e28) n3 rfl rfl) (Oc (an aq rfl rfl rfl rfl (zab rfl) rfl) (ae.ag ⟨[(4,_)],[(103,.box 35 (az t))]⟩ rfl (ab.ret ?_)))
 obtain rfl:=zaa h
 refine Fin.af ⟨[(4,_)],[(103,_)]⟩ rfl (Fin.au [.agg (az t)] (.inl rfl) rfl (.cons (.agg aq rfl rfl rfl rfl) .nil) ⟨rfl,rfl⟩)
def qK (F:Nat) (x0:bY):Option bY :=
 (dH F x0).bind fun a=>if (!a)=true then ((iR F).bind fun c=>some c) else ((cO F x0).bind fun d=>(dw F (!x0.Neg) d).bind fun e=>some e)
theorem AA {F:Nat} {x0 r:bY} (h:qK F x0=some r):ax prog (bd mx) 89 [] [.agg (az x0)] (Is [] (.b (.agg (az r)))):=by
 unfold qK at h
 refine ax.intro 13 Tryz.func89 Tryz.ntmps89 rfl (by simp) fun E=>(ab.seq (ab.aa ?_))
 refine Oc (bE (k:=101) rfl rfl) (Oc (aF (k:=102) bO rfl) (ae.ag ⟨[(1,Pt 101 0),(2,Pt 102 0)],[(101,.box 35 (az x0)),(102,.box 35 dL)]⟩ rfl (ab.seq (ab.seq (ab.aa ?_)))))
 refine Oc (lp aq) ?_
 obtain⟨d,e1,h⟩:=aH h
 refine Oc (ah (dm e1) kv rfl rfl) (Oc (cc rfl) (ae.ag ⟨[(1,_),(2,_),(5,B (!d))],[(101,_),(102,_)]⟩ rfl (ab.ite h rfl (fun _ h=>?_) (fun _ h=>?_))))
 refine ab.seq (ab.aa ?_)
 obtain⟨c,e2,h⟩:=aH h
 refine Oc (ah (gW e2) qx rfl rfl) (Oc (an aq rfl rfl rfl rfl (zab rfl) rfl) (ae.ag ⟨[(2,_)],[(102,.box 35 (az c))]⟩ rfl (ab.ret (Fin.ay ?_))))
 obtain rfl:=zaa h
 refine Fin.af ⟨[(2,_)],[(102,_)]⟩ rfl (Fin.au [.agg (az c)] (.inl rfl) rfl (.cons (.agg aq rfl rfl rfl rfl) .nil) ⟨rfl,rfl⟩)
 refine ab.skip (Fin.af ⟨[(1,_),(2,_)],[(101,_),(102,_)]⟩ rfl (Fin.then (ab.seq (ab.af ⟨[(1,_),(2,_)],[(101,_),(102,_)]⟩ rfl ?_))))
 obtain⟨e,e3,h⟩:=aH h
 obtain⟨a,e4,h⟩:=aH h
 refine ab.bN mixed 6 [Pt 101 1,B x0.Neg,B (!x0.Neg),.b (.agg (az x0)),.b (.one (.sl 1 (e.map eI))),.b (.agg (az a))] [2] [102] (s':=⟨[(2,_)],[(102,.box 35 (az a))]⟩) rfl ⟨fun _=>.p (aj bJ rfl rfl),fun _=>.p (ao cE rfl rfl rfl),fun _=>.p (cc rfl),fun _=>.p (lp aq),fun _=>.p (ah (cY e3) lZ rfl rfl),fun _=>.p (ah (dK e4) n3 rfl rfl),trivial⟩ ⟨_,by exact .p (an aq rfl rfl rfl rfl (zab rfl) rfl),rfl⟩ rfl (ab.ret ?_)
 obtain rfl:=zaa h
 refine Fin.af ⟨[(2,_)],[(102,_)]⟩ rfl (Fin.au [.agg (az a)] (.inl rfl) rfl (.cons (.agg aq rfl rfl rfl rfl) .nil) ⟨rfl,rfl⟩)
def mU (F:Nat) (n0:Int) (m0:Int):Option Int :=
 (ma .i64 n0 m0).bind fun a=>Option.bind ((wj n0 m0).bind fun c=>bA ((decide (c≠0))&&((decide (n0<0)) != (decide (m0<0)))) fun d=>if d=true then (some (i64.wrap (a-1))) else (some a)) (fun e=>some e)
theorem xO {F:Nat} {n0 m0 r:Int} (h:mU F n0 m0=some r):ax prog (bd mx) 137 [] [.one (.i n0),.one (.i m0)] (Is [] (.b (.one (.i r)))):=by
 unfold mU at h
 refine ax.intro 23 Tryz.func137 Tryz.ntmps137 rfl (by simp) fun E=>(ab.seq (ab.aa ?_))
 refine Oc oa (ae.ag ⟨[(0,I n0),(1,I m0)],[]⟩ rfl (ab.seq (ab.aa ?_)))
 refine Oc om (Oc om ?_)
 obtain⟨d,e1,h⟩:=aH h
 refine Oc (fv e1 rfl rfl) (Oc oa (ae.ag ⟨[(0,_),(1,_),(5,I d)],[]⟩ rfl ?_))
 obtain⟨v2,h3,h⟩:=aH h
 refine ab.bR (v:=v2) (fun (c:Int)=>⟨[(5,I c)],[]⟩) (fun z=>z) ?_ ?_
 refine ab.seq (ab.aa ?_)
 refine Oc om (Oc om ?_)
 obtain⟨a,e4,h3⟩:=aH h3
 refine Oc (rD e4 rfl rfl) (Oc (dd rfl rfl) (Oc om ?_))
 refine cH (decide (a≠0)) [] (fun g5=>trivial) (fun g5=>om) (cH (decide (a≠0)) [14] (fun g6=>by exact⟨g6,trivial⟩) (fun g6=>bt rfl rfl) (ae.af ⟨[(1,_),(5,_),(13,B (decide (a≠0))),(15,.opt (decide (a≠0)) (.one (.bool (decide (n0<0)))))],[]⟩ rfl (cH (decide (a≠0)) [] (fun g7=>by exact trivial) (fun g7=>om) (cH (decide (a≠0)) [16] (fun g8=>by exact⟨g8,trivial⟩) (fun g8=>bt rfl rfl) (cH (decide (a≠0)) [15,17] (fun g9=>by exact⟨g9,g9,trivial⟩) (fun g9=>gX xG rfl rfl) (ae.il h3 rfl (aD (fun e=>e) rfl rfl rfl rfl) (fun f h3=>(ae.ag ⟨[(5,_),(19,B f)],[]⟩ rfl (ab.ite h3 rfl (fun _ h3=>?_) (fun _ h3=>?_))))))))))
 refine ab.aa (Oc om (Oc (bW rfl rfl) (Oc oa (ae.nil ?_))))
 exact Fin.join [5] [] (i64.wrap (d-1)) (zaa h3) rfl
 refine ab.skip ?_
 exact Fin.join [5] [] d (zaa h3) rfl
 rintro c hv
 subst v2
 refine ab.seq (ab.aa ?_)
 refine Oc om (Oc oa (ae.ag ⟨[(4,I c)],[]⟩ rfl (ab.ret ?_)))
 obtain rfl:=zaa h
 refine Fin.af ⟨[(4,_)],[]⟩ rfl (Fin.au [.one (.i c)] (.inl rfl) rfl (.cons (.tmp rfl) .nil) ⟨rfl,rfl⟩)
def mO (F:Nat) (a0:bY) (b0:bY):Option bY :=
 Option.bind (fI F a0) (bQ fun q r=>Option.bind (fI F b0) (bQ fun d t=>if ((r&&t)&&(decide (d≠0)))=true then ((mU F q d).bind fun u=>(fu F u).bind fun v=>some v) else ((dH F a0).bind fun c=>(aT (!(!c)) (dH F b0)).bind fun e=>(aT (!((!c)||(!e))) (cO F b0)).bind fun w=>if (((!c)||(!e))||(decide ((w.length:Int)=0)))=true then ((iR F).bind fun f=>some f) else ((cO F a0).bind fun g=>(cO F b0).bind fun h=>Option.bind (j9 F g h) (bQ fun a j=>Option.bind (if ((a0.Neg != b0.Neg)&&(decide (0<(j.length:Int))))=true then ((kY F a [1]).bind fun k=>some k) else (some a)) (fun m=>(dw F (a0.Neg != b0.Neg) m).bind fun o=>some o))))))
theorem vm {F:Nat} {a0 b0 r:bY} (h:mO F a0 b0=some r):ax prog (bd mx) 90 [] [.agg (az a0),.agg (az b0)] (Is [] (.b (.agg (az r)))):=by
 unfold mO at h
 refine ax.intro 76 Tryz.func90 Tryz.ntmps90 rfl (by simp) fun E=>(ab.seq (ab.aa ?_))
 refine Oc (bE (k:=101) rfl rfl) (Oc (bE (k:=102) rfl rfl) (Oc (aF (k:=103) bO rfl) (ae.ag ⟨[(2,Pt 101 0),(3,Pt 102 0),(4,Pt 103 0)],[(101,.box 35 (az a0)),(102,.box 35 (az b0)),(103,.box 35 dL)]⟩ rfl (ab.seq (ab.aa ?_)))))
 refine Oc (lp aq) ?_
 obtain⟨⟨ad,g⟩,e1,h⟩:=aH h
 refine Oc (ah (gw e1) qy rfl rfl) (Oc om (Oc (aG rfl rfl) (Oc (aG rfl rfl) (Oc oa (Oc oa (ae.ag ⟨[(2,_),(3,_),(4,_),(5,I ad),(6,B g)],[(101,_),(102,_),(103,_)]⟩ rfl (ab.seq (ab.aa ?_))))))))
 refine Oc (lp aq) ?_
 obtain⟨⟨t,j⟩,e2,h⟩:=aH h
 refine Oc (ah (gw e2) qy rfl rfl) (Oc om (Oc (aG rfl rfl) (Oc (aG rfl rfl) (Oc oa (Oc oa (ae.ag ⟨[(2,_),(3,_),(4,_),(5,_),(6,_),(7,I t),(8,B j)],[(101,_),(102,_),(103,_)]⟩ rfl (ab.seq (ab.seq (ab.aa ?_)))))))))
 refine Oc om (Oc om ?_)
 refine cH g [] (fun g3=>trivial) (fun g3=>om) (Oc (aD (fun e=>e) rfl rfl rfl rfl) (Oc om ?_))
 refine cH (g&&j) [] (fun g4=>trivial) (fun g4=>om) (cH (g&&j) [26] (fun g5=>by exact⟨g5,trivial⟩) (fun g5=>dd rfl rfl) (Oc (aD (fun e=>e) rfl rfl rfl rfl) (ae.ag ⟨[(2,_),(3,_),(4,_),(5,_),(7,_),(28,B ((g&&j)&&(decide (t≠0))))],[(101,_),(102,_),(103,_)]⟩ rfl (ab.ite h rfl (fun _ h=>?_) (fun _ h=>?_)))))
 refine ab.seq (ab.aa ?_)
 refine Oc om (Oc om ?_)
 obtain⟨ai,e6,h⟩:=aH h
 refine Oc (ah (xO e6) goes137 rfl rfl) ?_
 obtain⟨u,e7,h⟩:=aH h
 refine Oc (ah (hH e7) pb rfl rfl) (Oc (an aq rfl rfl rfl rfl (zab rfl) rfl) (ae.ag ⟨[(4,_)],[(103,.box 35 (az u))]⟩ rfl (ab.ret (Fin.ay ?_))))
 obtain rfl:=zaa h
 refine Fin.af ⟨[(4,_)],[(103,_)]⟩ rfl (Fin.au [.agg (az u)] (.inl rfl) rfl (.cons (.agg aq rfl rfl rfl rfl) .nil) ⟨rfl,rfl⟩)
 refine ab.skip (Fin.af ⟨[(2,_),(3,_),(4,_)],[(101,_),(102,_),(103,_)]⟩ rfl (Fin.then (ab.seq (ab.seq (ab.aa ?_)))))
 refine Oc (lp aq) ?_
 obtain⟨a,e8,h⟩:=aH h
 refine Oc (ah (dm e8) kv rfl rfl) (Oc (cc rfl) (Oc om ?_))
 refine dD (!(!a)) [] (fun g9=>trivial) (fun g9=>lp aq) (ae.af ⟨[(2,_),(3,_),(4,_),(36,B (!a)),(37,.opt (!(!a)) (.agg (az b0)))],[(101,_),(102,_),(103,_)]⟩ rfl ?_)
 obtain⟨f,e11,h⟩:=aH h
 refine dD (!(!a)) [37] (fun g10=>⟨g10,trivial⟩) (fun g10=>ah (dm (gc e11 g10)) kv rfl rfl) (dD (!(!a)) [38] (fun g12=>⟨g12,trivial⟩) (fun g12=>cc rfl) (Oc (aW (fun e=>by first|(rw[e];rfl)|(simp only at e;rw[e];rfl)) rfl rfl rfl rfl) (Oc om ?_)))
 refine dD (!((!a)||(!f))) [] (fun g13=>trivial) (fun g13=>lp aq) ?_
 obtain⟨w,e15,h⟩:=aH h
 refine dD (!((!a)||(!f))) [42] (fun g14=>⟨g14,trivial⟩) (fun g14=>ah (cY (gc e15 g14)) lZ rfl rfl) (ae.af ⟨[(2,_),(3,_),(4,_),(41,B ((!a)||(!f))),(43,.opt (!((!a)||(!f))) (.one (.sl 1 (w.map eI))))],[(101,_),(102,_),(103,_)]⟩ rfl (dD (!((!a)||(!f))) [43] (fun g16=>⟨g16,trivial⟩) (fun g16=>ba fZ rfl (List.length_map _)) (dD (!((!a)||(!f))) [44] (fun g17=>⟨g17,trivial⟩) (fun g17=>b8 rfl rfl) (Oc (aW (fun e=>by first|(rw[e];rfl)|(simp only at e;rw[e];rfl)) rfl rfl rfl rfl) (ae.ag ⟨[(2,_),(3,_),(4,_),(46,B (((!a)||(!f))||(decide ((w.length:Int)=0))))],[(101,_),(102,_),(103,_)]⟩ rfl (ab.ite h rfl (fun _ h=>?_) (fun _ h=>?_)))))))
 refine ab.seq (ab.aa ?_)
 obtain⟨m,e18,h⟩:=aH h
 refine Oc (ah (gW e18) qx rfl rfl) (Oc (an aq rfl rfl rfl rfl (zab rfl) rfl) (ae.ag ⟨[(4,_)],[(103,.box 35 (az m))]⟩ rfl (ab.ret (Fin.ay ?_))))
 obtain rfl:=zaa h
 refine Fin.af ⟨[(4,_)],[(103,_)]⟩ rfl (Fin.au [.agg (az m)] (.inl rfl) rfl (.cons (.agg aq rfl rfl rfl rfl) .nil) ⟨rfl,rfl⟩)
 refine ab.skip (Fin.af ⟨[(2,_),(3,_),(4,_)],[(101,_),(102,_),(103,_)]⟩ rfl (Fin.then (ab.seq (ab.af ⟨[(2,_),(3,_),(4,_)],[(101,_),(102,_),(103,_)]⟩ rfl ?_))))
 obtain⟨x,e19,h⟩:=aH h
 obtain⟨y,e20,h⟩:=aH h
 obtain⟨⟨d,c⟩,e21,h⟩:=aH h
 refine ab.bN mixed 10 [.b (.agg (az a0)),.b (.one (.sl 1 (x.map eI))),.b (.agg (az b0)),.b (.one (.sl 1 (y.map eI))),.gS [.one (.sl 1 (d.map eI)),.one (.sl 1 (c.map eI))],.gS [.one (.sl 1 (d.map eI)),.one (.sl 1 (c.map eI))],.b (.one (.sl 1 (d.map eI))),.b (.one (.sl 1 (c.map eI))),.b (.one (.sl 1 (d.map eI))),.b (.one (.sl 1 (c.map eI)))] [2,3,4,9,10] [101,102,103] (s':=⟨[(2,_),(3,_),(4,_),(9,.b (.one (.sl 1 (d.map eI)))),(10,.b (.one (.sl 1 (c.map eI))))],[(101,_),(102,_),(103,_)]⟩) rfl ⟨fun _=>.p (lp aq),fun _=>.p (ah (cY e19) lZ rfl rfl),fun _=>.p (lp aq),fun _=>.p (ah (cY e20) lZ rfl rfl),fun _=>.p (ah (rf e21) De rfl rfl),fun _=>.p om,fun _=>.p (aG rfl rfl),fun _=>.p (aG rfl rfl),fun _=>.p oa,fun _=>.p oa,trivial⟩ rfl rfl ?_
 obtain⟨v22,h23,h⟩:=aH h
 refine ab.bR (v:=v22) (fun (o:List Int)=>⟨[(2,Pt 101 0),(3,Pt 102 0),(4,Pt 103 0),(9,.b (.one (.sl 1 (o.map eI))))],[(101,.box 35 (az a0)),(102,.box 35 (az b0)),(103,.box 35 dL)]⟩) (fun z=>z) ?_ ?_
 refine ab.seq (ab.aa ?_)
 refine Oc (aj bJ rfl rfl) (Oc (ao cE rfl rfl rfl) (Oc (aj bJ rfl rfl) (Oc (ao cE rfl rfl rfl) (Oc (gX xG rfl rfl) (Oc om ?_)))))
 refine cH (a0.Neg != b0.Neg) [] (fun g24=>trivial) (fun g24=>om) (ae.af ⟨[(2,_),(3,_),(4,_),(9,_),(61,B (a0.Neg != b0.Neg)),(62,.opt (a0.Neg != b0.Neg) (.one (.sl 1 (c.map eI))))],[(101,_),(102,_),(103,_)]⟩ rfl (cH (a0.Neg != b0.Neg) [62] (fun g25=>by exact⟨g25,trivial⟩) (fun g25=>ba fZ rfl (List.length_map _)) (cH (a0.Neg != b0.Neg) [63] (fun g26=>by exact⟨g26,trivial⟩) (fun g26=>dy rfl rfl) (Oc (aD (fun e=>e) rfl rfl rfl rfl) (ae.ag ⟨[(2,_),(3,_),(4,_),(9,_),(65,B ((a0.Neg != b0.Neg)&&(decide (0<(c.length:Int)))))],[(101,_),(102,_),(103,_)]⟩ rfl (ab.ite h23 rfl (fun _ h23=>?_) (fun _ h23=>?_)))))))
 refine ab.aa (Oc om (Oc (aX (k:=104) (es:=[1].map eI) cZ rfl rfl (cg fun _=>rfl) rfl (by decide) (by decide) rfl) (ae.c5 104 rfl ?_)))
 obtain⟨ac,e27,h23⟩:=aH h23
 refine Oc (ah (pP e27) Bu rfl rfl) (Oc oa (ae.nil ?_))
 exact Fin.join [2,3,4,9] [101,102,103] ac (zaa h23) rfl
 refine ab.skip ?_
 exact Fin.join [2,3,4,9] [101,102,103] d (zaa h23) rfl
 rintro o hv
 subst v22
 refine ab.seq (ab.aa ?_)
 refine Oc (aj bJ rfl rfl) (Oc (ao cE rfl rfl rfl) (Oc (aj bJ rfl rfl) (Oc (ao cE rfl rfl rfl) (Oc (gX xG rfl rfl) (Oc om ?_)))))
 obtain⟨q,e28,h⟩:=aH h
 refine Oc (ah (dK e28) n3 rfl rfl) (Oc (an aq rfl rfl rfl rfl (zab rfl) rfl) (ae.ag ⟨[(4,_)],[(103,.box 35 (az q))]⟩ rfl (ab.ret ?_)))
 obtain rfl:=zaa h
 refine Fin.af ⟨[(4,_)],[(103,_)]⟩ rfl (Fin.au [.agg (az q)] (.inl rfl) rfl (.cons (.agg aq rfl rfl rfl rfl) .nil) ⟨rfl,rfl⟩)
def mA (F:Nat) (n0:bY) (d0:bY):Option s9 :=
 (dH F n0).bind fun a=>(aT (!(!a)) (dH F d0)).bind fun c=>(aT (!((!a)||(!c))) (kZ F d0)).bind fun g=>if (((!a)||(!c))||(decide (g=0)))=true then ((qJ F).bind fun h=>some h) else ((qL F n0 d0).bind fun d=>Option.bind ((kZ F d0).bind fun j=>if (decide (j<0))=true then ((qK F d).bind fun k=>some k) else (some d)) (fun e=>(mO F n0 e).bind fun m=>(mO F d0 e).bind fun f=>some (⟨m,f⟩:s9)))
theorem zl {F:Nat} {n0 d0:bY} {r:s9} (h:mA F n0 d0=some r):ax prog (bd mx) 39 [] [.agg (az n0),.agg (az d0)] (Is [] (.b (.agg (km r)))):=by
 unfold mA at h
 refine ax.intro 35 Tryz.func39 Tryz.ntmps39 rfl (by simp) fun E=>(ab.seq (ab.aa ?_))
 refine Oc (bE (k:=101) rfl rfl) (Oc (bE (k:=102) rfl rfl) (Oc (aF (k:=103) lM rfl) (ae.ag ⟨[(2,Pt 101 0),(3,Pt 102 0),(4,Pt 103 0)],[(101,.box 35 (az n0)),(102,.box 35 (az d0)),(103,.box 37 wh)]⟩ rfl (ab.seq (ab.seq (ab.aa ?_))))))
 refine Oc (lp aq) ?_
 obtain⟨a,e1,h⟩:=aH h
 refine Oc (ah (dm e1) kv rfl rfl) (Oc (cc rfl) (Oc om ?_))
 refine dD (!(!a)) [] (fun g2=>trivial) (fun g2=>lp aq) (ae.af ⟨[(2,_),(3,_),(4,_),(9,B (!a)),(10,.opt (!(!a)) (.agg (az d0)))],[(101,_),(102,_),(103,_)]⟩ rfl ?_)
 obtain⟨d,e4,h⟩:=aH h
 refine dD (!(!a)) [10] (fun g3=>⟨g3,trivial⟩) (fun g3=>ah (dm (gc e4 g3)) kv rfl rfl) (dD (!(!a)) [11] (fun g5=>⟨g5,trivial⟩) (fun g5=>cc rfl) (Oc (aW (fun e=>by first|(rw[e];rfl)|(simp only at e;rw[e];rfl)) rfl rfl rfl rfl) (Oc om ?_)))
 refine dD (!((!a)||(!d))) [] (fun g6=>trivial) (fun g6=>lp aq) ?_
 obtain⟨o,e8,h⟩:=aH h
 refine dD (!((!a)||(!d))) [15] (fun g7=>⟨g7,trivial⟩) (fun g7=>ah (uf (gc e8 g7)) Fc rfl rfl) (dD (!((!a)||(!d))) [16] (fun g9=>⟨g9,trivial⟩) (fun g9=>b8 rfl rfl) (Oc (aW (fun e=>by first|(rw[e];rfl)|(simp only at e;rw[e];rfl)) rfl rfl rfl rfl) (ae.ag ⟨[(2,_),(3,_),(4,_),(18,B (((!a)||(!d))||(decide (o=0))))],[(101,_),(102,_),(103,_)]⟩ rfl (ab.ite h rfl (fun _ h=>?_) (fun _ h=>?_)))))
 refine ab.seq (ab.aa ?_)
 obtain⟨j,e10,h⟩:=aH h
 refine Oc (ah (Az e10) goes87 rfl rfl) (Oc (an dM rfl rfl rfl rfl (zab rfl) rfl) (ae.ag ⟨[(4,_)],[(103,.box 37 (km j))]⟩ rfl (ab.ret (Fin.ay ?_))))
 obtain rfl:=zaa h
 refine Fin.af ⟨[(4,_)],[(103,_)]⟩ rfl (Fin.au [.agg (km j)] (.inl rfl) rfl (.cons (.agg dM rfl rfl rfl rfl) .nil) ⟨rfl,rfl⟩)
 refine ab.skip (Fin.af ⟨[(2,_),(3,_),(4,_)],[(101,_),(102,_),(103,_)]⟩ rfl (Fin.then (ab.seq (ab.aa ?_))))
 refine Oc (lp aq) (Oc (lp aq) ?_)
 obtain⟨m,e11,h⟩:=aH h
 refine Oc (ah (AB e11) goes88 rfl rfl) (Oc (aF (k:=104) bO rfl) (Oc (an aq rfl rfl rfl rfl (zab rfl) rfl) (ae.ag ⟨[(2,_),(3,_),(4,_),(5,Pt 104 0)],[(101,_),(102,_),(103,_),(104,.box 35 (az m))]⟩ rfl ?_)))
 obtain⟨v12,h13,h⟩:=aH h
 refine ab.bR (v:=v12) (fun (f:bY)=>⟨[(2,Pt 101 0),(3,Pt 102 0),(4,Pt 103 0),(5,Pt 104 0)],[(101,.box 35 (az n0)),(102,.box 35 (az d0)),(103,.box 37 wh),(104,.box 35 (az f))]⟩) (fun z=>z) ?_ ?_
 refine ab.seq (ab.aa ?_)
 refine Oc (lp aq) ?_
 obtain⟨q,e14,h13⟩:=aH h13
 refine Oc (ah (uf e14) Fc rfl rfl) (Oc (bt rfl rfl) (ae.ag ⟨[(2,_),(3,_),(4,_),(5,_),(25,B (decide (q<0)))],[(101,_),(102,_),(103,_),(104,_)]⟩ rfl (ab.ite h13 rfl (fun _ h13=>?_) (fun _ h13=>?_))))
 refine ab.aa (Oc (lp aq) ?_)
 obtain⟨t,e15,h13⟩:=aH h13
 refine Oc (ah (AA e15) goes89 rfl rfl) (Oc (an aq rfl rfl rfl rfl (zab rfl) rfl) (ae.nil ?_))
 exact Fin.join [2,3,4,5] [101,102,103,104] t (zaa h13) rfl
 refine ab.skip ?_
 exact Fin.join [2,3,4,5] [101,102,103,104] m (zaa h13) rfl
 rintro f hv
 subst v12
 refine ab.seq (ab.af ⟨[(2,_),(3,_),(4,_),(5,_)],[(101,_),(102,_),(103,_),(104,_)]⟩ rfl ?_)
 obtain⟨g,e16,h⟩:=aH h
 obtain⟨c,e17,h⟩:=aH h
 refine ab.bN mixed 7 [.b (.agg (az n0)),.b (.agg (az f)),.b (.agg (az g)),.b (.agg (az d0)),.b (.agg (az f)),.b (.agg (az c)),.b (.agg (az g++(az c)))] [4] [103] (s':=⟨[(4,_)],[(103,.box 37 (az g++(az c)))]⟩) rfl ⟨fun _=>.p (lp aq),fun _=>.p (lp aq),fun _=>.p (ah (vm e16) Fb rfl rfl),fun _=>.p (lp aq),fun _=>.p (lp aq),fun _=>.p (ah (vm e17) Fb rfl rfl),fun _=>.p (aU oF rfl rfl),trivial⟩ ⟨_,by exact .p (an dM rfl rfl rfl rfl (zab rfl) rfl),rfl⟩ rfl (ab.ret ?_)
 obtain rfl:=zaa h
 refine Fin.af ⟨[(4,_)],[(103,_)]⟩ rfl (Fin.au [.agg (az g++(az c))] (.inl rfl) rfl (.cons (.agg dM rfl rfl rfl rfl) .nil) ⟨rfl,rfl⟩)
def cm (F:Nat) (t0:Token):Option Number :=
 (c8 F t0).bind fun v=>if ((!v)||(decide (t0.Kind≠3)))=true then (bA (⟨(⟨(⟨false,false,aZ.zero⟩:bY),(⟨false,false,aZ.zero⟩:bY)⟩:s9),1⟩:Number) fun w=>some w) else ((fu F 0).bind fun x=>(fu F 1).bind fun y=>(fu F 10).bind fun h=>Option.bind (iter F (Ba fun g d a c=>if (decide (c<(t0.S.length:Int)))=true then (Option.bind ((aS t0.S c).bind fun j=>if (decide ((j.toNat:Int)=46))=true then (some (g,d,true)) else ((jI F g h).bind fun k=>(aS t0.S c).bind fun m=>(fu F (i64.wrap (u8.wrap ((m.toNat:Int)-48)))).bind fun o=>(mP F k o).bind fun f=>if a=true then ((jI F d h).bind fun q=>some (f,q,a)) else (some (f,d,a)))) (iJ fun r t e=>some (.inl (r,t,e,i64.wrap (c+1))))) else (some (.inr (g,d)))) (x,y,false,0)) (bQ fun z ac=>(mA F z ac).bind fun u=>some (⟨u,0⟩:Number)))
theorem n9 {F:Nat} {t0:Token} {r:Number} (h:cm F t0=some r):ax prog (bd mx) 12 [] [.agg (aC t0)] (Is [] (.b (.agg (tB r)))):=by
 unfold cm at h
 refine ax.intro 53 Tryz.func12 Tryz.ntmps12 rfl (by simp) fun E=>(ab.seq (ab.aa ?_))
 refine Oc (bE (k:=101) rfl rfl) (Oc (aF (k:=102) zP rfl) (ae.ag ⟨[(1,Pt 101 0),(2,Pt 102 0)],[(101,.box 31 (aC t0)),(102,.box 41 (.bool false::.bool false::(eW aZ.zero++(.bool false::.bool false::(eW aZ.zero++([.i 0]))))))]⟩ rfl (ab.seq (ab.aa ?_))))
 refine Oc (lp bK) ?_
 obtain⟨g,e1,h⟩:=aH h
 refine Oc (ah (iI e1) Fz rfl rfl) (Oc oa (ae.ag ⟨[(1,_),(2,_),(3,B g)],[(101,_),(102,_)]⟩ rfl (ab.seq (ab.seq (ab.aa ?_)))))
 refine Oc om (Oc (cc rfl) (Oc om ?_))
 refine dD (!(!g)) [] (fun g2=>trivial) (fun g2=>aj j7 rfl rfl) (dD (!(!g)) [14] (fun g3=>⟨g3,trivial⟩) (fun g3=>ao bI rfl rfl rfl) (dD (!(!g)) [15] (fun g4=>⟨g4,trivial⟩) (fun g4=>dd rfl rfl) (Oc (aW (fun e=>by first|(rw[e];rfl)|(simp only at e;rw[e];rfl)) rfl rfl rfl rfl) (ae.ag ⟨[(1,_),(2,_),(17,B ((!g)||(decide (t0.Kind≠3))))],[(101,_),(102,_)]⟩ rfl (ab.ite h rfl (fun _ h=>?_) (fun _ h=>?_))))))
 refine ab.seq (ab.aa (ae.qd tB h rfl (aU x7 rfl rfl) (fun x h=>?_)))
 refine Oc (an tp rfl rfl rfl rfl (zab rfl) rfl) (ae.ag ⟨[(2,_)],[(102,.box 41 (tB x))]⟩ rfl (ab.ret (Fin.ay ?_)))
 obtain rfl:=zaa h
 refine Fin.af ⟨[(2,_)],[(102,_)]⟩ rfl (Fin.au [.agg (tB x)] (.inl rfl) rfl (.cons (.agg tp rfl rfl rfl rfl) .nil) ⟨rfl,rfl⟩)
 refine ab.skip (Fin.af ⟨[(1,_),(2,_)],[(101,_),(102,_)]⟩ rfl (Fin.then (ab.seq (ab.aa ?_))))
 obtain⟨am,e5,h⟩:=aH h
 refine Oc (ah (hH e5) pb rfl rfl) (Oc (aF (k:=103) bO rfl) (Oc (an aq rfl rfl rfl rfl (zab rfl) rfl) (ae.ag ⟨[(1,_),(2,_),(4,Pt 103 0)],[(101,_),(102,_),(103,.box 35 (az am))]⟩ rfl (ab.seq (ab.aa ?_)))))
 obtain⟨ap,e6,h⟩:=aH h
 refine Oc (ah (hH e6) pb rfl rfl) (Oc (aF (k:=104) bO rfl) (Oc (an aq rfl rfl rfl rfl (zab rfl) rfl) (ae.ag ⟨[(1,_),(2,_),(4,_),(5,Pt 104 0)],[(101,_),(102,_),(103,_),(104,.box 35 (az ap))]⟩ rfl (ab.seq (ab.aa ?_)))))
 obtain⟨u,e7,h⟩:=aH h
 refine Oc (ah (hH e7) pb rfl rfl) (Oc (aF (k:=105) bO rfl) (Oc (an aq rfl rfl rfl rfl (zab rfl) rfl) (ae.ag ⟨[(1,_),(2,_),(4,_),(5,_),(6,Pt 105 0)],[(101,_),(102,_),(103,_),(104,_),(105,.box 35 (az u))]⟩ rfl (ab.seq (ab.aa ?_)))))
 refine Oc oa (ae.ag ⟨[(1,_),(2,_),(4,_),(5,_),(6,_),(7,B false)],[(101,_),(102,_),(103,_),(104,_),(105,_)]⟩ rfl ?_)
 obtain⟨v8,h9,h⟩:=aH h
 refine ab.bR (v:=v8) (bQ fun (y:bY) (ac:bY)=>⟨[(2,Pt 102 0),(4,Pt 103 0),(5,Pt 104 0)],[(102,.box 41 (.bool false::.bool false::(eW aZ.zero++(.bool false::.bool false::(eW aZ.zero++([.i 0])))))),(103,.box 35 (az y)),(104,.box 35 (az ac))]⟩) (fun z=>z) ?_ ?_
 refine ab.seq (ab.aa ?_)
 refine Oc oa (ae.ag ⟨[(1,_),(2,_),(4,_),(5,_),(6,_),(7,_),(8,I 0)],[(101,_),(102,_),(103,_),(104,_),(105,_)]⟩ rfl (ab.block (ab.cx h9 (Ba fun (j:bY) (m:bY) (a:Bool) (c:Int)=>⟨[(1,Pt 101 0),(2,Pt 102 0),(4,Pt 103 0),(5,Pt 104 0),(6,Pt 105 0),(7,B a),(8,I c)],[(101,.box 31 (aC t0)),(102,.box 41 (.bool false::.bool false::(eW aZ.zero++(.bool false::.bool false::(eW aZ.zero++([.i 0])))))),(103,.box 35 (az j)),(104,.box 35 (az m)),(105,.box 35 (az u))]⟩) [1,2,4,5,6,7,8] [101,102,103,104,105] rfl ?_)))
 rintro⟨j,m,a,c⟩ o10 h11 hy12
 refine ab.seq (ab.seq (ab.aa ?_))
 refine Oc om (Oc (aj dS rfl rfl) (Oc (ao b7 rfl rfl rfl) (Oc (bh cb rfl) (Oc (bt rfl rfl) (ae.ag ⟨[(1,_),(2,_),(4,_),(5,_),(6,_),(7,_),(8,_),(26,B (decide (c<(t0.S.length:Int))))],[(101,_),(102,_),(103,_),(104,_),(105,_)]⟩ rfl (ab.ite h11 rfl (fun _ h11=>?_) (fun _ h11=>?_)))))))
 refine ab.skip (Fin.af ⟨[(1,_),(2,_),(4,_),(5,_),(6,_),(7,_),(8,_)],[(101,_),(102,_),(103,_),(104,_),(105,_)]⟩ rfl (Fin.then ?_))
 obtain⟨v13,h14,h11⟩:=aH h11
 refine ab.bR (v:=v13) (iJ fun (o:bY) (q:bY) (d:Bool)=>⟨[(1,Pt 101 0),(2,Pt 102 0),(4,Pt 103 0),(5,Pt 104 0),(6,Pt 105 0),(7,B d),(8,I c)],[(101,.box 31 (aC t0)),(102,.box 41 (.bool false::.bool false::(eW aZ.zero++(.bool false::.bool false::(eW aZ.zero++([.i 0])))))),(103,.box 35 (az o)),(104,.box 35 (az q)),(105,.box 35 (az u))]⟩) (fun z=>z) ?_ ?_
 refine ab.block (ab.seq (ab.seq (ab.aa ?_)))
 refine Oc (aj dS rfl rfl) (Oc (ao b7 rfl rfl rfl) (Oc om ?_))
 obtain⟨ad,e15,h14⟩:=aH h14
 refine Oc (aV cb rfl rfl (aR e15) (cF e15)) (Oc (b8 rfl rfl) (ae.ag ⟨[(1,_),(2,_),(4,_),(5,_),(6,_),(7,_),(8,_),(33,B (decide ((ad.toNat:Int)=46)))],[(101,_),(102,_),(103,_),(104,_),(105,_)]⟩ rfl (ab.ite h14 rfl (fun _ h14=>?_) (fun _ h14=>?_))))
 refine ab.seq (ab.aa ?_)
 refine Oc oa (ae.ag ⟨[(1,_),(2,_),(4,_),(5,_),(6,_),(7,B true),(8,_)],[(101,_),(102,_),(103,_),(104,_),(105,_)]⟩ rfl (ab.exit (Fin.aw (Fin.aJ ?_))))
 exact Fin.join [1,2,4,5,6,7,8] [101,102,103,104,105] (j,m,true) (zaa h14) rfl
 refine ab.skip (Fin.af ⟨[(1,_),(2,_),(4,_),(5,_),(6,_),(7,_),(8,_)],[(101,_),(102,_),(103,_),(104,_),(105,_)]⟩ rfl (Fin.then (ab.seq (ab.af ⟨[(1,_),(2,_),(4,_),(5,_),(6,_),(7,_),(8,_)],[(101,_),(102,_),(103,_),(104,_),(105,_)]⟩ rfl ?_))))
 obtain⟨ai,e16,h14⟩:=aH h14
 obtain⟨t,e17,h14⟩:=aH h14
 obtain⟨ak,e18,h14⟩:=aH h14
 obtain⟨f,e19,h14⟩:=aH h14
 refine ab.bN mixed 11 [.b (.agg (az j)),.b (.agg (az u)),.b (.agg (az ai)),Pt 101 2,.b (.one (.str t0.S)),I c,.b (.one (.int .u8 (t.toNat:Int))),.b (.one (.int .u8 (u8.wrap ((t.toNat:Int)-48)))),I (i64.wrap (u8.wrap ((t.toNat:Int)-48))),.b (.agg (az ak)),.b (.agg (az f))] [1,2,4,5,6,7,8] [101,102,103,104,105] (s':=⟨[(1,_),(2,_),(4,_),(5,_),(6,_),(7,_),(8,_)],[(101,_),(102,_),(103,.box 35 (az f)),(104,_),(105,_)]⟩) rfl ⟨fun _=>.p (lp aq),fun _=>.p (lp aq),fun _=>.p (ah (vn e16) Fv rfl rfl),fun _=>.p (aj dS rfl rfl),fun _=>.p (ao b7 rfl rfl rfl),fun _=>.p om,fun _=>.p (aV cb rfl rfl (aR e17) (cF e17)),fun _=>.p (bW rfl rfl),fun _=>.p (aE oe nA rfl),fun _=>.p (ah (hH e18) pb rfl rfl),fun _=>.p (ah (AD e19) goes37 rfl rfl),trivial⟩ ⟨_,by exact .p (an aq rfl rfl rfl rfl (zab rfl) rfl),rfl⟩ rfl (ab.seq (ab.aa ?_))
 refine Oc om (ae.ag ⟨[(1,_),(2,_),(4,_),(5,_),(6,_),(7,_),(8,_),(45,B a)],[(101,_),(102,_),(103,_),(104,_),(105,_)]⟩ rfl (ab.ite h14 rfl (fun _ h14=>?_) (fun _ h14=>?_)))
 refine ab.aa (Oc (lp aq) (Oc (lp aq) ?_))
 obtain⟨al,e20,h14⟩:=aH h14
 refine Oc (ah (vn e20) Fv rfl rfl) (Oc (an aq rfl rfl rfl rfl (zab rfl) rfl) (ae.nil (Fin.aA ?_)))
 exact Fin.join [1,2,4,5,6,7,8] [101,102,103,104,105] (f,al,a) (zaa h14) rfl
 refine ab.skip (Fin.aA ?_)
 exact Fin.join [1,2,4,5,6,7,8] [101,102,103,104,105] (f,m,a) (zaa h14) rfl
 rintro⟨o,q,d⟩ hv
 subst v13
 refine ab.aa (Oc om (Oc (aL rfl rfl) (Oc oa (ae.nil ?_))))
 exact Fin.bB [1,2,4,5,6,7,8] [101,102,103,104,105] (o,q,d,i64.wrap (c+1)) (zaa h11) rfl
 refine ab.exit (Fin.aw ?_)
 obtain rfl:=hy12 _ (zaa h11).symm
 refine Fin.aw (Fin.aJ ?_)
 exact Fin.join [2,4,5] [102,103,104] (j,m) rfl rfl
 rintro⟨y,ac⟩ hv
 subst v8
 refine ab.seq (ab.aa ?_)
 refine Oc (lp aq) (Oc (lp aq) ?_)
 obtain⟨w,e21,h⟩:=aH h
 refine Oc (ah (zl e21) goes39 rfl rfl) (Oc (aU x7 rfl rfl) (Oc (an tp rfl rfl rfl rfl (zab rfl) rfl) (ae.ag ⟨[(2,_)],[(102,.box 41 (km w++([.i 0])))]⟩ rfl (ab.ret ?_))))
 obtain rfl:=zaa h
 refine Fin.af ⟨[(2,_)],[(102,_)]⟩ rfl (Fin.au [.agg (km w++([.i 0]))] (.inl rfl) rfl (.cons (.agg tp rfl rfl rfl rfl) .nil) ⟨rfl,rfl⟩)
def bZ (F:Nat) (l0:List Token):Option Bool :=
 if (decide (100<(l0.length:Int)))=true then ((dC F).bind fun j=>some j) else (Option.bind (jt F l0) (bQ fun k m=>(fc F l0).bind fun c=>if ((decide (k≠c.S))||(decide (m≠c.E)))=true then (some false) else (Option.bind (iter F (fun a=>if (decide (a<(l0.length:Int)))=true then ((aS l0 a).bind fun d=>Option.bind (dZ F d) (bQ fun o e=>(cm F d).bind fun f=>bA ((decide (e≠f.E))||((decide (e=0))&&(decide (o≠f.X)))) fun g=>if g=true then (some (.inr (.inr false))) else (some (.inl (i64.wrap (a+1)))))) else (some (.inr (.inl ())))) 0) (cW (fun _=>(dC F).bind fun h=>some h) (fun y=>some y)))))
theorem iu {F:Nat} {l0:List Token} {r:Bool} (h:bZ F l0=some r):ax prog (bd mx) 3 [] [.one (.sl 3 (l0.map aC))] (Is [] (.b (.one (.bool r)))):=by
 unfold bZ at h
 refine ax.intro 61 Tryz.func3 Tryz.ntmps3 rfl (by simp) fun E=>(ab.seq (ab.aa ?_))
 refine Oc oa (ae.ag ⟨[(0,.b (.one (.sl 3 (l0.map aC))))],[]⟩ rfl (ab.seq (ab.seq (ab.aa ?_))))
 refine Oc om (Oc (ba qa rfl (List.length_map _)) (Oc (dy rfl rfl) (ae.ag ⟨[(0,_),(13,B (decide (100<(l0.length:Int))))],[]⟩ rfl (ab.ite h rfl (fun _ h=>?_) (fun _ h=>?_)))))
 refine ab.seq (ab.aa ?_)
 obtain⟨q,e1,h⟩:=aH h
 refine Oc (ah (jB e1) goes8 rfl rfl) (Oc oa (ae.ag ⟨[(2,B q)],[]⟩ rfl (ab.ret (Fin.ay ?_))))
 obtain rfl:=zaa h
 refine Fin.af ⟨[(2,_)],[]⟩ rfl (Fin.au [.one (.bool q)] (.inl rfl) rfl (.cons (.tmp rfl) .nil) ⟨rfl,rfl⟩)
 refine ab.skip (Fin.af ⟨[(0,_)],[]⟩ rfl (Fin.then (ab.seq (ab.aa ?_))))
 refine Oc om ?_
 obtain⟨⟨f,m⟩,e2,h⟩:=aH h
 refine Oc (ah (qf e2) goes9 rfl rfl) (Oc om (Oc (aG rfl rfl) (Oc (aG rfl rfl) (Oc oa (Oc oa (ae.ag ⟨[(0,_),(3,.b (.one (.str f))),(4,I m)],[]⟩ rfl (ab.seq (ab.aa ?_))))))))
 refine Oc om ?_
 obtain⟨d,e3,h⟩:=aH h
 refine Oc (ah (oT e3) goes10 rfl rfl) (Oc (aF (k:=101) zQ rfl) (Oc (an pj rfl rfl rfl rfl (zab rfl) rfl) (ae.ag ⟨[(0,_),(3,_),(4,_),(5,Pt 101 0)],[(101,.box 28 (Ai d))]⟩ rfl (ab.seq (ab.seq (ab.aa ?_))))))
 refine Oc om (Oc (aj DQ rfl rfl) (Oc (ao b7 rfl rfl rfl) (Oc (lg rfl rfl) (Oc om ?_))))
 refine dD (!(decide (f≠d.S))) [] (fun g4=>trivial) (fun g4=>om) (dD (!(decide (f≠d.S))) [] (fun g5=>by exact trivial) (fun g5=>aj DP rfl rfl) (ae.af ⟨[(0,_),(26,B (decide (f≠d.S))),(27,.opt (!(decide (f≠d.S))) (.one (.i m))),(28,.opt (!(decide (f≠d.S))) (.ptr 101 1))],[(101,_)]⟩ rfl (dD (!(decide (f≠d.S))) [28] (fun g6=>by exact⟨g6,trivial⟩) (fun g6=>ao rB rfl rfl rfl) (dD (!(decide (f≠d.S))) [27,29] (fun g7=>by exact⟨g7,g7,trivial⟩) (fun g7=>dd rfl rfl) (Oc (aW (fun e=>by first|(rw[e];rfl)|(simp only at e;rw[e];rfl)) rfl rfl rfl rfl) (ae.ag ⟨[(0,_),(31,B ((decide (f≠d.S))||(decide (m≠d.E))))],[]⟩ rfl (ab.ite h rfl (fun _ h=>?_) (fun _ h=>?_))))))))
 refine ab.seq (ab.aa ?_)
 refine Oc oa (ae.ag ⟨[(2,B false)],[]⟩ rfl (ab.ret (Fin.ay ?_)))
 obtain rfl:=zaa h
 refine Fin.af ⟨[(2,_)],[]⟩ rfl (Fin.au [.one (.bool false)] (.inl rfl) rfl (.cons (.tmp rfl) .nil) ⟨rfl,rfl⟩)
 refine ab.skip (Fin.af ⟨[(0,_)],[]⟩ rfl (Fin.then ?_))
 obtain⟨v8,h9,h⟩:=aH h
 refine ab.bR (v:=v8) (fun (_:Unit)=>⟨[],[]⟩) (fun z=>.inl z) ?_ ?_
 refine ab.seq (ab.aa ?_)
 refine Oc om (Oc (ba qa rfl (List.length_map _)) (Oc om (ae.ag ⟨[(32,.b (.one (.sl 3 (l0.map aC)))),(33,I (l0.length:Int)),(34,I 0)],[]⟩ rfl (ab.block (ab.cx h9 (fun (g:Int)=>⟨[(32,.b (.one (.sl 3 (l0.map aC)))),(33,I (l0.length:Int)),(34,I g)],[]⟩) [32,33,34] [] rfl ?_)))))
 rintro g o10 h11 hy12
 refine ab.seq (ab.aa ?_)
 refine Oc (bt rfl rfl) (ae.ag ⟨[(32,_),(33,_),(34,_),(35,B (decide (g<(l0.length:Int))))],[]⟩ rfl (ab.seq (ab.ite h11 rfl (fun _ h11=>?_) (fun _ h11=>?_))))
 refine ab.skip (Fin.af ⟨[(32,_),(33,_),(34,_)],[]⟩ rfl (Fin.then (ab.seq (ab.block (ab.seq (ab.aa ?_))))))
 obtain⟨u,e13,h11⟩:=aH h11
 refine Oc (bm fh (aR e13) (cu (e:=aC) e13) rfl rfl) (Oc (j8 bK rfl rfl rfl) (Oc (aF (k:=102) im rfl) (Oc (an bK rfl rfl rfl rfl (zab rfl) rfl) (ae.ag ⟨[(7,Pt 102 0),(32,_),(33,_),(34,_)],[(102,.box 31 (aC u))]⟩ rfl (ab.seq (ab.aa ?_))))))
 refine Oc (lp bK) ?_
 obtain⟨⟨o,a⟩,e14,h11⟩:=aH h11
 refine Oc (ah (oN e14) FD rfl rfl) (Oc om (Oc (aG rfl rfl) (Oc (aG rfl rfl) (ae.af ⟨[(7,_),(32,_),(33,_),(34,_),(41,.b (.agg (km o))),(42,I a)],[(102,_)]⟩ rfl (Oc (aF (k:=103) lM rfl) (Oc (an dM rfl rfl rfl rfl (zab rfl) rfl) (Oc oa (ae.ag ⟨[(7,_),(8,Pt 103 0),(9,I a),(32,_),(33,_),(34,_)],[(102,_),(103,.box 37 (km o))]⟩ rfl (ab.seq (ab.aa ?_))))))))))
 refine Oc (lp bK) ?_
 obtain⟨c,e15,h11⟩:=aH h11
 refine Oc (ah (n9 e15) goes12 rfl rfl) (Oc (aF (k:=104) zP rfl) (Oc (an tp rfl rfl rfl rfl (zab rfl) rfl) (ae.ag ⟨[(8,_),(9,_),(10,Pt 104 0),(32,_),(33,_),(34,_)],[(103,_),(104,.box 41 (tB c))]⟩ rfl (ab.seq (ab.aa ?_)))))
 refine Oc om (Oc (aj DN rfl rfl) (Oc (ao rB rfl rfl rfl) (Oc (dd rfl rfl) (Oc om ?_))))
 refine dD (!(decide (a≠c.E))) [] (fun g16=>trivial) (fun g16=>om) (dD (!(decide (a≠c.E))) [50] (fun g17=>by exact⟨g17,trivial⟩) (fun g17=>b8 rfl rfl) (ae.af ⟨[(8,_),(10,_),(32,_),(33,_),(34,_),(49,B (decide (a≠c.E))),(51,.opt (!(decide (a≠c.E))) (.one (.bool (decide (a=0)))))],[(103,_),(104,_)]⟩ rfl (dD (!(decide (a≠c.E))) [51] (fun g18=>by exact⟨g18,trivial⟩) (fun g18=>om) (ae.dQ ((!(decide (a≠c.E)))&&(decide (a=0))) 99 [] (.under rfl) (j4 _ _) rfl rfl (fun g19=>by exact trivial) (fun g19=>lp dM) (ae.dQ ((!(decide (a≠c.E)))&&(decide (a=0))) 99 [] (.under rfl) (j4 _ _) rfl rfl (fun g20=>by exact trivial) (fun g20=>aj DO rfl rfl) ?_)))))
 refine ae.dQ ((!(decide (a≠c.E)))&&(decide (a=0))) 99 [54] (.under rfl) (j4 _ _) rfl rfl (fun g21=>⟨g21,trivial⟩) (fun g21=>lp dM) (ae.dQ ((!(decide (a≠c.E)))&&(decide (a=0))) 99 [53,55] (.under rfl) (j4 _ _) rfl rfl (fun g22=>by exact⟨g22,g22,trivial⟩) (fun g22=>lh (Dq o c.X) rfl rfl rE) (dD (!(decide (a≠c.E))) [52] (fun g23=>by exact⟨g23,trivial⟩) (fun g23=>aD (fun e=>by rw[g23,e];rfl) rfl rfl rfl rfl) (ae.il h11 rfl (aW (fun e=>by first|(rw[e];rfl)|(simp only at e;rw[e];rfl)) rfl rfl rfl rfl) (fun t h11=>(ae.ag ⟨[(32,_),(33,_),(34,_),(58,B t)],[]⟩ rfl (ab.ite h11 rfl (fun _ h11=>?_) (fun _ h11=>?_)))))))
 refine ab.seq (ab.aa ?_)
 refine Oc oa (ae.ag ⟨[(2,B false)],[]⟩ rfl (ab.ret (Fin.bc (Fin.ay ?_))))
 obtain rfl:=hy12 _ (zaa h11).symm
 refine Fin.ay (Fin.bc (Fin.ay ?_))
 obtain rfl:=zaa h
 refine Fin.af ⟨[(2,_)],[]⟩ rfl (Fin.au [.one (.bool false)] (.inl rfl) rfl (.cons (.tmp rfl) .nil) ⟨rfl,rfl⟩)
 refine ab.skip (Fin.aA (Fin.af ⟨[(32,_),(33,_),(34,_)],[]⟩ rfl (Fin.then (ab.aa ?_))))
 refine Oc (aL rfl rfl) (Oc om (ae.nil ?_))
 exact Fin.bB [32,33,34] [] (i64.wrap (g+1)) (zaa h11) rfl
 refine ab.exit (Fin.aw ?_)
 obtain rfl:=hy12 _ (zaa h11).symm
 refine Fin.aw (Fin.aJ ?_)
 exact Fin.join [] [] () rfl rfl
 rintro _ hv
 subst v8
 refine ab.seq (ab.aa ?_)
 obtain⟨j,e24,h⟩:=aH h
 refine Oc (ah (jB e24) goes8 rfl rfl) (Oc oa (ae.ag ⟨[(2,B j)],[]⟩ rfl (ab.ret ?_)))
 obtain rfl:=zaa h
 refine Fin.af ⟨[(2,_)],[]⟩ rfl (Fin.au [.one (.bool j)] (.inl rfl) rfl (.cons (.tmp rfl) .nil) ⟨rfl,rfl⟩)
end Go.Proofs.YtbcdabflmkgkiaaGreatDoor

