/- printed walks -/
import Derived.Test.YtbcdabflmkgkiaaGreatDoorW1
set_option linter.unusedSimpArgs false
set_option linter.unusedVariables false
open Go.IntKind (i8 i16 i32 i64 u8 u16 u32 u64)
open Go.Proofs.Tryz (prog)
namespace Go.Proofs.YtbcdabflmkgkiaaGreatDoor
open Go.Sk
set_option maxHeartbeats 4000000
set_option maxRecDepth 4000
variable {mx : Int}
def j5 (F:Nat) (a0:aZ) (b0:aZ):Option aZ :=
 Option.bind (iter F (iJ fun c a d=>if (decide (d<16))=true then ((aS a0.l d).bind fun f=>(aS b0.l d).bind fun g=>bA (u64.wrap ((u64.wrap ((u64.wrap f)-(u64.wrap g)))-a)) fun j=>(aS c.l d).bind fun k=>bA (u64.wrap ((u64.wrap ((u64.wrap f)-(u64.wrap g)))-a)) fun h=>some (.inl (c.set d (u32.wrap j),h/9223372036854775808,i64.wrap (d+1)))) else (some (.inr c))) (aZ.zero,0,0)) (fun e=>some e)
theorem pN {F:Nat} {a0 b0 r:aZ} (h:j5 F a0 b0=some r):ax prog (bd mx) 110 [] [.agg (eW a0),.agg (eW b0)] (Is [] (.b (.agg (eW r)))):=by
 unfold j5 at h
 refine ax.intro 31 Tryz.func110 Tryz.ntmps110 rfl (by simp) fun E=>(ab.seq (ab.aa ?_))
 refine Oc (bE (k:=101) rfl rfl) (Oc (bE (k:=102) rfl rfl) (Oc (aF (k:=103) dt rfl) (ae.ag ⟨[(2,Pt 101 0),(3,Pt 102 0),(4,Pt 103 0)],[(101,.box 33 (eW a0)),(102,.box 33 (eW b0)),(103,.box 33 (eW aZ.zero))]⟩ rfl (ab.seq (ab.aa ?_)))))
 refine Oc (aF (k:=104) dt rfl) (ae.ag ⟨[(2,_),(3,_),(4,_),(5,Pt 104 0)],[(101,_),(102,_),(103,_),(104,.box 33 (eW aZ.zero))]⟩ rfl (ab.seq (ab.aa ?_)))
 refine Oc oa (ae.ag ⟨[(2,_),(3,_),(4,_),(5,_),(6,.b (.one (.int .u64 0)))],[(101,_),(102,_),(103,_),(104,_)]⟩ rfl ?_)
 obtain⟨v1,h2,h⟩:=aH h
 refine ab.bR (v:=v1) (fun (e:aZ)=>⟨[(4,Pt 103 0),(5,Pt 104 0)],[(103,.box 33 (eW aZ.zero)),(104,.box 33 (eW e))]⟩) (fun z=>z) ?_ ?_
 refine ab.seq (ab.aa ?_)
 refine Oc om (ae.ag ⟨[(2,_),(3,_),(4,_),(5,_),(6,_),(9,I 0)],[(101,_),(102,_),(103,_),(104,_)]⟩ rfl (ab.block (ab.cx h2 (iJ fun (c:aZ) (a:Int) (d:Int)=>⟨[(2,Pt 101 0),(3,Pt 102 0),(4,Pt 103 0),(5,Pt 104 0),(6,.b (.one (.int .u64 a))),(9,I d)],[(101,.box 33 (eW a0)),(102,.box 33 (eW b0)),(103,.box 33 (eW aZ.zero)),(104,.box 33 (eW c))]⟩) [2,3,4,5,6,9] [101,102,103,104] rfl ?_)))
 rintro⟨c,a,d⟩ o3 h4 hy5
 refine ab.seq (ab.aa ?_)
 refine Oc (bt rfl rfl) (ae.ag ⟨[(2,_),(3,_),(4,_),(5,_),(6,_),(9,_),(10,B (decide (d<16)))],[(101,_),(102,_),(103,_),(104,_)]⟩ rfl (ab.seq (ab.ite h4 rfl (fun _ h4=>?_) (fun _ h4=>?_))))
 refine ab.skip (Fin.af ⟨[(2,_),(3,_),(4,_),(5,_),(6,_),(9,_)],[(101,_),(102,_),(103,_),(104,_)]⟩ rfl (Fin.then (ab.seq (ab.block (ab.seq (ab.aa ?_))))))
 refine Oc om (Oc oa (ae.ag ⟨[(2,_),(3,_),(4,_),(5,_),(6,_),(7,I d),(9,_)],[(101,_),(102,_),(103,_),(104,_)]⟩ rfl (ab.seq ?_)))
 obtain⟨f,e6,h4⟩:=aH h4
 obtain⟨g,e7,h4⟩:=aH h4
 refine ab.bN mixed 12 [I d,.b (.ptr 101 (0+(d:Int).toNat*1)),.b (.one (.int .u32 f)),.b (.one (.int .u64 (u64.wrap f))),I d,.b (.ptr 102 (0+(d:Int).toNat*1)),.b (.one (.int .u32 g)),.b (.one (.int .u64 (u64.wrap g))),.b (.one (.int .u64 (u64.wrap ((u64.wrap f)-(u64.wrap g))))),.b (.one (.int .u64 a)),.b (.one (.int .u64 (u64.wrap ((u64.wrap ((u64.wrap f)-(u64.wrap g)))-a)))),.b (.one (.int .u64 (u64.wrap ((u64.wrap ((u64.wrap f)-(u64.wrap g)))-a))))] [2,3,4,5,7,8,9] [101,102,103,104] (s':=⟨[(2,_),(3,_),(4,_),(5,_),(7,_),(8,.b (.one (.int .u64 (u64.wrap ((u64.wrap ((u64.wrap f)-(u64.wrap g)))-a))))),(9,_)],[(101,_),(102,_),(103,_),(104,_)]⟩) rfl ⟨fun _=>.p om,fun _=>.p (aK bH (aR e6) (cD e6) rfl rfl rfl),fun _=>.p (ao bn rfl rfl (cA (post:=[]) (k:=.u32) [] e6 rfl rfl rfl)),fun _=>.p (aE bT b6 rfl),fun _=>.p om,fun _=>.p (aK bH (aR e7) (cD e7) rfl rfl rfl),fun _=>.p (ao bn rfl rfl (cA (post:=[]) (k:=.u32) [] e7 rfl rfl rfl)),fun _=>.p (aE bT b6 rfl),fun _=>.p (bW rfl rfl),fun _=>.p om,fun _=>.p (bW rfl rfl),fun _=>.p oa,trivial⟩ rfl rfl (ab.seq (ab.aa ?_))
 refine Oc om (ae.cJ .u64 h4 rfl om (fun o h4=>?_))
 refine Oc (aE b6 bT rfl) ?_
 obtain⟨q,e8,h4⟩:=aH h4
 refine Oc (aK bH (aR e8) (cD e8) rfl rfl rfl) (Oc (bF bn rfl rfl rfl (kA (post:=[]) (k:=.u32) [] e8 rfl rfl rfl) (iH (post:=[]) (k:=.u32) [] e8 rfl rfl (aZ.jZ c d (u32.wrap o)) rfl rfl)) (ae.ag ⟨[(2,_),(3,_),(4,_),(5,_),(8,_),(9,_)],[(101,_),(102,_),(103,_),(104,.box 33 (eW (c.set d (u32.wrap o))))]⟩ rfl (ab.aa (ae.cJ .u64 h4 rfl om (fun j h4=>?_)))))
 refine Oc (jh (m:=63) (by decide) rfl rfl rfl) (Oc oa (ae.nil (Fin.aA (Fin.af ⟨[(2,_),(3,_),(4,_),(5,_),(6,.b (.one (.int .u64 (j/9223372036854775808)))),(9,_)],[(101,_),(102,_),(103,_),(104,_)]⟩ rfl (Fin.then (ab.aa ?_))))))
 refine Oc (aL rfl rfl) (Oc om (ae.nil ?_))
 exact Fin.bB [2,3,4,5,6,9] [101,102,103,104] (c.set d (u32.wrap o),j/9223372036854775808,i64.wrap (d+1)) (zaa h4) rfl
 refine ab.exit (Fin.aw ?_)
 obtain rfl:=hy5 _ (zaa h4).symm
 refine Fin.aw (Fin.aJ ?_)
 exact Fin.join [4,5] [103,104] c rfl rfl
 rintro e hv
 subst v1
 refine ab.seq (ab.aa ?_)
 refine Oc (lp aM) (Oc (an aM rfl rfl rfl rfl (zab rfl) rfl) (ae.ag ⟨[(4,_)],[(103,.box 33 (eW e))]⟩ rfl (ab.ret ?_)))
 obtain rfl:=zaa h
 refine Fin.af ⟨[(4,_)],[(103,_)]⟩ rfl (Fin.au [.agg (eW e)] (.inl rfl) rfl (.cons (.agg aM rfl rfl rfl rfl) .nil) ⟨rfl,rfl⟩)
def rz (F:Nat) (a0:bY) (b0:bY):Option bY :=
 (fN F [a0,b0]).bind fun d=>if (!d)=true then ((gD F).bind fun e=>some e) else (if (a0.Neg==b0.Neg)=true then (Option.bind (qD F a0.W b0.W) (bQ fun f g=>if (!g)=true then ((gD F).bind fun h=>some h) else ((de F a0.Neg f).bind fun j=>some j))) else ((mo F a0.W b0.W).bind fun k=>if (decide (0<=k))=true then ((j5 F a0.W b0.W).bind fun m=>(de F a0.Neg m).bind fun o=>some o) else ((j5 F b0.W a0.W).bind fun a=>(de F b0.Neg a).bind fun c=>some c)))
theorem xe {F:Nat} {a0 b0 r:bY} (h:rz F a0 b0=some r):ax prog (bd mx) 53 [] [.agg (az a0),.agg (az b0)] (Is [] (.b (.agg (az r)))):=by
 unfold rz at h
 refine ax.intro 55 Tryz.func53 Tryz.ntmps53 rfl (by simp) fun E=>(ab.seq (ab.aa ?_))
 refine Oc (bE (k:=101) rfl rfl) (Oc (bE (k:=102) rfl rfl) (Oc (aF (k:=103) bO rfl) (ae.ag ⟨[(2,Pt 101 0),(3,Pt 102 0),(4,Pt 103 0)],[(101,.box 35 (az a0)),(102,.box 35 (az b0)),(103,.box 35 dL)]⟩ rfl (ab.seq (ab.seq (ab.aa ?_))))))
 refine Oc (lp aq) (Oc (lp aq) (Oc (aX (k:=104) (es:=[a0,b0].map az) ly rfl rfl (cg fun _=>rfl) rfl (by decide) (by decide) rfl) ?_))
 obtain⟨o,e1,h⟩:=aH h
 refine Oc (gL (gu e1) me rfl CP.gi) (Oc (cc rfl) (ae.ag ⟨[(2,_),(3,_),(4,_),(11,B (!o))],[(101,_),(102,_),(103,_)]⟩ rfl (ab.ite h rfl (fun _ h=>?_) (fun _ h=>?_))))
 refine ab.seq (ab.aa ?_)
 obtain⟨e,e2,h⟩:=aH h
 refine Oc (ah (eF e2) kW rfl rfl) (Oc (an aq rfl rfl rfl rfl (zab rfl) rfl) (ae.ag ⟨[(4,_)],[(103,.box 35 (az e))]⟩ rfl (ab.ret (Fin.ay ?_))))
 obtain rfl:=zaa h
 refine Fin.af ⟨[(4,_)],[(103,_)]⟩ rfl (Fin.au [.agg (az e)] (.inl rfl) rfl (.cons (.agg aq rfl rfl rfl rfl) .nil) ⟨rfl,rfl⟩)
 refine ab.skip (Fin.af ⟨[(2,_),(3,_),(4,_)],[(101,_),(102,_),(103,_)]⟩ rfl (Fin.then (ab.seq (ab.seq (ab.aa ?_)))))
 refine Oc (aj bJ rfl rfl) (Oc (ao cE rfl rfl rfl) (Oc (aj bJ rfl rfl) (Oc (ao cE rfl rfl rfl) (Oc (vt xG rfl rfl) (ae.ag ⟨[(2,_),(3,_),(4,_),(17,B (a0.Neg==b0.Neg))],[(101,_),(102,_),(103,_)]⟩ rfl (ab.ite h rfl (fun _ h=>?_) (fun _ h=>?_)))))))
 refine ab.seq (ab.aa ?_)
 refine Oc (aj aY rfl rfl) (Oc (lp aM) (Oc (aj aY rfl rfl) (Oc (lp aM) ?_)))
 obtain⟨⟨f,c⟩,e3,h⟩:=aH h
 refine Oc (ah (Ao e3) goes108 rfl rfl) (ae.af ⟨[(2,_),(4,_),(23,.gS [.agg (eW f),.one (.bool c)])],[(101,_),(103,_)]⟩ rfl (Oc om (Oc (aG rfl rfl) (Oc (aG rfl rfl) (Oc (aF (k:=105) dt rfl) (Oc (an aM rfl rfl rfl rfl (zab rfl) rfl) (Oc oa (ae.ag ⟨[(2,_),(4,_),(5,Pt 105 0),(6,B c)],[(101,_),(103,_),(105,.box 33 (eW f))]⟩ rfl (ab.seq (ab.seq (ab.aa ?_)))))))))))
 refine Oc om (Oc (cc rfl) (ae.ag ⟨[(2,_),(4,_),(5,_),(27,B (!c))],[(101,_),(103,_),(105,_)]⟩ rfl (ab.ite h rfl (fun _ h=>?_) (fun _ h=>?_))))
 refine ab.seq (ab.aa ?_)
 obtain⟨g,e4,h⟩:=aH h
 refine Oc (ah (eF e4) kW rfl rfl) (Oc (an aq rfl rfl rfl rfl (zab rfl) rfl) (ae.ag ⟨[(4,_)],[(103,.box 35 (az g))]⟩ rfl (ab.ret (Fin.ay (Fin.ay ?_)))))
 obtain rfl:=zaa h
 refine Fin.af ⟨[(4,_)],[(103,_)]⟩ rfl (Fin.au [.agg (az g)] (.inl rfl) rfl (.cons (.agg aq rfl rfl rfl rfl) .nil) ⟨rfl,rfl⟩)
 refine ab.skip (Fin.af ⟨[(2,_),(4,_),(5,_)],[(101,_),(103,_),(105,_)]⟩ rfl (Fin.then (ab.seq (ab.aa ?_))))
 refine Oc (aj bJ rfl rfl) (Oc (ao cE rfl rfl rfl) (Oc (lp aM) ?_))
 obtain⟨j,e5,h⟩:=aH h
 refine Oc (ah (c7 e5) kV rfl rfl) (Oc (an aq rfl rfl rfl rfl (zab rfl) rfl) (ae.ag ⟨[(4,_)],[(103,.box 35 (az j))]⟩ rfl (ab.ret (Fin.ay ?_))))
 obtain rfl:=zaa h
 refine Fin.af ⟨[(4,_)],[(103,_)]⟩ rfl (Fin.au [.agg (az j)] (.inl rfl) rfl (.cons (.agg aq rfl rfl rfl rfl) .nil) ⟨rfl,rfl⟩)
 refine ab.skip (Fin.af ⟨[(2,_),(3,_),(4,_)],[(101,_),(102,_),(103,_)]⟩ rfl (Fin.then (ab.seq (ab.seq (ab.aa ?_)))))
 refine Oc (aj aY rfl rfl) (Oc (lp aM) (Oc (aj aY rfl rfl) (Oc (lp aM) ?_)))
 obtain⟨q,e6,h⟩:=aH h
 refine Oc (ah (tX e6) Di rfl rfl) (Oc (gf rfl rfl) (ae.ag ⟨[(2,_),(3,_),(4,_),(38,B (decide (0<=q)))],[(101,_),(102,_),(103,_)]⟩ rfl (ab.ite h rfl (fun _ h=>?_) (fun _ h=>?_))))
 refine ab.seq (ab.af ⟨[(2,_),(3,_),(4,_)],[(101,_),(102,_),(103,_)]⟩ rfl ?_)
 obtain⟨t,e7,h⟩:=aH h
 obtain⟨d,e8,h⟩:=aH h
 refine ab.bN mixed 8 [Pt 101 1,B a0.Neg,Pt 101 2,.b (.agg (eW a0.W)),Pt 102 2,.b (.agg (eW b0.W)),.b (.agg (eW t)),.b (.agg (az d))] [4] [103] (s':=⟨[(4,_)],[(103,.box 35 (az d))]⟩) rfl ⟨fun _=>.p (aj bJ rfl rfl),fun _=>.p (ao cE rfl rfl rfl),fun _=>.p (aj aY rfl rfl),fun _=>.p (lp aM),fun _=>.p (aj aY rfl rfl),fun _=>.p (lp aM),fun _=>.p (ah (pN e7) za rfl rfl),fun _=>.p (ah (c7 e8) kV rfl rfl),trivial⟩ ⟨_,by exact .p (an aq rfl rfl rfl rfl (zab rfl) rfl),rfl⟩ rfl (ab.ret (Fin.ay ?_))
 obtain rfl:=zaa h
 refine Fin.af ⟨[(4,_)],[(103,_)]⟩ rfl (Fin.au [.agg (az d)] (.inl rfl) rfl (.cons (.agg aq rfl rfl rfl rfl) .nil) ⟨rfl,rfl⟩)
 refine ab.skip (Fin.af ⟨[(2,_),(3,_),(4,_)],[(101,_),(102,_),(103,_)]⟩ rfl (Fin.then (ab.seq (ab.af ⟨[(2,_),(3,_),(4,_)],[(101,_),(102,_),(103,_)]⟩ rfl ?_))))
 obtain⟨m,e9,h⟩:=aH h
 obtain⟨a,e10,h⟩:=aH h
 refine ab.bN mixed 8 [Pt 102 1,B b0.Neg,Pt 102 2,.b (.agg (eW b0.W)),Pt 101 2,.b (.agg (eW a0.W)),.b (.agg (eW m)),.b (.agg (az a))] [4] [103] (s':=⟨[(4,_)],[(103,.box 35 (az a))]⟩) rfl ⟨fun _=>.p (aj bJ rfl rfl),fun _=>.p (ao cE rfl rfl rfl),fun _=>.p (aj aY rfl rfl),fun _=>.p (lp aM),fun _=>.p (aj aY rfl rfl),fun _=>.p (lp aM),fun _=>.p (ah (pN e9) za rfl rfl),fun _=>.p (ah (c7 e10) kV rfl rfl),trivial⟩ ⟨_,by exact .p (an aq rfl rfl rfl rfl (zab rfl) rfl),rfl⟩ rfl (ab.ret ?_)
 obtain rfl:=zaa h
 refine Fin.af ⟨[(4,_)],[(103,_)]⟩ rfl (Fin.au [.agg (az a)] (.inl rfl) rfl (.cons (.agg aq rfl rfl rfl rfl) .nil) ⟨rfl,rfl⟩)
def jk (F:Nat) (s0:Str):Option (bY×Int) :=
 Option.bind ((aT (decide (0<(s0.length:Int))) (aS s0 0)).bind fun w=>bA ((decide (0<(s0.length:Int)))&&(decide ((w.toNat:Int)=45))) fun x=>if x=true then ((qt s0 1).bind fun z=>some z) else (some s0)) (fun a=>(aT (!(decide (a=[]))) (aS a 0)).bind fun ac=>bA ((decide (a=[]))||((decide ((ac.toNat:Int)=48))&&(decide (s0≠[48])))) fun ad=>if ad=true then ((gD F).bind fun ai=>some (ai,281)) else (Option.bind (iter F (fun f=>if (decide (f<((ofStr a).length:Int)))=true then ((aS (ofStr a) f).bind fun g=>if ((decide (g<48))||(decide (57<g)))=true then ((gD F).bind fun h=>some (.inr (.inr (h,281)))) else (some (.inl (i64.wrap (f+1))))) else (some (.inr (.inl ())))) 0) (cW (fun _=>if (decide (512<(a.length:Int)))=true then ((gD F).bind fun j=>some (j,30)) else ((kq F 0).bind fun k=>(kq F 10).bind fun m=>Option.bind (iter F (bQ fun e c=>if (decide (c<((ofStr a).length:Int)))=true then ((aS (ofStr a) c).bind fun o=>(tn F e m).bind fun q=>bA (i64.wrap (u8.wrap (o-48))) fun r=>(kq F r).bind fun t=>(rz F q t).bind fun u=>some (.inl (u,i64.wrap (c+1)))) else (some (.inr e))) (k,0)) (fun d=>if d.Bad=true then (some (d,30)) else ((de F (decide (a≠s0)) d.W).bind fun v=>some (v,0))))) (fun y=>some y))))
theorem ua {F:Nat} {s0:Str} {r:bY×Int} (h:jk F s0=some r):ax prog (bd mx) 33 [] [.one (.str s0)] (Is [] (.gS [.agg (az r.1),.one (.i r.2)])):=by
 unfold jk at h
 refine ax.intro 80 Tryz.func33 Tryz.ntmps33 rfl (by simp) fun E=>(ab.seq (ab.aa ?_))
 refine Oc (aF (k:=101) bO rfl) (Oc oa (ae.ag ⟨[(0,.b (.one (.str s0))),(2,Pt 101 0)],[(101,.box 35 dL)]⟩ rfl (ab.seq (ab.aa ?_))))
 refine Oc om (Oc oa (ae.ag ⟨[(0,_),(2,_),(4,.b (.one (.str s0)))],[(101,_)]⟩ rfl ?_))
 obtain⟨v1,h2,h⟩:=aH h
 refine ab.bR (v:=v1) (fun (a:Str)=>⟨[(0,.b (.one (.str s0))),(2,Pt 101 0),(4,.b (.one (.str a)))],[(101,.box 35 dL)]⟩) (fun z=>z) ?_ ?_
 refine ab.seq (ab.aa ?_)
 refine Oc om (Oc (bh cb rfl) (Oc (dy rfl rfl) (Oc om ?_)))
 refine cH (decide (0<(s0.length:Int))) [] (fun g3=>trivial) (fun g3=>om) ?_
 obtain⟨be,e5,h2⟩:=aH h2
 refine cH (decide (0<(s0.length:Int))) [16] (fun g4=>⟨g4,trivial⟩) (fun g4=>aV cb rfl rfl (aR (gc e5 g4)) (cF (gc e5 g4))) (cH (decide (0<(s0.length:Int))) [17] (fun g6=>⟨g6,trivial⟩) (fun g6=>b8 rfl rfl) (ae.il h2 rfl (aD (fun e=>e) rfl rfl rfl rfl) (fun ai h2=>(ae.ag ⟨[(0,_),(2,_),(4,_),(19,B ai)],[(101,_)]⟩ rfl (ab.ite h2 rfl (fun _ h2=>?_) (fun _ h2=>?_))))))
 refine ab.aa (Oc om ?_)
 obtain⟨ak,e7,h2⟩:=aH h2
 refine Oc (mW cb e7 rfl rfl) (Oc oa (ae.nil ?_))
 exact Fin.join [0,2,4] [101] ak (zaa h2) rfl
 refine ab.skip ?_
 exact Fin.join [0,2,4] [101] s0 (zaa h2) rfl
 rintro a hv
 subst v1
 refine ab.seq (ab.seq (ab.aa ?_))
 refine Oc om (Oc (iU rfl rfl) (Oc om ?_))
 refine dD (!(decide (a=[]))) [] (fun g8=>trivial) (fun g8=>om) ?_
 obtain⟨y,e10,h⟩:=aH h
 refine dD (!(decide (a=[]))) [25] (fun g9=>⟨g9,trivial⟩) (fun g9=>aV cb rfl rfl (aR (gc e10 g9)) (cF (gc e10 g9))) (dD (!(decide (a=[]))) [26] (fun g11=>⟨g11,trivial⟩) (fun g11=>b8 rfl rfl) (dD (!(decide (a=[]))) [27] (fun g12=>⟨g12,trivial⟩) (fun g12=>om) (ae.af ⟨[(0,_),(2,_),(4,_),(24,B (decide (a=[]))),(28,.opt (!(decide (a=[]))) (.one (.bool (decide ((y.toNat:Int)=48)))))],[(101,_)]⟩ rfl (ae.dQ ((!(decide (a=[])))&&(decide ((y.toNat:Int)=48))) 99 [] (.under rfl) (j4 _ _) rfl rfl (fun g13=>by exact trivial) (fun g13=>om) (ae.dQ ((!(decide (a=[])))&&(decide ((y.toNat:Int)=48))) 99 [29] (.under rfl) (j4 _ _) rfl rfl (fun g14=>by exact⟨g14,trivial⟩) (fun g14=>lg rfl rfl) ?_)))))
 refine dD (!(decide (a=[]))) [28] (fun g15=>⟨g15,trivial⟩) (fun g15=>aD (fun e=>by rw[g15,e];rfl) rfl rfl rfl rfl) (ae.il h rfl (aW (fun e=>by first|(rw[e];rfl)|(simp only at e;rw[e];rfl)) rfl rfl rfl rfl) (fun al h=>(ae.ag ⟨[(0,_),(2,_),(4,_),(32,B al)],[(101,_)]⟩ rfl (ab.ite h rfl (fun _ h=>?_) (fun _ h=>?_)))))
 refine ab.seq (ab.aa ?_)
 obtain⟨ac,e16,h⟩:=aH h
 refine Oc (ah (eF e16) kW rfl rfl) (Oc (an aq rfl rfl rfl rfl (zab rfl) rfl) (Oc oa (ae.ag ⟨[(2,_),(3,I 281)],[(101,.box 35 (az ac))]⟩ rfl (ab.ret (Fin.ay ?_)))))
 obtain rfl:=zaa h
 refine Fin.af ⟨[(2,_),(3,_)],[(101,_)]⟩ rfl (Fin.au [.agg (az ac),.one (.i 281)] (.inl rfl) rfl (.cons (.agg aq rfl rfl rfl rfl) (.cons (.tmp rfl) .nil)) ⟨rfl,rfl⟩)
 refine ab.skip (Fin.af ⟨[(0,_),(2,_),(4,_)],[(101,_)]⟩ rfl (Fin.then ?_))
 obtain⟨v17,h18,h⟩:=aH h
 refine ab.bR (v:=v17) (fun (_:Unit)=>⟨[(0,.b (.one (.str s0))),(2,Pt 101 0),(4,.b (.one (.str a)))],[(101,.box 35 dL)]⟩) (fun z=>.inl z) ?_ ?_
 refine ab.seq (ab.aa ?_)
 refine Oc om (Oc (nQ cb kS oe rfl) (Oc (ba kS rfl (List.length_map _)) (Oc om (ae.ag ⟨[(0,_),(2,_),(4,_),(35,.b (.one (.sl 1 ((ofStr a).map (eK .u8))))),(36,I ((ofStr a).length:Int)),(37,I 0)],[(101,_)]⟩ rfl (ab.block (ab.cx h18 (fun (m:Int)=>⟨[(0,.b (.one (.str s0))),(2,Pt 101 0),(4,.b (.one (.str a))),(35,.b (.one (.sl 1 ((ofStr a).map (eK .u8))))),(36,I ((ofStr a).length:Int)),(37,I m)],[(101,.box 35 dL)]⟩) [0,2,4,35,36,37] [101] rfl ?_))))))
 rintro m o19 h20 hy21
 refine ab.seq (ab.aa ?_)
 refine Oc (bt rfl rfl) (ae.ag ⟨[(0,_),(2,_),(4,_),(35,_),(36,_),(37,_),(38,B (decide (m<((ofStr a).length:Int))))],[(101,_)]⟩ rfl (ab.seq (ab.ite h20 rfl (fun _ h20=>?_) (fun _ h20=>?_))))
 refine ab.skip (Fin.af ⟨[(0,_),(2,_),(4,_),(35,_),(36,_),(37,_)],[(101,_)]⟩ rfl (Fin.then (ab.seq (ab.block (ab.seq (ab.aa ?_))))))
 obtain⟨f,e22,h20⟩:=aH h20
 refine Oc (bm mF (aR e22) (cu (e:=(eK .u8)) e22) rfl rfl) (Oc (bg Bh rfl rfl) (Oc oa (ae.ag ⟨[(0,_),(2,_),(4,_),(6,.b (.one (.int .u8 f))),(35,_),(36,_),(37,_)],[(101,_)]⟩ rfl (ab.seq (ab.aa ?_)))))
 refine Oc om (Oc (bt rfl rfl) (Oc om ?_))
 refine dD (!(decide (f<48))) [] (fun g23=>trivial) (fun g23=>om) (dD (!(decide (f<48))) [44] (fun g24=>by exact⟨g24,trivial⟩) (fun g24=>dy rfl rfl) (Oc (aW (fun e=>by first|(rw[e];rfl)|(simp only at e;rw[e];rfl)) rfl rfl rfl rfl) (ae.ag ⟨[(0,_),(2,_),(4,_),(35,_),(36,_),(37,_),(46,B ((decide (f<48))||(decide (57<f))))],[(101,_)]⟩ rfl (ab.ite h20 rfl (fun _ h20=>?_) (fun _ h20=>?_)))))
 refine ab.seq (ab.aa ?_)
 obtain⟨o,e25,h20⟩:=aH h20
 refine Oc (ah (eF e25) kW rfl rfl) (Oc (an aq rfl rfl rfl rfl (zab rfl) rfl) (Oc oa (ae.ag ⟨[(2,_),(3,I 281)],[(101,.box 35 (az o))]⟩ rfl (ab.ret (Fin.bc (Fin.ay ?_))))))
 obtain rfl:=hy21 _ (zaa h20).symm
 refine Fin.ay (Fin.bc (Fin.ay ?_))
 obtain rfl:=zaa h
 refine Fin.af ⟨[(2,_),(3,_)],[(101,_)]⟩ rfl (Fin.au [.agg (az o),.one (.i 281)] (.inl rfl) rfl (.cons (.agg aq rfl rfl rfl rfl) (.cons (.tmp rfl) .nil)) ⟨rfl,rfl⟩)
 refine ab.skip (Fin.aA (Fin.af ⟨[(0,_),(2,_),(4,_),(35,_),(36,_),(37,_)],[(101,_)]⟩ rfl (Fin.then (ab.aa ?_))))
 refine Oc (aL rfl rfl) (Oc om (ae.nil ?_))
 exact Fin.bB [0,2,4,35,36,37] [101] (i64.wrap (m+1)) (zaa h20) rfl
 refine ab.exit (Fin.aw ?_)
 obtain rfl:=hy21 _ (zaa h20).symm
 refine Fin.aw (Fin.aJ ?_)
 exact Fin.join [0,2,4] [101] () rfl rfl
 rintro _ hv
 subst v17
 refine ab.seq (ab.seq (ab.aa ?_))
 refine Oc om (Oc (bh cb rfl) (Oc (dy rfl rfl) (ae.ag ⟨[(0,_),(2,_),(4,_),(51,B (decide (512<(a.length:Int))))],[(101,_)]⟩ rfl (ab.ite h rfl (fun _ h=>?_) (fun _ h=>?_)))))
 refine ab.seq (ab.aa ?_)
 obtain⟨q,e26,h⟩:=aH h
 refine Oc (ah (eF e26) kW rfl rfl) (Oc (an aq rfl rfl rfl rfl (zab rfl) rfl) (Oc oa (ae.ag ⟨[(2,_),(3,I 30)],[(101,.box 35 (az q))]⟩ rfl (ab.ret (Fin.ay ?_)))))
 obtain rfl:=zaa h
 refine Fin.af ⟨[(2,_),(3,_)],[(101,_)]⟩ rfl (Fin.au [.agg (az q),.one (.i 30)] (.inl rfl) rfl (.cons (.agg aq rfl rfl rfl rfl) (.cons (.tmp rfl) .nil)) ⟨rfl,rfl⟩)
 refine ab.skip (Fin.af ⟨[(0,_),(2,_),(4,_)],[(101,_)]⟩ rfl (Fin.then (ab.seq (ab.aa ?_))))
 obtain⟨t,e27,h⟩:=aH h
 refine Oc (ah (jl e27) pa rfl rfl) ?_
 obtain⟨g,e28,h⟩:=aH h
 refine Oc (ah (jl e28) pa rfl rfl) (ae.af ⟨[(0,_),(2,_),(4,_),(53,.b (.agg (az t))),(54,.b (.agg (az g)))],[(101,_)]⟩ rfl (Oc (aF (k:=102) bO rfl) (Oc (aF (k:=103) bO rfl) (Oc (an aq rfl rfl rfl rfl (zab rfl) rfl) (Oc (an aq rfl rfl rfl rfl (zab rfl) rfl) (ae.ag ⟨[(0,_),(2,_),(4,_),(7,Pt 102 0),(8,Pt 103 0)],[(101,_),(102,.box 35 (az t)),(103,.box 35 (az g))]⟩ rfl ?_))))))
 obtain⟨v29,h30,h⟩:=aH h
 refine ab.bR (v:=v29) (fun (c:bY)=>⟨[(0,.b (.one (.str s0))),(2,Pt 101 0),(4,.b (.one (.str a))),(7,Pt 102 0)],[(101,.box 35 dL),(102,.box 35 (az c))]⟩) (fun z=>z) ?_ ?_
 refine ab.seq (ab.aa ?_)
 refine Oc om (Oc (nQ cb kS oe rfl) (Oc (ba kS rfl (List.length_map _)) (Oc om (ae.ag ⟨[(0,_),(2,_),(4,_),(7,_),(8,_),(56,.b (.one (.sl 1 ((ofStr a).map (eK .u8))))),(57,I ((ofStr a).length:Int)),(58,I 0)],[(101,_),(102,_),(103,_)]⟩ rfl (ab.block (ab.cx h30 (bQ fun (j:bY) (d:Int)=>⟨[(0,.b (.one (.str s0))),(2,Pt 101 0),(4,.b (.one (.str a))),(7,Pt 102 0),(8,Pt 103 0),(56,.b (.one (.sl 1 ((ofStr a).map (eK .u8))))),(57,I ((ofStr a).length:Int)),(58,I d)],[(101,.box 35 dL),(102,.box 35 (az j)),(103,.box 35 (az g))]⟩) [0,2,4,7,8,56,57,58] [101,102,103] rfl ?_))))))
 rintro⟨j,d⟩ o31 h32 hy33
 refine ab.seq (ab.aa ?_)
 refine Oc (bt rfl rfl) (ae.ag ⟨[(0,_),(2,_),(4,_),(7,_),(8,_),(56,_),(57,_),(58,_),(59,B (decide (d<((ofStr a).length:Int))))],[(101,_),(102,_),(103,_)]⟩ rfl (ab.seq (ab.ite h32 rfl (fun _ h32=>?_) (fun _ h32=>?_))))
 refine ab.skip (Fin.af ⟨[(0,_),(2,_),(4,_),(7,_),(8,_),(56,_),(57,_),(58,_)],[(101,_),(102,_),(103,_)]⟩ rfl (Fin.then (ab.seq (ab.block (ab.seq (ab.aa ?_))))))
 obtain⟨u,e34,h32⟩:=aH h32
 refine Oc (bm mF (aR e34) (cu (e:=(eK .u8)) e34) rfl rfl) (Oc (bg Bh rfl rfl) (Oc oa (ae.ag ⟨[(0,_),(2,_),(4,_),(7,_),(8,_),(10,.b (.one (.int .u8 u))),(56,_),(57,_),(58,_)],[(101,_),(102,_),(103,_)]⟩ rfl (ab.aa (Oc (lp aq) (Oc (lp aq) ?_))))))
 obtain⟨ad,e35,h32⟩:=aH h32
 refine Oc (ah (BO e35) goes50 rfl rfl) (Oc om (Oc (bW rfl rfl) (ae.af ⟨[(0,_),(2,_),(4,_),(7,_),(8,_),(56,_),(57,_),(58,_),(64,.b (.agg (az ad))),(66,.b (.one (.int .u8 (u8.wrap (u-48)))))],[(101,_),(102,_),(103,_)]⟩ rfl (ae.cJ .i64 h32 rfl (aE oe nA rfl) (fun am h32=>?_)))))
 obtain⟨ap,e36,h32⟩:=aH h32
 refine Oc (ah (jl e36) pa rfl rfl) ?_
 obtain⟨w,e37,h32⟩:=aH h32
 refine Oc (ah (xe e37) Fk rfl rfl) (Oc (an aq rfl rfl rfl rfl (zab rfl) rfl) (ae.nil (Fin.aA (Fin.af ⟨[(0,_),(2,_),(4,_),(7,_),(8,_),(56,_),(57,_),(58,_)],[(101,_),(102,.box 35 (az w)),(103,_)]⟩ rfl (Fin.then (ab.aa ?_))))))
 refine Oc (aL rfl rfl) (Oc om (ae.nil ?_))
 exact Fin.bB [0,2,4,7,8,56,57,58] [101,102,103] (w,i64.wrap (d+1)) (zaa h32) rfl
 refine ab.exit (Fin.aw ?_)
 obtain rfl:=hy33 _ (zaa h32).symm
 refine Fin.aw (Fin.aJ ?_)
 exact Fin.join [0,2,4,7] [101,102] j rfl rfl
 rintro c hv
 subst v29
 refine ab.seq (ab.seq (ab.aa ?_))
 refine Oc (aj my rfl rfl) (Oc (ao cE rfl rfl rfl) (ae.ag ⟨[(0,_),(2,_),(4,_),(7,_),(72,B c.Bad)],[(101,_),(102,_)]⟩ rfl (ab.ite h rfl (fun _ h=>?_) (fun _ h=>?_))))
 refine ab.seq (ab.aa ?_)
 refine Oc (lp aq) (Oc (an aq rfl rfl rfl rfl (zab rfl) rfl) (Oc oa (ae.ag ⟨[(2,_),(3,I 30)],[(101,.box 35 (az c))]⟩ rfl (ab.ret (Fin.ay ?_)))))
 obtain rfl:=zaa h
 refine Fin.af ⟨[(2,_),(3,_)],[(101,_)]⟩ rfl (Fin.au [.agg (az c),.one (.i 30)] (.inl rfl) rfl (.cons (.agg aq rfl rfl rfl rfl) (.cons (.tmp rfl) .nil)) ⟨rfl,rfl⟩)
 refine ab.skip (Fin.af ⟨[(0,_),(2,_),(4,_),(7,_)],[(101,_),(102,_)]⟩ rfl (Fin.then (ab.seq (ab.aa ?_))))
 refine Oc om (Oc om (Oc (lg rfl rfl) (Oc (aj aY rfl rfl) (Oc (lp aM) (ae.af ⟨[(2,_),(76,B (decide (a≠s0))),(78,.b (.agg (eW c.W)))],[(101,_)]⟩ rfl ?_)))))
 obtain⟨x,e38,h⟩:=aH h
 refine Oc (ah (c7 e38) kV rfl rfl) (Oc (an aq rfl rfl rfl rfl (zab rfl) rfl) (Oc oa (ae.ag ⟨[(2,_),(3,I 0)],[(101,.box 35 (az x))]⟩ rfl (ab.ret ?_))))
 obtain rfl:=zaa h
 refine Fin.af ⟨[(2,_),(3,_)],[(101,_)]⟩ rfl (Fin.au [.agg (az x),.one (.i 0)] (.inl rfl) rfl (.cons (.agg aq rfl rfl rfl rfl) (.cons (.tmp rfl) .nil)) ⟨rfl,rfl⟩)
def ox (F:Nat) (x0:bY):Option Bool :=
 (aT (!x0.Bad) (mu F x0)).bind fun a=>some ((!x0.Bad)&&a)
theorem vo {F:Nat} {x0:bY} {r:Bool} (h:ox F x0=some r):ax prog (bd mx) 73 [] [.agg (az x0)] (Is [] (.b (.one (.bool r)))):=by
 unfold ox at h
 refine ax.intro 10 Tryz.func73 Tryz.ntmps73 rfl (by simp) fun E=>(ab.seq (ab.aa ?_))
 refine Oc (bE (k:=101) rfl rfl) (Oc oa (ae.ag ⟨[(1,Pt 101 0)],[(101,.box 35 (az x0))]⟩ rfl (ab.seq (ab.aa ?_))))
 refine Oc (aj my rfl rfl) (Oc (ao cE rfl rfl rfl) (Oc (cc rfl) (Oc om ?_)))
 refine cH (!x0.Bad) [] (fun g1=>trivial) (fun g1=>lp aq) (ae.af ⟨[(6,B (!x0.Bad)),(7,.opt (!x0.Bad) (.agg (az x0)))],[]⟩ rfl ?_)
 obtain⟨a,e3,h⟩:=aH h
 refine cH (!x0.Bad) [7] (fun g2=>⟨g2,trivial⟩) (fun g2=>ah (tY (gc e3 g2)) Df rfl rfl) (Oc (aD (fun e=>e) rfl rfl rfl rfl) (Oc oa (ae.ag ⟨[(2,B ((!x0.Bad)&&a))],[]⟩ rfl (ab.ret ?_))))
 obtain rfl:=zaa h
 refine Fin.af ⟨[(2,_)],[]⟩ rfl (Fin.au [.one (.bool ((!x0.Bad)&&a))] (.inl rfl) rfl (.cons (.tmp rfl) .nil) ⟨rfl,rfl⟩)
def kD (F:Nat) (x0:bY):Option Int :=
 (fN F [x0]).bind fun a=>if ((!a)||(decide (x0.W=aZ.zero)))=true then (some 0) else (if x0.Neg=true then (some (-1)) else (some 1))
theorem qV {F:Nat} {x0:bY} {r:Int} (h:kD F x0=some r):ax prog (bd mx) 74 [] [.agg (az x0)] (Is [] (.b (.one (.i r)))):=by
 unfold kD at h
 refine ax.intro 17 Tryz.func74 Tryz.ntmps74 rfl (by simp) fun E=>(ab.seq (ab.aa ?_))
 refine Oc (bE (k:=101) rfl rfl) (Oc oa (ae.ag ⟨[(1,Pt 101 0)],[(101,.box 35 (az x0))]⟩ rfl (ab.seq (ab.block (ab.seq (ab.aa ?_))))))
 refine Oc (lp aq) (Oc (aX (k:=102) (es:=[x0].map az) ly rfl rfl (cg fun _=>rfl) rfl (by decide) (by decide) rfl) ?_)
 obtain⟨a,e1,h⟩:=aH h
 refine Oc (gL (gu e1) me rfl CP.gi) (Oc (cc rfl) ?_)
 refine ae.af ⟨[(1,_),(7,B (!a))],[(101,_)]⟩ rfl (Oc om (dD (!(!a)) [] (fun g2=>by exact trivial) (fun g2=>aj aY rfl rfl) (dD (!(!a)) [9] (fun g3=>by exact⟨g3,trivial⟩) (fun g3=>lp aM) (dD (!(!a)) [] (fun g4=>by exact trivial) (fun g4=>iy iw rfl rfl) (dD (!(!a)) [10,11] (fun g5=>by exact⟨g5,g5,trivial⟩) (fun g5=>fP (rO x0.W aZ.zero) rfl rfl) ?_)))))
 refine Oc (aW (fun e=>by first|(rw[e];rfl)|(simp only at e;rw[e];rfl)) rfl rfl rfl rfl) (Oc oa (ae.ag ⟨[(1,_),(3,B ((!a)||(decide (x0.W=aZ.zero))))],[(101,_)]⟩ rfl (ab.ite h rfl (fun _ h=>?_) (fun _ h=>?_))))
 refine ab.seq (ab.aa ?_)
 refine Oc oa (ae.ag ⟨[(2,I 0)],[]⟩ rfl (ab.ret (Fin.bc (Fin.ay ?_))))
 obtain rfl:=zaa h
 refine Fin.af ⟨[(2,_)],[]⟩ rfl (Fin.au [.one (.i 0)] (.inl rfl) rfl (.cons (.tmp rfl) .nil) ⟨rfl,rfl⟩)
 refine ab.seq (ab.aa ?_)
 refine Oc (aj bJ rfl rfl) (Oc (ao cE rfl rfl rfl) (Oc oa (ae.ag ⟨[(14,B x0.Neg)],[]⟩ rfl (ab.ite h rfl (fun _ h=>?_) (fun _ h=>?_)))))
 refine ab.seq (ab.aa ?_)
 refine Oc oa (ae.ag ⟨[(2,I (-1))],[]⟩ rfl (ab.ret (Fin.bc (Fin.ay ?_))))
 obtain rfl:=zaa h
 refine Fin.af ⟨[(2,_)],[]⟩ rfl (Fin.au [.one (.i (-1))] (.inl rfl) rfl (.cons (.tmp rfl) .nil) ⟨rfl,rfl⟩)
 refine ab.skip (Fin.aA (Fin.af ⟨[],[]⟩ rfl (Fin.then (ab.seq (ab.aa ?_)))))
 refine Oc oa (ae.ag ⟨[(2,I 1)],[]⟩ rfl (ab.ret ?_))
 obtain rfl:=zaa h
 refine Fin.af ⟨[(2,_)],[]⟩ rfl (Fin.au [.one (.i 1)] (.inl rfl) rfl (.cons (.tmp rfl) .nil) ⟨rfl,rfl⟩)
def tr (F:Nat):Option bY :=
 (kq F 1).bind fun a=>some a
theorem B7 {F:Nat} {r:bY} (h:tr F=some r):ax prog (bd mx) 102 [] [] (Is [] (.b (.agg (az r)))):=by
 unfold tr at h
 refine ax.intro 2 Tryz.func102 Tryz.ntmps102 rfl (by simp) fun E=>(ab.seq (ab.aa ?_))
 refine Oc (aF (k:=101) bO rfl) (ae.ag ⟨[(0,Pt 101 0)],[(101,.box 35 dL)]⟩ rfl (ab.seq (ab.aa ?_)))
 obtain⟨a,e1,h⟩:=aH h
 refine Oc (ah (jl e1) pa rfl rfl) (Oc (an aq rfl rfl rfl rfl (zab rfl) rfl) (ae.ag ⟨[(0,_)],[(101,.box 35 (az a))]⟩ rfl (ab.ret ?_)))
 obtain rfl:=zaa h
 refine Fin.af ⟨[(0,_)],[(101,_)]⟩ rfl (Fin.au [.agg (az a)] (.inl rfl) rfl (.cons (.agg aq rfl rfl rfl rfl) .nil) ⟨rfl,rfl⟩)
def tt (F:Nat):Option s9 :=
 (gD F).bind fun a=>(tr F).bind fun c=>some (⟨a,c⟩:s9)
theorem B8 {F:Nat} {r:s9} (h:tt F=some r):ax prog (bd mx) 49 [] [] (Is [] (.b (.agg (km r)))):=by
 unfold tt at h
 refine ax.intro 4 Tryz.func49 Tryz.ntmps49 rfl (by simp) fun E=>(ab.seq (ab.aa ?_))
 refine Oc (aF (k:=101) lM rfl) (ae.ag ⟨[(0,Pt 101 0)],[(101,.box 37 wh)]⟩ rfl (ab.seq (ab.aa ?_)))
 obtain⟨a,e1,h⟩:=aH h
 refine Oc (ah (eF e1) kW rfl rfl) ?_
 obtain⟨c,e2,h⟩:=aH h
 refine Oc (ah (B7 e2) goes102 rfl rfl) (Oc (aU oF rfl rfl) (Oc (an dM rfl rfl rfl rfl (zab rfl) rfl) (ae.ag ⟨[(0,_)],[(101,.box 37 (az a++(az c)))]⟩ rfl (ab.ret ?_))))
 obtain rfl:=zaa h
 refine Fin.af ⟨[(0,_)],[(101,_)]⟩ rfl (Fin.au [.agg (az a++(az c))] (.inl rfl) rfl (.cons (.agg dM rfl rfl rfl rfl) .nil) ⟨rfl,rfl⟩)
def oE (F:Nat) (a0:aZ) (b0:Int):Option (aZ×Int) :=
 Option.bind (iter F (iJ fun c d a=>if (decide (0<=a))=true then ((aS a0.l a).bind fun h=>bA (lx .u64 (u64.wrap (d*4294967296)) (u64.wrap h)) fun e=>(ma .u64 e (u64.wrap b0)).bind fun f=>(aS c.l a).bind fun m=>(wj e (u64.wrap b0)).bind fun g=>some (.inl (c.set a (u32.wrap f),g,i64.wrap (a-1)))) else (some (.inr (c,d)))) (aZ.zero,0,15)) (bQ fun j k=>some (j,u32.wrap k))
theorem zg {F:Nat} {a0:aZ} {b0:Int} {r:aZ×Int} (h:oE F a0 b0=some r):ax prog (bd mx) 139 [] [.agg (eW a0),.one (.int .u32 b0)] (Is [] (.gS [.agg (eW r.1),.one (.int .u32 r.2)])):=by
 unfold oE at h
 refine ax.intro 33 Tryz.func139 Tryz.ntmps139 rfl (by simp) fun E=>(ab.seq (ab.aa ?_))
 refine Oc (bE (k:=101) rfl rfl) (Oc (aF (k:=102) dt rfl) (Oc oa (ae.ag ⟨[(1,.b (.one (.int .u32 b0))),(2,Pt 101 0),(4,Pt 102 0)],[(101,.box 33 (eW a0)),(102,.box 33 (eW aZ.zero))]⟩ rfl (ab.seq (ab.aa ?_)))))
 refine Oc oa (ae.ag ⟨[(1,_),(2,_),(4,_),(6,.b (.one (.int .u64 0)))],[(101,_),(102,_)]⟩ rfl ?_)
 obtain⟨v1,h2,h⟩:=aH h
 refine ab.bR (v:=v1) (bQ fun (g:aZ) (e:Int)=>⟨[(4,Pt 102 0),(6,.b (.one (.int .u64 e)))],[(102,.box 33 (eW g))]⟩) (fun z=>z) ?_ ?_
 refine ab.seq (ab.aa ?_)
 refine Oc oa (ae.ag ⟨[(1,_),(2,_),(4,_),(6,_),(7,I 15)],[(101,_),(102,_)]⟩ rfl (ab.block (ab.cx h2 (iJ fun (c:aZ) (j:Int) (a:Int)=>⟨[(1,.b (.one (.int .u32 b0))),(2,Pt 101 0),(4,Pt 102 0),(6,.b (.one (.int .u64 j))),(7,I a)],[(101,.box 33 (eW a0)),(102,.box 33 (eW c))]⟩) [1,2,4,6,7] [101,102] rfl ?_)))
 rintro⟨c,j,a⟩ o3 h4 hy5
 refine ab.seq (ab.seq (ab.aa ?_))
 refine Oc om (Oc (gf rfl rfl) (ae.ag ⟨[(1,_),(2,_),(4,_),(6,_),(7,_),(9,B (decide (0<=a)))],[(101,_),(102,_)]⟩ rfl (ab.ite h4 rfl (fun _ h4=>?_) (fun _ h4=>?_))))
 refine ab.skip (Fin.af ⟨[(1,_),(2,_),(4,_),(6,_),(7,_)],[(101,_),(102,_)]⟩ rfl (Fin.then (ab.seq (ab.block (ab.seq (ab.aa ?_))))))
 refine Oc om (Oc (py (m:=32) (q:=4294967296) (by decide) rfl rfl (by decide)) (Oc om ?_))
 obtain⟨u,e6,h4⟩:=aH h4
 refine Oc (aK bH (aR e6) (cD e6) rfl rfl rfl) (Oc (ao bn rfl rfl (cA (post:=[]) (k:=.u32) [] e6 rfl rfl rfl)) (Oc (aE bT b6 rfl) ?_))
 refine ae.cJ .u64 h4 rfl (sg rfl rfl) (fun o h4=>?_)
 refine Oc oa (ae.ag ⟨[(1,_),(2,_),(4,_),(6,.b (.one (.int .u64 o))),(7,_)],[(101,_),(102,_)]⟩ rfl (ab.seq (ab.aa ?_)))
 refine Oc om (Oc om (Oc om (Oc (aE bT b6 rfl) ?_)))
 obtain⟨d,e7,h4⟩:=aH h4
 refine Oc (fv e7 rfl rfl) (Oc (aE b6 bT rfl) ?_)
 obtain⟨t,e8,h4⟩:=aH h4
 refine Oc (aK bH (aR e8) (cD e8) rfl rfl rfl) (Oc (bF bn rfl rfl rfl (kA (post:=[]) (k:=.u32) [] e8 rfl rfl rfl) (iH (post:=[]) (k:=.u32) [] e8 rfl rfl (aZ.jZ c a (u32.wrap d)) rfl rfl)) (ae.ag ⟨[(1,_),(2,_),(4,_),(6,_),(7,_)],[(101,_),(102,.box 33 (eW (c.set a (u32.wrap d))))]⟩ rfl (ab.aa (Oc om (Oc om (Oc (aE bT b6 rfl) ?_))))))
 obtain⟨f,e9,h4⟩:=aH h4
 refine Oc (rD e9 rfl rfl) (Oc oa (ae.nil (Fin.aA (Fin.af ⟨[(1,_),(2,_),(4,_),(6,.b (.one (.int .u64 f))),(7,_)],[(101,_),(102,_)]⟩ rfl (Fin.then (ab.aa ?_))))))
 refine Oc om (Oc (bW rfl rfl) (Oc oa (ae.nil ?_)))
 exact Fin.bB [1,2,4,6,7] [101,102] (c.set a (u32.wrap d),f,i64.wrap (a-1)) (zaa h4) rfl
 refine ab.exit (Fin.aw ?_)
 obtain rfl:=hy5 _ (zaa h4).symm
 refine Fin.aw (Fin.aJ ?_)
 exact Fin.join [4,6] [102] (c,j) rfl rfl
 rintro⟨g,e⟩ hv
 subst v1
 refine ab.seq (ab.aa ?_)
 refine Oc (lp aM) (Oc om (Oc (aE b6 bT rfl) (Oc (an aM rfl rfl rfl rfl (zab rfl) rfl) (Oc oa (ae.ag ⟨[(4,_),(5,.b (.one (.int .u32 (u32.wrap e))))],[(102,_)]⟩ rfl (ab.ret ?_))))))
 obtain rfl:=zaa h
 refine Fin.af ⟨[(4,_),(5,_)],[(102,_)]⟩ rfl (Fin.au [.agg (eW g),.one (.int .u32 (u32.wrap e))] (.inl rfl) rfl (.cons (.agg aM rfl rfl rfl rfl) (.cons (.tmp rfl) .nil)) ⟨rfl,rfl⟩)
def jw (F:Nat) (x0:Int):Option Int :=
 Option.bind (if (decide (65536<=x0))=true then (some (x0/65536,16)) else (some (x0,0))) (bQ fun a c=>Option.bind (if (decide (256<=a))=true then (some (a/256,i64.wrap (c+8))) else (some (a,c))) (bQ fun d e=>(aS ([0,1,2,2,3,3,3,3,4,4,4,4,4,4,4,4,5,5,5,5,5,5,5,5,5,5,5,5,5,5,5,5,6,6,6,6,6,6,6,6,6,6,6,6,6,6,6,6,6,6,6,6,6,6,6,6,6,6,6,6,6,6,6,6,7,7,7,7,7,7,7,7,7,7,7,7,7,7,7,7,7,7,7,7,7,7,7,7,7,7,7,7,7,7,7,7,7,7,7,7,7,7,7,7,7,7,7,7,7,7,7,7,7,7,7,7,7,7,7,7,7,7,7,7,7,7,7,7,8,8,8,8,8,8,8,8,8,8,8,8,8,8,8,8,8,8,8,8,8,8,8,8,8,8,8,8,8,8,8,8,8,8,8,8,8,8,8,8,8,8,8,8,8,8,8,8,8,8,8,8,8,8,8,8,8,8,8,8,8,8,8,8,8,8,8,8,8,8,8,8,8,8,8,8,8,8,8,8,8,8,8,8,8,8,8,8,8,8,8,8,8,8,8,8,8,8,8,8,8,8,8,8,8,8,8,8,8,8,8,8,8,8,8,8,8,8,8,8,8,8,8,8,8,8,8,8]:Str) (u8.wrap d)).bind fun f=>bA (i64.wrap (e+(i64.wrap (f.toNat:Int)))) fun g=>some g))
theorem qg {F:Nat} {x0 r:Int} (h:jw F x0=some r):ax prog (bd mx) 168 [] [.one (.int .u32 x0)] (Is [] (.b (.one (.i r)))):=by
 unfold jw at h
 refine ax.intro 19 Tryz.func168 Tryz.ntmps168 rfl (by simp) fun E=>(ab.seq (ab.aa ?_))
 refine Oc oa (ae.ag ⟨[(0,.b (.one (.int .u32 x0))),(2,I 0)],[]⟩ rfl ?_)
 obtain⟨v1,h2,h⟩:=aH h
 refine ab.bR (v:=v1) (bQ fun (a:Int) (c:Int)=>⟨[(0,.b (.one (.int .u32 a))),(2,I c)],[]⟩) (fun z=>z) ?_ ?_
 refine ab.seq (ab.aa ?_)
 refine Oc om (Oc (gf rfl rfl) (ae.ag ⟨[(0,_),(2,_),(4,B (decide (65536<=x0)))],[]⟩ rfl (ab.ite h2 rfl (fun _ h2=>?_) (fun _ h2=>?_))))
 refine ab.seq (ab.aa ?_)
 refine Oc om (Oc (jh (m:=16) (by decide) rfl rfl rfl) (Oc oa (ae.ag ⟨[(0,.b (.one (.int .u32 (x0/65536))))],[]⟩ rfl (ab.aa (Oc oa (ae.nil ?_))))))
 exact Fin.join [0,2] [] (x0/65536,16) (zaa h2) rfl
 refine ab.skip ?_
 exact Fin.join [0,2] [] (x0,0) (zaa h2) rfl
 rintro⟨a,c⟩ hv
 subst v1
 obtain⟨v3,h4,h⟩:=aH h
 refine ab.bR (v:=v3) (bQ fun (d:Int) (e:Int)=>⟨[(0,.b (.one (.int .u32 d))),(2,I e)],[]⟩) (fun z=>z) ?_ ?_
 refine ab.seq (ab.aa ?_)
 refine Oc om (Oc (gf rfl rfl) (ae.ag ⟨[(0,_),(2,_),(8,B (decide (256<=a)))],[]⟩ rfl (ab.ite h4 rfl (fun _ h4=>?_) (fun _ h4=>?_))))
 refine ab.seq (ab.aa ?_)
 refine Oc om (Oc (jh (m:=8) (by decide) rfl rfl rfl) (Oc oa (ae.ag ⟨[(0,.b (.one (.int .u32 (a/256)))),(2,_)],[]⟩ rfl (ab.aa (Oc om (Oc (aL rfl rfl) (Oc oa (ae.nil ?_))))))))
 exact Fin.join [0,2] [] (a/256,i64.wrap (c+8)) (zaa h4) rfl
 refine ab.skip ?_
 exact Fin.join [0,2] [] (a,c) (zaa h4) rfl
 rintro⟨d,e⟩ hv
 subst v3
 refine ab.seq (ab.aa ?_)
 refine Oc om (Oc om (Oc (aE bT oe rfl) ?_))
 obtain⟨g,e5,h⟩:=aH h
 refine Oc (aV cb rfl rfl (aR e5) (cF e5)) (Oc (aE oe nA rfl) ?_)
 refine ae.cJ .i64 h rfl (aL rfl rfl) (fun f h=>?_)
 refine Oc oa (ae.ag ⟨[(2,I f)],[]⟩ rfl (ab.ret ?_))
 obtain rfl:=zaa h
 refine Fin.af ⟨[(2,_)],[]⟩ rfl (Fin.au [.one (.i f)] (.inl rfl) rfl (.cons (.tmp rfl) .nil) ⟨rfl,rfl⟩)
def eD (F:Nat) (x0:Int):Option Int :=
 (jw F x0).bind fun a=>some (i64.wrap (32-a))
theorem od {F:Nat} {x0 r:Int} (h:eD F x0=some r):ax prog (bd mx) 140 [] [.one (.int .u32 x0)] (Is [] (.b (.one (.i r)))):=by
 unfold eD at h
 refine ax.intro 6 Tryz.func140 Tryz.ntmps140 rfl (by simp) fun E=>(ab.seq (ab.aa ?_))
 refine Oc oa (ae.ag ⟨[(0,.b (.one (.int .u32 x0)))],[]⟩ rfl (ab.seq (ab.aa ?_)))
 refine Oc om ?_
 obtain⟨a,e1,h⟩:=aH h
 refine Oc (ah (qg e1) C' rfl rfl) (Oc (bW rfl rfl) (Oc oa (ae.ag ⟨[(2,I (i64.wrap (32-a)))],[]⟩ rfl (ab.ret ?_))))
 obtain rfl:=zaa h
 refine Fin.af ⟨[(2,_)],[]⟩ rfl (Fin.au [.one (.i (i64.wrap (32-a)))] (.inl rfl) rfl (.cons (.tmp rfl) .nil) ⟨rfl,rfl⟩)
def uA (F:Nat) (w0:aZ) (n0:Int):Option (aZ×Int) :=
 Option.bind (iter F (iJ fun c a d=>if (decide (d<16))=true then ((aS w0.l d).bind fun j=>Option.bind (zE .u64 (u64.wrap j) n0) (fun g=>bA (u32.wrap (lx .u64 a g)) fun h=>(aS c.l d).bind fun k=>some (.inl (c.set d h,(lx .u64 a g)/4294967296,i64.wrap (d+1))))) else (some (.inr (c,a)))) (aZ.zero,0,0)) (bQ fun f e=>some (f,u32.wrap e))
theorem xZ {F:Nat} {w0:aZ} {n0:Int} {r:aZ×Int} (h:uA F w0 n0=some r):ax prog (bd mx) 141 [] [.agg (eW w0),.one (.i n0)] (Is [] (.gS [.agg (eW r.1),.one (.int .u32 r.2)])):=by
 unfold uA at h
 refine ax.intro 30 Tryz.func141 Tryz.ntmps141 rfl (by simp) fun E=>(ab.seq (ab.aa ?_))
 refine Oc (bE (k:=101) rfl rfl) (Oc (aF (k:=102) dt rfl) (Oc oa (ae.ag ⟨[(1,I n0),(2,Pt 101 0),(4,Pt 102 0)],[(101,.box 33 (eW w0)),(102,.box 33 (eW aZ.zero))]⟩ rfl (ab.seq (ab.aa ?_)))))
 refine Oc (aF (k:=103) dt rfl) (ae.ag ⟨[(1,_),(2,_),(4,_),(6,Pt 103 0)],[(101,_),(102,_),(103,.box 33 (eW aZ.zero))]⟩ rfl (ab.seq (ab.aa ?_)))
 refine Oc oa (ae.ag ⟨[(1,_),(2,_),(4,_),(6,_),(7,.b (.one (.int .u64 0)))],[(101,_),(102,_),(103,_)]⟩ rfl ?_)
 obtain⟨v1,h2,h⟩:=aH h
 refine ab.bR (v:=v1) (bQ fun (e:aZ) (c:Int)=>⟨[(4,Pt 102 0),(6,Pt 103 0),(7,.b (.one (.int .u64 c)))],[(102,.box 33 (eW aZ.zero)),(103,.box 33 (eW e))]⟩) (fun z=>z) ?_ ?_
 refine ab.seq (ab.aa ?_)
 refine Oc om (ae.ag ⟨[(1,_),(2,_),(4,_),(6,_),(7,_),(9,I 0)],[(101,_),(102,_),(103,_)]⟩ rfl (ab.block (ab.cx h2 (iJ fun (d:aZ) (a:Int) (f:Int)=>⟨[(1,I n0),(2,Pt 101 0),(4,Pt 102 0),(6,Pt 103 0),(7,.b (.one (.int .u64 a))),(9,I f)],[(101,.box 33 (eW w0)),(102,.box 33 (eW aZ.zero)),(103,.box 33 (eW d))]⟩) [1,2,4,6,7,9] [101,102,103] rfl ?_)))
 rintro⟨d,a,f⟩ o3 h4 hy5
 refine ab.seq (ab.aa ?_)
 refine Oc (bt rfl rfl) (ae.ag ⟨[(1,_),(2,_),(4,_),(6,_),(7,_),(9,_),(10,B (decide (f<16)))],[(101,_),(102,_),(103,_)]⟩ rfl (ab.seq (ab.ite h4 rfl (fun _ h4=>?_) (fun _ h4=>?_))))
 refine ab.skip (Fin.af ⟨[(1,_),(2,_),(4,_),(6,_),(7,_),(9,_)],[(101,_),(102,_),(103,_)]⟩ rfl (Fin.then (ab.seq (ab.block (ab.seq (ab.aa ?_))))))
 refine Oc om (Oc oa (ae.ag ⟨[(1,_),(2,_),(4,_),(6,_),(7,_),(8,I f),(9,_)],[(101,_),(102,_),(103,_)]⟩ rfl (ab.seq (ab.aa ?_))))
 refine Oc om (Oc om ?_)
 obtain⟨q,e6,h4⟩:=aH h4
 refine Oc (aK bH (aR e6) (cD e6) rfl rfl rfl) (Oc (ao bn rfl rfl (cA (post:=[]) (k:=.u32) [] e6 rfl rfl rfl)) (Oc (aE bT b6 rfl) (Oc om ?_)))
 obtain⟨j,e7,h4⟩:=aH h4
 refine Oc (EZ e7 rfl rfl) (Oc (sg rfl rfl) (Oc oa (ae.ag ⟨[(1,_),(2,_),(4,_),(6,_),(7,.b (.one (.int .u64 (lx .u64 a j)))),(8,_),(9,_)],[(101,_),(102,_),(103,_)]⟩ rfl (ab.seq (ab.aa ?_)))))
 refine Oc om (Oc om ?_)
 refine ae.cJ .u32 h4 rfl (aE b6 bT rfl) (fun g h4=>?_)
 obtain⟨o,e8,h4⟩:=aH h4
 refine Oc (aK bH (aR e8) (cD e8) rfl rfl rfl) (Oc (bF bn rfl rfl rfl (kA (post:=[]) (k:=.u32) [] e8 rfl rfl rfl) (iH (post:=[]) (k:=.u32) [] e8 rfl rfl (aZ.jZ d f g) rfl rfl)) (ae.ag ⟨[(1,_),(2,_),(4,_),(6,_),(7,_),(9,_)],[(101,_),(102,_),(103,.box 33 (eW (d.set f g)))]⟩ rfl (ab.aa (Oc om (Oc (jh (m:=32) (by decide) rfl rfl rfl) (Oc oa (ae.nil (Fin.aA (Fin.af ⟨[(1,_),(2,_),(4,_),(6,_),(7,.b (.one (.int .u64 ((lx .u64 a j)/4294967296)))),(9,_)],[(101,_),(102,_),(103,_)]⟩ rfl (Fin.then (ab.aa ?_)))))))))))
 refine Oc (aL rfl rfl) (Oc om (ae.nil ?_))
 exact Fin.bB [1,2,4,6,7,9] [101,102,103] (d.set f g,(lx .u64 a j)/4294967296,i64.wrap (f+1)) (zaa h4) rfl
 refine ab.exit (Fin.aw ?_)
 obtain rfl:=hy5 _ (zaa h4).symm
 refine Fin.aw (Fin.aJ ?_)
 exact Fin.join [4,6,7] [102,103] (d,a) rfl rfl
 rintro⟨e,c⟩ hv
 subst v1
 refine ab.seq (ab.aa ?_)
 refine Oc (lp aM) (Oc om (Oc (aE b6 bT rfl) (Oc (an aM rfl rfl rfl rfl (zab rfl) rfl) (Oc oa (ae.ag ⟨[(4,_),(5,.b (.one (.int .u32 (u32.wrap c))))],[(102,.box 33 (eW e))]⟩ rfl (ab.ret ?_))))))
 obtain rfl:=zaa h
 refine Fin.af ⟨[(4,_),(5,_)],[(102,_)]⟩ rfl (Fin.au [.agg (eW e),.one (.int .u32 (u32.wrap c))] (.inl rfl) rfl (.cons (.agg aM rfl rfl rfl rfl) (.cons (.tmp rfl) .nil)) ⟨rfl,rfl⟩)
def mr (F:Nat) (v0:aZ) (n0:Int) (j0:Int) (e:cL):Option Int :=
 (aS e.l (i64.wrap (j0+n0))).bind fun f=>(aS e.l (i64.wrap ((i64.wrap (j0+n0))-1))).bind fun g=>(aS v0.l (i64.wrap (n0-1))).bind fun d=>(ma .u64 (lx .u64 (u64.wrap ((u64.wrap f)*4294967296)) (u64.wrap g)) (u64.wrap d)).bind fun m=>(wj (lx .u64 (u64.wrap ((u64.wrap f)*4294967296)) (u64.wrap g)) (u64.wrap d)).bind fun o=>Option.bind (iter F (bQ fun c a=>(aT ((decide (a<4294967296)) && !(decide (4294967296<=c))) (aS v0.l (i64.wrap (n0-2)))).bind fun h=>(aT ((decide (a<4294967296)) && !(decide (4294967296<=c))) (aS e.l (i64.wrap ((i64.wrap (j0+n0))-2)))).bind fun j=>if ((decide (a<4294967296))&&((decide (4294967296<=c))||(decide ((lx .u64 (u64.wrap (a*4294967296)) (u64.wrap j))<(u64.wrap (c*(u64.wrap h)))))))=true then (bA (u64.wrap (a+(u64.wrap d))) fun k=>some (.inl (u64.wrap (c-1),k))) else (some (.inr c))) (m,o)) (fun q=>some q)
theorem zh {F:Nat} {v0:aZ} {n0 j0:Int} {o:cL} {r:Int} (h:mr F v0 n0 j0 o=some r):ax prog (bd mx) 142 [(1,.box 183 ((kn .u32) o))] [.ptr 1 0,.agg (eW v0),.one (.i n0),.one (.i j0)] (Is [(1,.box 183 ((kn .u32) o))] (.b (.one (.int .u64 r)))):=by
 unfold mr at h
 refine ax.intro 77 Tryz.func142 Tryz.ntmps142 rfl (by simp) fun E=>(ab.seq (ab.aa ?_))
 refine Oc (bE (k:=101) rfl rfl) (Oc oa (ae.ag ⟨[(0,Pt 1 0),(2,I n0),(3,I j0),(5,Pt 101 0)],[(1,.box 183 ((kn .u32) o)),(101,.box 33 (eW v0))]⟩ rfl (ab.seq ?_)))
 obtain⟨g,e1,h⟩:=aH h
 obtain⟨j,e2,h⟩:=aH h
 refine ab.bN mixed 20 [Pt 1 0,I j0,I n0,I (i64.wrap (j0+n0)),Pt 1 0,.b (.ptr 1 (0+(i64.wrap (j0+n0):Int).toNat*1)),.b (.one (.int .u32 g)),.b (.one (.int .u64 (u64.wrap g))),.b (.one (.int .u64 (u64.wrap ((u64.wrap g)*4294967296)))),Pt 1 0,I j0,I n0,I (i64.wrap (j0+n0)),I (i64.wrap ((i64.wrap (j0+n0))-1)),Pt 1 0,.b (.ptr 1 (0+(i64.wrap ((i64.wrap (j0+n0))-1):Int).toNat*1)),.b (.one (.int .u32 j)),.b (.one (.int .u64 (u64.wrap j))),.b (.one (.int .u64 (lx .u64 (u64.wrap ((u64.wrap g)*4294967296)) (u64.wrap j)))),.b (.one (.int .u64 (lx .u64 (u64.wrap ((u64.wrap g)*4294967296)) (u64.wrap j))))] [0,2,3,5,9] [1,101] (s':=⟨[(0,_),(2,_),(3,_),(5,_),(9,.b (.one (.int .u64 (lx .u64 (u64.wrap ((u64.wrap g)*4294967296)) (u64.wrap j)))))],[(1,_),(101,_)]⟩) rfl ⟨fun _=>.p om,fun _=>.p om,fun _=>.p om,fun _=>.p (aL rfl rfl),fun _=>.p (aB rfl),fun _=>.p (aK gm (aR e1) (cD e1) rfl rfl rfl),fun _=>.p (ao bn rfl rfl (cA (post:=[]) (k:=.u32) [] e1 rfl rfl rfl)),fun _=>.p (aE bT b6 rfl),fun _=>.p (py (m:=32) (q:=4294967296) (by decide) rfl rfl (by decide)),fun _=>.p om,fun _=>.p om,fun _=>.p om,fun _=>.p (aL rfl rfl),fun _=>.p (bW rfl rfl),fun _=>.p (aB rfl),fun _=>.p (aK gm (aR e2) (cD e2) rfl rfl rfl),fun _=>.p (ao bn rfl rfl (cA (post:=[]) (k:=.u32) [] e2 rfl rfl rfl)),fun _=>.p (aE bT b6 rfl),fun _=>.p (sg rfl rfl),fun _=>.p oa,trivial⟩ rfl rfl (ab.seq (ab.aa ?_))
 refine Oc om (Oc (bW rfl rfl) ?_)
 obtain⟨t,e3,h⟩:=aH h
 refine Oc (aK bH (aR e3) (cD e3) rfl rfl rfl) (Oc (ao bn rfl rfl (cA (post:=[]) (k:=.u32) [] e3 rfl rfl rfl)) (Oc (aE bT b6 rfl) (Oc oa (ae.ag ⟨[(0,_),(2,_),(3,_),(5,_),(9,_),(10,.b (.one (.int .u64 (u64.wrap t))))],[(1,_),(101,_)]⟩ rfl (ab.seq ?_)))))
 obtain⟨w,e4,h⟩:=aH h
 obtain⟨x,e5,h⟩:=aH h
 refine ab.bN mixed 8 [.b (.one (.int .u64 (lx .u64 (u64.wrap ((u64.wrap g)*4294967296)) (u64.wrap j)))),.b (.one (.int .u64 (u64.wrap t))),.b (.one (.int .u64 w)),.b (.one (.int .u64 (lx .u64 (u64.wrap ((u64.wrap g)*4294967296)) (u64.wrap j)))),.b (.one (.int .u64 (u64.wrap t))),.b (.one (.int .u64 x)),.b (.one (.int .u64 w)),.b (.one (.int .u64 x))] [0,2,3,5,10,11,12] [1,101] (s':=⟨[(0,_),(2,_),(3,_),(5,_),(10,_),(11,.b (.one (.int .u64 w))),(12,.b (.one (.int .u64 x)))],[(1,_),(101,_)]⟩) rfl ⟨fun _=>.p om,fun _=>.p om,fun _=>.p (fv e4 rfl rfl),fun _=>.p om,fun _=>.p om,fun _=>.p (rD e5 rfl rfl),fun _=>.p oa,fun _=>.p oa,trivial⟩ rfl rfl ?_
 obtain⟨v6,h7,h⟩:=aH h
 refine ab.bR (v:=v6) (fun (u:Int)=>⟨[(11,.b (.one (.int .u64 u)))],[(1,.box 183 ((kn .u32) o))]⟩) (fun z=>z) ?_ ?_
 refine ab.block (ab.cx h7 (bQ fun (c:Int) (a:Int)=>⟨[(0,Pt 1 0),(2,I n0),(3,I j0),(5,Pt 101 0),(10,.b (.one (.int .u64 (u64.wrap t)))),(11,.b (.one (.int .u64 c))),(12,.b (.one (.int .u64 a)))],[(1,.box 183 ((kn .u32) o)),(101,.box 33 (eW v0))]⟩) [0,2,3,5,10,11,12] [1,101] rfl ?_)
 rintro⟨c,a⟩ o8 h9 hy10
 refine ab.seq (ab.seq (ab.af ⟨[(0,_),(2,_),(3,_),(5,_),(10,_),(11,_),(12,_)],[(1,_),(101,_)]⟩ rfl ?_))
 obtain⟨d,e18,h9⟩:=aH h9
 obtain⟨f,e31,h9⟩:=aH h9
 refine ab.bN mixed 28 ((fun z_=>[.b (.one (.int .u64 a)),B (decide (a<4294967296)),B (decide (a<4294967296)),.opt (decide (a<4294967296)) (.one (.int .u64 c)),.opt (decide (a<4294967296)) (.one (.bool (decide (4294967296<=c)))),.opt (decide (a<4294967296)) (.one (.bool (decide (4294967296<=c)))),.opt z_ (.one (.int .u64 c)),.opt z_ (.one (.i n0)),.opt z_ (.one (.i (i64.wrap (n0-2)))),.opt z_ (.ptr 101 (0+(i64.wrap (n0-2):Int).toNat*1)),.opt z_ (.one (.int .u32 d)),.opt z_ (.one (.int .u64 (u64.wrap d))),.opt z_ (.one (.int .u64 (u64.wrap (c*(u64.wrap d))))),.opt z_ (.one (.int .u64 a)),.opt z_ (.one (.int .u64 (u64.wrap (a*4294967296)))),.opt z_ (.ptr 1 0),.opt z_ (.one (.i j0)),.opt z_ (.one (.i n0)),.opt z_ (.one (.i (i64.wrap (j0+n0)))),.opt z_ (.one (.i (i64.wrap ((i64.wrap (j0+n0))-2)))),.opt z_ (.ptr 1 0),.opt z_ (.ptr 1 (0+(i64.wrap ((i64.wrap (j0+n0))-2):Int).toNat*1)),.opt z_ (.one (.int .u32 f)),.opt z_ (.one (.int .u64 (u64.wrap f))),.opt z_ (.one (.int .u64 (lx .u64 (u64.wrap (a*4294967296)) (u64.wrap f)))),.opt z_ (.one (.bool (decide ((lx .u64 (u64.wrap (a*4294967296)) (u64.wrap f))<(u64.wrap (c*(u64.wrap d))))))),.opt (decide (a<4294967296)) (.one (.bool ((decide (4294967296<=c))||(decide ((lx .u64 (u64.wrap (a*4294967296)) (u64.wrap f))<(u64.wrap (c*(u64.wrap d)))))))),B ((decide (a<4294967296))&&((decide (4294967296<=c))||(decide ((lx .u64 (u64.wrap (a*4294967296)) (u64.wrap f))<(u64.wrap (c*(u64.wrap d)))))))]) ((decide (a<4294967296)) && !(decide (4294967296<=c)))) [0,2,3,5,10,11,12,70] [1,101] (s':=⟨[(0,_),(2,_),(3,_),(5,_),(10,_),(11,_),(12,_),(70,B ((decide (a<4294967296))&&((decide (4294967296<=c))||(decide ((lx .u64 (u64.wrap (a*4294967296)) (u64.wrap f))<(u64.wrap (c*(u64.wrap d))))))))],[(1,_),(101,_)]⟩) rfl ⟨fun _=>.p om,fun _=>.p (bt rfl rfl),fun _=>.p om,fun _=>by exact .guard (decide (a<4294967296)) 1 [] (.plain rfl) (cy _) rfl rfl (fun g11=>trivial) (fun g11=>om),fun _=>by exact .guard (decide (a<4294967296)) 2 [46] (.plain rfl) (cy _) rfl rfl (fun g12=>⟨g12,trivial⟩) (fun g12=>gf rfl rfl),fun _=>by exact .guard (decide (a<4294967296)) 3 [47] (.plain rfl) (cy _) rfl rfl (fun g13=>⟨g13,trivial⟩) (fun g13=>om),fun _=>by exact .guard ((decide (a<4294967296)) && !(decide (4294967296<=c))) 1 [] (.under rfl) (ec _ _) rfl rfl (fun g14=>trivial) (fun g14=>om),fun _=>by exact .guard ((decide (a<4294967296)) && !(decide (4294967296<=c))) 1 [] (.under rfl) (ec _ _) rfl rfl (fun g15=>trivial) (fun g15=>om),fun _=>by exact .guard ((decide (a<4294967296)) && !(decide (4294967296<=c))) 2 [50] (.under rfl) (ec _ _) rfl rfl (fun g16=>⟨g16,trivial⟩) (fun g16=>bW rfl rfl),fun _=>by exact .guard ((decide (a<4294967296)) && !(decide (4294967296<=c))) 2 [51] (.under rfl) (ec _ _) rfl rfl (fun g17=>⟨g17,trivial⟩) (fun g17=>aK bH (aR (gc e18 g17)) (cD (gc e18 g17)) rfl rfl rfl),fun _=>by exact .guard ((decide (a<4294967296)) && !(decide (4294967296<=c))) 2 [52] (.under rfl) (ec _ _) rfl rfl (fun g19=>⟨g19,trivial⟩) (fun g19=>ao bn rfl rfl (cA (post:=[]) (k:=.u32) [] (gc e18 g19) rfl rfl rfl)),fun _=>by exact .guard ((decide (a<4294967296)) && !(decide (4294967296<=c))) 2 [53] (.under rfl) (ec _ _) rfl rfl (fun g20=>⟨g20,trivial⟩) (fun g20=>aE bT b6 rfl),fun _=>by exact .guard ((decide (a<4294967296)) && !(decide (4294967296<=c))) 3 [49,54] (.under rfl) (ec _ _) rfl rfl (fun g21=>⟨g21,g21,trivial⟩) (fun g21=>kU rfl rfl),fun _=>by exact .guard ((decide (a<4294967296)) && !(decide (4294967296<=c))) 1 [] (.under rfl) (ec _ _) rfl rfl (fun g22=>trivial) (fun g22=>om),fun _=>by exact .guard ((decide (a<4294967296)) && !(decide (4294967296<=c))) 2 [56] (.under rfl) (ec _ _) rfl rfl (fun g23=>⟨g23,trivial⟩) (fun g23=>py (m:=32) (q:=4294967296) (by decide) rfl rfl (by decide)),fun _=>by exact .guard ((decide (a<4294967296)) && !(decide (4294967296<=c))) 1 [] (.under rfl) (ec _ _) rfl rfl (fun g24=>trivial) (fun g24=>om),fun _=>by exact .guard ((decide (a<4294967296)) && !(decide (4294967296<=c))) 1 [] (.under rfl) (ec _ _) rfl rfl (fun g25=>trivial) (fun g25=>om),fun _=>by exact .guard ((decide (a<4294967296)) && !(decide (4294967296<=c))) 1 [] (.under rfl) (ec _ _) rfl rfl (fun g26=>trivial) (fun g26=>om),fun _=>by exact .guard ((decide (a<4294967296)) && !(decide (4294967296<=c))) 3 [59,60] (.under rfl) (ec _ _) rfl rfl (fun g27=>⟨g27,g27,trivial⟩) (fun g27=>aL rfl rfl),fun _=>by exact .guard ((decide (a<4294967296)) && !(decide (4294967296<=c))) 2 [61] (.under rfl) (ec _ _) rfl rfl (fun g28=>⟨g28,trivial⟩) (fun g28=>bW rfl rfl),fun _=>by exact .guard ((decide (a<4294967296)) && !(decide (4294967296<=c))) 2 [58] (.under rfl) (ec _ _) rfl rfl (fun g29=>⟨g29,trivial⟩) (fun g29=>aB rfl),fun _=>by exact .guard ((decide (a<4294967296)) && !(decide (4294967296<=c))) 3 [62,63] (.under rfl) (ec _ _) rfl rfl (fun g30=>⟨g30,g30,trivial⟩) (fun g30=>aK gm (aR (gc e31 g30)) (cD (gc e31 g30)) rfl rfl rfl),fun _=>by exact .guard ((decide (a<4294967296)) && !(decide (4294967296<=c))) 2 [64] (.under rfl) (ec _ _) rfl rfl (fun g32=>⟨g32,trivial⟩) (fun g32=>ao bn rfl rfl (cA (post:=[]) (k:=.u32) [] (gc e31 g32) rfl rfl rfl)),fun _=>by exact .guard ((decide (a<4294967296)) && !(decide (4294967296<=c))) 2 [65] (.under rfl) (ec _ _) rfl rfl (fun g33=>⟨g33,trivial⟩) (fun g33=>aE bT b6 rfl),fun _=>by exact .guard ((decide (a<4294967296)) && !(decide (4294967296<=c))) 3 [57,66] (.under rfl) (ec _ _) rfl rfl (fun g34=>⟨g34,g34,trivial⟩) (fun g34=>sg rfl rfl),fun _=>by exact .guard ((decide (a<4294967296)) && !(decide (4294967296<=c))) 3 [55,67] (.under rfl) (ec _ _) rfl rfl (fun g35=>⟨g35,g35,trivial⟩) (fun g35=>dy rfl rfl),fun _=>by exact .guard (decide (a<4294967296)) 3 [48] (.plain rfl) (cy _) rfl rfl (fun g36=>⟨g36,trivial⟩) (fun g36=>aW (fun e=>by rw[g36,e];rfl) rfl rfl rfl rfl),fun _=>.p (aD (fun e=>e) rfl rfl rfl rfl),trivial⟩ rfl rfl ?_
 refine ab.ite h9 rfl (fun _ h9=>?_) (fun _ h9=>?_)
 refine ab.skip (Fin.af ⟨[(0,_),(2,_),(3,_),(5,_),(10,_),(11,_),(12,_)],[(1,_),(101,_)]⟩ rfl (Fin.then (ab.block (ab.seq (ab.aa ?_)))))
 refine Oc om (Oc (bW rfl rfl) (Oc oa (ae.ag ⟨[(0,_),(2,_),(3,_),(5,_),(10,_),(11,.b (.one (.int .u64 (u64.wrap (c-1))))),(12,_)],[(1,_),(101,_)]⟩ rfl (ab.aa (Oc om (Oc om ?_))))))
 refine ae.cJ .u64 h9 rfl (aL rfl rfl) (fun y h9=>?_)
 refine Oc oa (ae.nil (Fin.aA ?_))
 exact Fin.bB [0,2,3,5,10,11,12] [1,101] (u64.wrap (c-1),y) (zaa h9) rfl
 refine ab.exit (Fin.aw ?_)
 obtain rfl:=hy10 _ (zaa h9).symm
 refine Fin.aw (Fin.aJ ?_)
 exact Fin.join [11] [1] c rfl rfl
 rintro u hv
 subst v6
 refine ab.seq (ab.aa ?_)
 refine Oc om (Oc oa (ae.ag ⟨[(8,.b (.one (.int .u64 u)))],[(1,_)]⟩ rfl (ab.ret ?_)))
 obtain rfl:=zaa h
 refine Fin.af ⟨[(8,_)],[(1,_)]⟩ rfl ?_
 exact Fin.result [.one (.int .u64 u)] (.inl rfl) rfl (.cons (.tmp rfl) .nil) ⟨rfl,rfl⟩
def ot (F:Nat) (v0:aZ) (n0:Int) (j0:Int) (d0:Int) (z:cL):Option (Bool×cL) :=
 Option.bind (iter F (Ba fun g c a e=>if (decide (e<n0))=true then ((aS v0.l e).bind fun o=>bA (u64.wrap (d0*(u64.wrap o))) fun h=>(aS g.l (i64.wrap (j0+e))).bind fun q=>bA (u32.wrap (u64.wrap (c+h))) fun r=>bA (u64.wrap ((u64.wrap q)-(u64.wrap r))) fun j=>bA (u32.wrap (u64.wrap (j-a))) fun t=>(aS g.l (i64.wrap (j0+e))).bind fun ac=>bA ((u64.wrap (j-a))/9223372036854775808) fun u=>bA ((u64.wrap (c+h))/4294967296) fun v=>some (.inl (g.set (i64.wrap (j0+e)) t,v,u,i64.wrap (e+1)))) else (some (.inr (g,c,a)))) (z,0,0,0)) (iJ fun m f d=>(aS m.l (i64.wrap (j0+n0))).bind fun w=>bA (u64.wrap ((u64.wrap w)-f)) fun k=>bA (u32.wrap (u64.wrap (k-d))) fun x=>(aS m.l (i64.wrap (j0+n0))).bind fun ad=>bA ((u64.wrap (k-d))/9223372036854775808) fun y=>some (decide (y=1),m.set (i64.wrap (j0+n0)) x))
theorem An {F:Nat} {v0:aZ} {n0 j0 d0:Int} {q:cL} {r:Bool×cL} (h:ot F v0 n0 j0 d0 q=some r):ax prog (bd mx) 143 [(1,.box 183 ((kn .u32) q))] [.ptr 1 0,.agg (eW v0),.one (.i n0),.one (.i j0),.one (.int .u64 d0)] (Is [(1,.box 183 ((kn .u32) r.2))] (.b (.one (.bool r.1)))):=by
 unfold ot at h
 refine ax.intro 78 Tryz.func143 Tryz.ntmps143 rfl (by simp) fun E=>(ab.seq (ab.aa ?_))
 refine Oc (bE (k:=101) rfl rfl) (Oc oa (ae.ag ⟨[(0,Pt 1 0),(2,I n0),(3,I j0),(4,.b (.one (.int .u64 d0))),(6,Pt 101 0)],[(1,.box 183 ((kn .u32) q)),(101,.box 33 (eW v0))]⟩ rfl (ab.seq (ab.aa ?_))))
 refine Oc oa (Oc oa (ae.ag ⟨[(0,_),(2,_),(3,_),(4,_),(6,_),(11,.b (.one (.int .u64 0))),(12,.b (.one (.int .u64 0)))],[(1,_),(101,_)]⟩ rfl ?_))
 obtain⟨v1,h2,h⟩:=aH h
 refine ab.bR (v:=v1) (iJ fun (o:cL) (e:Int) (d:Int)=>⟨[(0,Pt 1 0),(2,I n0),(3,I j0),(11,.b (.one (.int .u64 e))),(12,.b (.one (.int .u64 d)))],[(1,.box 183 ((kn .u32) o))]⟩) (fun z=>z) ?_ ?_
 refine ab.seq (ab.aa ?_)
 refine Oc om (Oc om (ae.ag ⟨[(0,_),(2,_),(3,_),(4,_),(6,_),(11,_),(12,_),(16,I n0),(17,I 0)],[(1,_),(101,_)]⟩ rfl (ab.block (ab.cx h2 (Ba fun (g:cL) (c:Int) (a:Int) (f:Int)=>⟨[(0,Pt 1 0),(2,I n0),(3,I j0),(4,.b (.one (.int .u64 d0))),(6,Pt 101 0),(11,.b (.one (.int .u64 c))),(12,.b (.one (.int .u64 a))),(16,I n0),(17,I f)],[(1,.box 183 ((kn .u32) g)),(101,.box 33 (eW v0))]⟩) [0,2,3,4,6,11,12,16,17] [1,101] rfl ?_))))
 rintro⟨g,c,a,f⟩ o3 h4 hy5
 refine ab.seq (ab.aa ?_)
 refine Oc (bt rfl rfl) (ae.ag ⟨[(0,_),(2,_),(3,_),(4,_),(6,_),(11,_),(12,_),(16,_),(17,_),(18,B (decide (f<n0)))],[(1,_),(101,_)]⟩ rfl (ab.seq (ab.ite h4 rfl (fun _ h4=>?_) (fun _ h4=>?_))))
 refine ab.skip (Fin.af ⟨[(0,_),(2,_),(3,_),(4,_),(6,_),(11,_),(12,_),(16,_),(17,_)],[(1,_),(101,_)]⟩ rfl (Fin.then (ab.seq (ab.block (ab.seq (ab.aa ?_))))))
 refine Oc om (Oc oa (ae.ag ⟨[(0,_),(2,_),(3,_),(4,_),(6,_),(11,_),(12,_),(13,I f),(16,_),(17,_)],[(1,_),(101,_)]⟩ rfl (ab.seq (ab.aa ?_))))
 refine Oc om (Oc om (Oc om ?_))
 obtain⟨al,e6,h4⟩:=aH h4
 refine Oc (aK bH (aR e6) (cD e6) rfl rfl rfl) (Oc (ao bn rfl rfl (cA (post:=[]) (k:=.u32) [] e6 rfl rfl rfl)) (Oc (aE bT b6 rfl) ?_))
 refine ae.cJ .u64 h4 rfl (kU rfl rfl) (fun y h4=>?_)
 refine Oc (aL rfl rfl) (Oc oa (ae.ag ⟨[(0,_),(2,_),(3,_),(4,_),(6,_),(11,.b (.one (.int .u64 (u64.wrap (c+y))))),(12,_),(13,_),(16,_),(17,_)],[(1,_),(101,_)]⟩ rfl (ab.seq (ab.aa ?_))))
 refine Oc om (Oc om (Oc om (Oc (aL rfl rfl) (Oc (aB rfl) ?_))))
 obtain⟨ac,e7,h4⟩:=aH h4
 refine Oc (aK gm (aR e7) (cD e7) rfl rfl rfl) (Oc (ao bn rfl rfl (cA (post:=[]) (k:=.u32) [] e7 rfl rfl rfl)) (ae.af ⟨[(0,_),(2,_),(3,_),(4,_),(6,_),(11,_),(12,_),(13,_),(16,_),(17,_),(34,.b (.one (.int .u32 ac)))],[(1,_),(101,_)]⟩ rfl (Oc (aE bT b6 rfl) (Oc om ?_))))
 refine ae.cJ .u32 h4 rfl (aE b6 bT rfl) (fun am h4=>?_)
 refine Oc (aE bT b6 rfl) (ae.cJ .u64 h4 rfl (bW rfl rfl) (fun ad h4=>?_))
 refine Oc om (Oc (bW rfl rfl) (Oc oa (ae.ag ⟨[(0,_),(2,_),(3,_),(4,_),(6,_),(11,_),(13,_),(14,.b (.one (.int .u64 (u64.wrap (ad-a))))),(16,_),(17,_)],[(1,_),(101,_)]⟩ rfl (ab.seq (ab.aa ?_)))))
 refine Oc om (Oc om (Oc om (Oc (aL rfl rfl) (Oc om ?_))))
 refine ae.cJ .u32 h4 rfl (aE b6 bT rfl) (fun j h4=>?_)
 refine Oc (aB rfl) ?_
 obtain⟨ap,e8,h4⟩:=aH h4
 refine Oc (aK gm (aR e8) (cD e8) rfl rfl rfl) (Oc (bF bn rfl rfl rfl (kA (post:=[]) (k:=.u32) [] e8 rfl rfl rfl) (iH (post:=[]) (k:=.u32) [] e8 rfl rfl (cL.jZ g (i64.wrap (j0+f)) j) rfl rfl)) (ae.ag ⟨[(0,_),(2,_),(3,_),(4,_),(6,_),(11,_),(14,_),(16,_),(17,_)],[(1,.box 183 ((kn .u32) (g.set (i64.wrap (j0+f)) j))),(101,_)]⟩ rfl (ab.seq (ab.aa ?_))))
 refine Oc om (ae.cJ .u64 h4 rfl (jh (m:=63) (by decide) rfl rfl rfl) (fun t h4=>?_))
 refine Oc oa (ae.ag ⟨[(0,_),(2,_),(3,_),(4,_),(6,_),(11,_),(12,.b (.one (.int .u64 t))),(16,_),(17,_)],[(1,_),(101,_)]⟩ rfl (ab.aa (Oc om (ae.cJ .u64 h4 rfl (jh (m:=32) (by decide) rfl rfl rfl) (fun u h4=>?_)))))
 refine Oc oa (ae.nil (Fin.aA (Fin.af ⟨[(0,_),(2,_),(3,_),(4,_),(6,_),(11,.b (.one (.int .u64 u))),(12,_),(16,_),(17,_)],[(1,_),(101,_)]⟩ rfl (Fin.then (ab.aa ?_)))))
 refine Oc (aL rfl rfl) (Oc om (ae.nil ?_))
 exact Fin.bB [0,2,3,4,6,11,12,16,17] [1,101] (g.set (i64.wrap (j0+f)) j,u,t,i64.wrap (f+1)) (zaa h4) rfl
 refine ab.exit (Fin.aw ?_)
 obtain rfl:=hy5 _ (zaa h4).symm
 refine Fin.aw (Fin.aJ ?_)
 exact Fin.join [0,2,3,11,12] [1] (g,c,a) rfl rfl
 rintro⟨o,e,d⟩ hv
 subst v1
 refine ab.seq (ab.aa ?_)
 refine Oc om (Oc om (Oc om (Oc (aL rfl rfl) (Oc (aB rfl) ?_))))
 obtain⟨ai,e9,h⟩:=aH h
 refine Oc (aK gm (aR e9) (cD e9) rfl rfl rfl) (Oc (ao bn rfl rfl (cA (post:=[]) (k:=.u32) [] e9 rfl rfl rfl)) (ae.af ⟨[(0,_),(2,_),(3,_),(11,_),(12,_),(61,.b (.one (.int .u32 ai)))],[(1,_)]⟩ rfl (Oc (aE bT b6 rfl) (Oc om ?_))))
 refine ae.cJ .u64 h rfl (bW rfl rfl) (fun ak h=>?_)
 refine Oc om (Oc (bW rfl rfl) (Oc oa (ae.ag ⟨[(0,_),(2,_),(3,_),(15,.b (.one (.int .u64 (u64.wrap (ak-d)))))],[(1,_)]⟩ rfl (ab.seq (ab.aa ?_)))))
 refine Oc om (Oc om (Oc om (Oc (aL rfl rfl) (Oc om ?_))))
 refine ae.cJ .u32 h rfl (aE b6 bT rfl) (fun w h=>?_)
 refine Oc (aB rfl) ?_
 obtain⟨be,e10,h⟩:=aH h
 refine Oc (aK gm (aR e10) (cD e10) rfl rfl rfl) (Oc (bF bn rfl rfl rfl (kA (post:=[]) (k:=.u32) [] e10 rfl rfl rfl) (iH (post:=[]) (k:=.u32) [] e10 rfl rfl (cL.jZ o (i64.wrap (j0+n0)) w) rfl rfl)) (ae.ag ⟨[(15,_)],[(1,.box 183 ((kn .u32) (o.set (i64.wrap (j0+n0)) w)))]⟩ rfl (ab.seq (ab.aa ?_))))
 refine Oc om (ae.cJ .u64 h rfl (jh (m:=63) (by decide) rfl rfl rfl) (fun x h=>?_))
 refine Oc (b8 rfl rfl) (Oc oa (ae.ag ⟨[(10,B (decide (x=1)))],[(1,_)]⟩ rfl (ab.ret ?_)))
 obtain rfl:=zaa h
 refine Fin.af ⟨[(10,_)],[(1,_)]⟩ rfl ?_
 exact Fin.result [.one (.bool (decide (x=1)))] (.inl rfl) rfl (.cons (.tmp rfl) .nil) ⟨rfl,rfl⟩
def ou (F:Nat) (v0:aZ) (n0:Int) (j0:Int) (o:cL):Option cL :=
 Option.bind (iter F (iJ fun e a c=>if (decide (c<n0))=true then ((aS e.l (i64.wrap (j0+c))).bind fun g=>(aS v0.l c).bind fun h=>bA (u64.wrap (a+(u64.wrap ((u64.wrap g)+(u64.wrap h))))) fun j=>(aS e.l (i64.wrap (j0+c))).bind fun q=>bA (u64.wrap (a+(u64.wrap ((u64.wrap g)+(u64.wrap h))))) fun k=>some (.inl (e.set (i64.wrap (j0+c)) (u32.wrap j),k/4294967296,i64.wrap (c+1)))) else (some (.inr (e,a)))) (o,0,0)) (bQ fun f d=>(aS f.l (i64.wrap (j0+n0))).bind fun m=>(aS f.l (i64.wrap (j0+n0))).bind fun r=>some (f.set (i64.wrap (j0+n0)) (u32.wrap (m+(u32.wrap d)))))
theorem Ap {F:Nat} {v0:aZ} {n0 j0:Int} {t r:cL} (h:ou F v0 n0 j0 t=some r):ax prog (bd mx) 144 [(1,.box 183 ((kn .u32) t))] [.ptr 1 0,.agg (eW v0),.one (.i n0),.one (.i j0)] (Is [(1,.box 183 ((kn .u32) r))] (.gS [])):=by
 unfold ou at h
 refine ax.intro 52 Tryz.func144 Tryz.ntmps144 rfl (by simp) fun E=>(ab.seq (ab.aa ?_))
 refine Oc (bE (k:=101) rfl rfl) (ae.ag ⟨[(0,Pt 1 0),(2,I n0),(3,I j0),(5,Pt 101 0)],[(1,.box 183 ((kn .u32) t)),(101,.box 33 (eW v0))]⟩ rfl (ab.seq (ab.aa ?_)))
 refine Oc oa (ae.ag ⟨[(0,_),(2,_),(3,_),(5,_),(8,.b (.one (.int .u64 0)))],[(1,_),(101,_)]⟩ rfl ?_)
 obtain⟨v1,h2,h⟩:=aH h
 refine ab.bR (v:=v1) (bQ fun (q:cL) (a:Int)=>⟨[(0,Pt 1 0),(2,I n0),(3,I j0),(8,.b (.one (.int .u64 a)))],[(1,.box 183 ((kn .u32) q))]⟩) (fun z=>z) ?_ ?_
 refine ab.seq (ab.aa ?_)
 refine Oc om (Oc om (ae.ag ⟨[(0,_),(2,_),(3,_),(5,_),(8,_),(10,I n0),(11,I 0)],[(1,_),(101,_)]⟩ rfl (ab.block (ab.cx h2 (iJ fun (f:cL) (c:Int) (d:Int)=>⟨[(0,Pt 1 0),(2,I n0),(3,I j0),(5,Pt 101 0),(8,.b (.one (.int .u64 c))),(10,I n0),(11,I d)],[(1,.box 183 ((kn .u32) f)),(101,.box 33 (eW v0))]⟩) [0,2,3,5,8,10,11] [1,101] rfl ?_))))
 rintro⟨f,c,d⟩ o3 h4 hy5
 refine ab.seq (ab.aa ?_)
 refine Oc (bt rfl rfl) (ae.ag ⟨[(0,_),(2,_),(3,_),(5,_),(8,_),(10,_),(11,_),(12,B (decide (d<n0)))],[(1,_),(101,_)]⟩ rfl (ab.seq (ab.ite h4 rfl (fun _ h4=>?_) (fun _ h4=>?_))))
 refine ab.skip (Fin.af ⟨[(0,_),(2,_),(3,_),(5,_),(8,_),(10,_),(11,_)],[(1,_),(101,_)]⟩ rfl (Fin.then (ab.seq (ab.block (ab.seq (ab.aa ?_))))))
 refine Oc om (Oc oa (ae.ag ⟨[(0,_),(2,_),(3,_),(5,_),(8,_),(9,I d),(10,_),(11,_)],[(1,_),(101,_)]⟩ rfl (ab.seq ?_)))
 obtain⟨g,e6,h4⟩:=aH h4
 obtain⟨j,e7,h4⟩:=aH h4
 refine ab.bN mixed 15 [.b (.one (.int .u64 c)),Pt 1 0,I j0,I d,I (i64.wrap (j0+d)),Pt 1 0,.b (.ptr 1 (0+(i64.wrap (j0+d):Int).toNat*1)),.b (.one (.int .u32 g)),.b (.one (.int .u64 (u64.wrap g))),I d,.b (.ptr 101 (0+(d:Int).toNat*1)),.b (.one (.int .u32 j)),.b (.one (.int .u64 (u64.wrap j))),.b (.one (.int .u64 (u64.wrap ((u64.wrap g)+(u64.wrap j))))),.b (.one (.int .u64 (u64.wrap (c+(u64.wrap ((u64.wrap g)+(u64.wrap j)))))))] [0,2,3,5,8,9,10,11] [1,101] (s':=⟨[(0,_),(2,_),(3,_),(5,_),(8,.b (.one (.int .u64 (u64.wrap (c+(u64.wrap ((u64.wrap g)+(u64.wrap j)))))))),(9,_),(10,_),(11,_)],[(1,_),(101,_)]⟩) rfl ⟨fun _=>.p om,fun _=>.p om,fun _=>.p om,fun _=>.p om,fun _=>.p (aL rfl rfl),fun _=>.p (aB rfl),fun _=>.p (aK gm (aR e6) (cD e6) rfl rfl rfl),fun _=>.p (ao bn rfl rfl (cA (post:=[]) (k:=.u32) [] e6 rfl rfl rfl)),fun _=>.p (aE bT b6 rfl),fun _=>.p om,fun _=>.p (aK bH (aR e7) (cD e7) rfl rfl rfl),fun _=>.p (ao bn rfl rfl (cA (post:=[]) (k:=.u32) [] e7 rfl rfl rfl)),fun _=>.p (aE bT b6 rfl),fun _=>.p (aL rfl rfl),fun _=>.p (aL rfl rfl),trivial⟩ ⟨_,by exact .p oa,rfl⟩ rfl (ab.seq (ab.aa ?_))
 refine Oc om (Oc om (Oc om (Oc (aL rfl rfl) ?_)))
 refine ae.cJ .u64 h4 rfl om (fun o h4=>?_)
 refine Oc (aE b6 bT rfl) (Oc (aB rfl) ?_)
 obtain⟨w,e8,h4⟩:=aH h4
 refine Oc (aK gm (aR e8) (cD e8) rfl rfl rfl) (Oc (bF bn rfl rfl rfl (kA (post:=[]) (k:=.u32) [] e8 rfl rfl rfl) (iH (post:=[]) (k:=.u32) [] e8 rfl rfl (cL.jZ f (i64.wrap (j0+d)) (u32.wrap o)) rfl rfl)) (ae.ag ⟨[(0,_),(2,_),(3,_),(5,_),(8,_),(10,_),(11,_)],[(1,.box 183 ((kn .u32) (f.set (i64.wrap (j0+d)) (u32.wrap o)))),(101,_)]⟩ rfl (ab.aa (ae.cJ .u64 h4 rfl om (fun u h4=>?_)))))
 refine Oc (jh (m:=32) (by decide) rfl rfl rfl) (Oc oa (ae.nil (Fin.aA (Fin.af ⟨[(0,_),(2,_),(3,_),(5,_),(8,.b (.one (.int .u64 (u/4294967296)))),(10,_),(11,_)],[(1,_),(101,_)]⟩ rfl (Fin.then (ab.aa ?_))))))
 refine Oc (aL rfl rfl) (Oc om (ae.nil ?_))
 exact Fin.bB [0,2,3,5,8,10,11] [1,101] (f.set (i64.wrap (j0+d)) (u32.wrap o),u/4294967296,i64.wrap (d+1)) (zaa h4) rfl
 refine ab.exit (Fin.aw ?_)
 obtain rfl:=hy5 _ (zaa h4).symm
 refine Fin.aw (Fin.aJ ?_)
 exact Fin.join [0,2,3,8] [1] (f,c) rfl rfl
 rintro⟨q,a⟩ hv
 subst v1
 refine ab.af ⟨[(0,_),(2,_),(3,_),(8,_)],[(1,_)]⟩ rfl ?_
 obtain⟨e,e9,h⟩:=aH h
 obtain⟨x,e10,h⟩:=aH h
 refine ab.jH mixed 12 [Pt 1 0,I j0,I n0,I (i64.wrap (j0+n0)),Pt 1 0,.b (.ptr 1 (0+(i64.wrap (j0+n0):Int).toNat*1)),.b (.one (.int .u32 e)),.b (.one (.int .u64 a)),.b (.one (.int .u32 (u32.wrap a))),.b (.one (.int .u32 (u32.wrap (e+(u32.wrap a))))),Pt 1 0,.b (.ptr 1 (0+(i64.wrap (j0+n0):Int).toNat*1))] [] [1] (s':=⟨[],[(1,.box 183 ((kn .u32) (q.set (i64.wrap (j0+n0)) (u32.wrap (e+(u32.wrap a))))))]⟩) rfl ⟨fun _=>.p om,fun _=>.p om,fun _=>.p om,fun _=>.p (aL rfl rfl),fun _=>.p (aB rfl),fun _=>.p (aK gm (aR e9) (cD e9) rfl rfl rfl),fun _=>.p (ao bn rfl rfl (cA (post:=[]) (k:=.u32) [] e9 rfl rfl rfl)),fun _=>.p om,fun _=>.p (aE b6 bT rfl),fun _=>.p (aL rfl rfl),fun _=>.p (aB rfl),fun _=>.p (aK gm (aR e10) (cD e10) rfl rfl rfl),trivial⟩ ⟨_,by exact .p (bF bn rfl rfl rfl (kA (post:=[]) (k:=.u32) [] e10 rfl rfl rfl) (iH (post:=[]) (k:=.u32) [] e10 rfl rfl (cL.jZ q (i64.wrap (j0+n0)) (u32.wrap (e+(u32.wrap a)))) rfl rfl)),rfl⟩ rfl ?_
 obtain rfl:=zaa h
 refine Fin.af ⟨[],[(1,_)]⟩ rfl ?_
 exact Fin.result [] (.inr rfl) rfl (.nil) ⟨rfl,rfl⟩
def ow (F:Nat) (w0:aZ) (n0:Int):Option aZ :=
 Option.bind (iter F (bQ fun a c=>if (decide (c<16))=true then (Option.bind (Option.bind (if (decide ((i64.wrap (c+1))<16))=true then ((aS w0.l (i64.wrap (c+1))).bind fun h=>some (u64.wrap h)) else (some 0)) (fun d=>bA (u64.wrap (d*4294967296)) fun j=>(aS w0.l c).bind fun k=>Option.bind (DC .u64 (lx .u64 j (u64.wrap k)) n0) (fun g=>(aS a.l c).bind fun m=>some (a.set c (u32.wrap g))))) (fun e=>some (.inl (e,i64.wrap (c+1))))) else (some (.inr a))) (aZ.zero,0)) (fun f=>some f)
theorem Aq {F:Nat} {w0:aZ} {n0:Int} {r:aZ} (h:ow F w0 n0=some r):ax prog (bd mx) 145 [] [.agg (eW w0),.one (.i n0)] (Is [] (.b (.agg (eW r)))):=by
 unfold ow at h
 refine ax.intro 33 Tryz.func145 Tryz.ntmps145 rfl (by simp) fun E=>(ab.seq (ab.aa ?_))
 refine Oc (bE (k:=101) rfl rfl) (Oc (aF (k:=102) dt rfl) (ae.ag ⟨[(1,I n0),(2,Pt 101 0),(4,Pt 102 0)],[(101,.box 33 (eW w0)),(102,.box 33 (eW aZ.zero))]⟩ rfl (ab.seq (ab.aa ?_))))
 refine Oc (aF (k:=103) dt rfl) (ae.ag ⟨[(1,_),(2,_),(4,_),(5,Pt 103 0)],[(101,_),(102,_),(103,.box 33 (eW aZ.zero))]⟩ rfl ?_)
 obtain⟨v1,h2,h⟩:=aH h
 refine ab.bR (v:=v1) (fun (d:aZ)=>⟨[(4,Pt 102 0),(5,Pt 103 0)],[(102,.box 33 (eW aZ.zero)),(103,.box 33 (eW d))]⟩) (fun z=>z) ?_ ?_
 refine ab.seq (ab.aa ?_)
 refine Oc om (ae.ag ⟨[(1,_),(2,_),(4,_),(5,_),(8,I 0)],[(101,_),(102,_),(103,_)]⟩ rfl (ab.block (ab.cx h2 (bQ fun (a:aZ) (c:Int)=>⟨[(1,I n0),(2,Pt 101 0),(4,Pt 102 0),(5,Pt 103 0),(8,I c)],[(101,.box 33 (eW w0)),(102,.box 33 (eW aZ.zero)),(103,.box 33 (eW a))]⟩) [1,2,4,5,8] [101,102,103] rfl ?_)))
 rintro⟨a,c⟩ o3 h4 hy5
 refine ab.seq (ab.aa ?_)
 refine Oc (bt rfl rfl) (ae.ag ⟨[(1,_),(2,_),(4,_),(5,_),(8,_),(9,B (decide (c<16)))],[(101,_),(102,_),(103,_)]⟩ rfl (ab.seq (ab.ite h4 rfl (fun _ h4=>?_) (fun _ h4=>?_))))
 refine ab.skip (Fin.af ⟨[(1,_),(2,_),(4,_),(5,_),(8,_)],[(101,_),(102,_),(103,_)]⟩ rfl (Fin.then ?_))
 obtain⟨v6,h7,h4⟩:=aH h4
 refine ab.bR (v:=v6) (fun (e:aZ)=>⟨[(1,I n0),(2,Pt 101 0),(4,Pt 102 0),(5,Pt 103 0),(8,I c)],[(101,.box 33 (eW w0)),(102,.box 33 (eW aZ.zero)),(103,.box 33 (eW e))]⟩) (fun z=>z) ?_ ?_
 refine ab.block (ab.seq (ab.aa ?_))
 refine Oc om (Oc oa (ae.ag ⟨[(1,_),(2,_),(4,_),(5,_),(6,I c),(8,_)],[(101,_),(102,_),(103,_)]⟩ rfl (ab.seq (ab.aa ?_))))
 refine Oc oa (ae.ag ⟨[(1,_),(2,_),(4,_),(5,_),(6,_),(7,.b (.one (.int .u64 0))),(8,_)],[(101,_),(102,_),(103,_)]⟩ rfl ?_)
 obtain⟨v8,h9,h7⟩:=aH h7
 refine ab.bR (v:=v8) (fun (f:Int)=>⟨[(1,I n0),(2,Pt 101 0),(4,Pt 102 0),(5,Pt 103 0),(6,I c),(7,.b (.one (.int .u64 f))),(8,I c)],[(101,.box 33 (eW w0)),(102,.box 33 (eW aZ.zero)),(103,.box 33 (eW a))]⟩) (fun z=>z) ?_ ?_
 refine ab.seq (ab.aa ?_)
 refine Oc om (Oc (aL rfl rfl) (Oc (bt rfl rfl) (ae.ag ⟨[(1,_),(2,_),(4,_),(5,_),(6,_),(7,_),(8,_),(13,B (decide ((i64.wrap (c+1))<16)))],[(101,_),(102,_),(103,_)]⟩ rfl (ab.ite h9 rfl (fun _ h9=>?_) (fun _ h9=>?_)))))
 refine ab.aa (Oc om (Oc (aL rfl rfl) ?_))
 obtain⟨j,e10,h9⟩:=aH h9
 refine Oc (aK bH (aR e10) (cD e10) rfl rfl rfl) (Oc (ao bn rfl rfl (cA (post:=[]) (k:=.u32) [] e10 rfl rfl rfl)) (Oc (aE bT b6 rfl) (Oc oa (ae.nil ?_))))
 exact Fin.join [1,2,4,5,6,7,8] [101,102,103] (u64.wrap j) (zaa h9) rfl
 refine ab.skip ?_
 exact Fin.join [1,2,4,5,6,7,8] [101,102,103] 0 (zaa h9) rfl
 rintro f hv
 subst v8
 refine ab.aa (Oc om (Oc om ?_))
 refine ae.cJ .u64 h7 rfl (py (m:=32) (q:=4294967296) (by decide) rfl rfl (by decide)) (fun o h7=>?_)
 refine Oc om ?_
 obtain⟨t,e11,h7⟩:=aH h7
 refine Oc (aK bH (aR e11) (cD e11) rfl rfl rfl) (Oc (ao bn rfl rfl (cA (post:=[]) (k:=.u32) [] e11 rfl rfl rfl)) (Oc (aE bT b6 rfl) (ae.af ⟨[(1,_),(2,_),(4,_),(5,_),(8,_),(19,I c),(21,.b (.one (.int .u64 o))),(25,.b (.one (.int .u64 (u64.wrap t))))],[(101,_),(102,_),(103,_)]⟩ rfl (Oc (sg rfl rfl) (Oc om ?_)))))
 obtain⟨g,e12,h7⟩:=aH h7
 refine Oc (op_shr3 e12 rfl rfl) (Oc (aE b6 bT rfl) ?_)
 obtain⟨u,e13,h7⟩:=aH h7
 refine Oc (aK bH (aR e13) (cD e13) rfl rfl rfl) (Oc (bF bn rfl rfl rfl (kA (post:=[]) (k:=.u32) [] e13 rfl rfl rfl) (iH (post:=[]) (k:=.u32) [] e13 rfl rfl (aZ.jZ a c (u32.wrap g)) rfl rfl)) (ae.nil (Fin.aA ?_)))
 exact Fin.join [1,2,4,5,8] [101,102,103] (a.set c (u32.wrap g)) (zaa h7) rfl
 rintro e hv
 subst v6
 refine ab.aa (Oc (aL rfl rfl) (Oc om (ae.nil ?_)))
 exact Fin.bB [1,2,4,5,8] [101,102,103] (e,i64.wrap (c+1)) (zaa h4) rfl
 refine ab.exit (Fin.aw ?_)
 obtain rfl:=hy5 _ (zaa h4).symm
 refine Fin.aw (Fin.aJ ?_)
 exact Fin.join [4,5] [102,103] a rfl rfl
 rintro d hv
 subst v1
 refine ab.seq (ab.aa ?_)
 refine Oc (lp aM) (Oc (an aM rfl rfl rfl rfl (zab rfl) rfl) (ae.ag ⟨[(4,_)],[(102,.box 33 (eW d))]⟩ rfl (ab.ret ?_)))
 obtain rfl:=zaa h
 refine Fin.af ⟨[(4,_)],[(102,_)]⟩ rfl (Fin.au [.agg (eW d)] (.inl rfl) rfl (.cons (.agg aM rfl rfl rfl rfl) .nil) ⟨rfl,rfl⟩)
def jq (F:Nat) (a0:aZ) (b0:aZ):Option (aZ×aZ) :=
 (iP F b0).bind fun e=>(iP F a0).bind fun z=>(mo F a0 b0).bind fun ac=>if (decide (ac<0))=true then (some (aZ.zero,a0)) else (if (decide (e=1))=true then (Option.bind (oE F a0 b0.a0) (bQ fun ad ai=>bA (⟨ai,0,0,0,0,0,0,0,0,0,0,0,0,0,0,0⟩:aZ) fun ak=>some (ad,ak))) else ((aS b0.l (i64.wrap (e-1))).bind fun al=>(eD F al).bind fun k=>Option.bind (uA F b0 k) (bQ fun m am=>Option.bind (uA F a0 k) (bQ fun a o=>Option.bind (iter F (iJ fun f g d=>if (decide (0<=d))=true then (Option.bind ((mr F m e d g).bind fun h=>Option.bind (Option.bind (ot F m e d h g) (bQ fun q j=>if q=true then ((ou F m e d j).bind fun r=>some (r,u64.wrap (h-1))) else (some (j,h)))) (bQ fun t u=>(aS f.l d).bind fun ap=>some (f.set d (u32.wrap u),t))) (bQ fun v w=>some (.inl (v,w,i64.wrap (d-1))))) else (some (.inr (f,g)))) (aZ.zero,(⟨(cL.of (bj cL.zero.l 0 ((a.l.drop 0).take 16))).a0,(cL.of (bj cL.zero.l 0 ((a.l.drop 0).take 16))).a1,(cL.of (bj cL.zero.l 0 ((a.l.drop 0).take 16))).a2,(cL.of (bj cL.zero.l 0 ((a.l.drop 0).take 16))).a3,(cL.of (bj cL.zero.l 0 ((a.l.drop 0).take 16))).a4,(cL.of (bj cL.zero.l 0 ((a.l.drop 0).take 16))).a5,(cL.of (bj cL.zero.l 0 ((a.l.drop 0).take 16))).a6,(cL.of (bj cL.zero.l 0 ((a.l.drop 0).take 16))).a7,(cL.of (bj cL.zero.l 0 ((a.l.drop 0).take 16))).a8,(cL.of (bj cL.zero.l 0 ((a.l.drop 0).take 16))).a9,(cL.of (bj cL.zero.l 0 ((a.l.drop 0).take 16))).a10,(cL.of (bj cL.zero.l 0 ((a.l.drop 0).take 16))).a11,(cL.of (bj cL.zero.l 0 ((a.l.drop 0).take 16))).a12,(cL.of (bj cL.zero.l 0 ((a.l.drop 0).take 16))).a13,(cL.of (bj cL.zero.l 0 ((a.l.drop 0).take 16))).a14,(cL.of (bj cL.zero.l 0 ((a.l.drop 0).take 16))).a15,o⟩:cL),i64.wrap (z-e))) (bQ fun x c=>(ow F (⟨c.a0,c.a1,c.a2,c.a3,c.a4,c.a5,c.a6,c.a7,c.a8,c.a9,c.a10,c.a11,c.a12,c.a13,c.a14,c.a15⟩:aZ) k).bind fun y=>some (x,y))))))
theorem qe {F:Nat} {a0 b0:aZ} {r:aZ×aZ} (h:jq F a0 b0=some r):ax prog (bd mx) 105 [] [.agg (eW a0),.agg (eW b0)] (Is [] (.gS [.agg (eW r.1),.agg (eW r.2)])):=by
 unfold jq at h
 refine ax.intro 94 Tryz.func105 Tryz.ntmps105 rfl (by simp) fun E=>(ab.seq (ab.aa ?_))
 refine Oc (bE (k:=101) rfl rfl) (Oc (bE (k:=102) rfl rfl) (Oc (aF (k:=103) dt rfl) (Oc (aF (k:=104) dt rfl) (ae.ag ⟨[(2,Pt 101 0),(3,Pt 102 0),(4,Pt 103 0),(5,Pt 104 0)],[(101,.box 33 (eW a0)),(102,.box 33 (eW b0)),(103,.box 33 (eW aZ.zero)),(104,.box 33 (eW aZ.zero))]⟩ rfl (ab.seq ?_)))))
 obtain⟨j,e1,h⟩:=aH h
 obtain⟨al,e2,h⟩:=aH h
 refine ab.bN mixed 6 [.b (.agg (eW b0)),I j,.b (.agg (eW a0)),I al,I j,I al] [2,3,4,5,6,7] [101,102,103,104] (s':=⟨[(2,_),(3,_),(4,_),(5,_),(6,I j),(7,I al)],[(101,_),(102,_),(103,_),(104,_)]⟩) rfl ⟨fun _=>.p (lp aM),fun _=>.p (ah (iX e1) pD rfl rfl),fun _=>.p (lp aM),fun _=>.p (ah (iX e2) pD rfl rfl),fun _=>.p oa,fun _=>.p oa,trivial⟩ rfl rfl (ab.seq (ab.seq (ab.aa ?_)))
 refine Oc (lp aM) (Oc (lp aM) ?_)
 obtain⟨bs,e3,h⟩:=aH h
 refine Oc (ah (tX e3) Di rfl rfl) (Oc (bt rfl rfl) (ae.ag ⟨[(2,_),(3,_),(4,_),(5,_),(6,_),(7,_),(25,B (decide (bs<0)))],[(101,_),(102,_),(103,_),(104,_)]⟩ rfl (ab.ite h rfl (fun _ h=>?_) (fun _ h=>?_))))
 refine ab.seq (ab.af ⟨[(2,_),(4,_),(5,_)],[(101,_),(103,_),(104,_)]⟩ rfl (ab.pw mixed [false,false,true,true] [.b (.agg (eW aZ.zero)),.b (.agg (eW a0)),B true,B true] [⟨[false,false,false,false],[(2,Pt 101 0),(4,Pt 103 0),(5,Pt 104 0)],[(101,.box 33 (eW a0)),(103,.box 33 (eW aZ.zero)),(104,.box 33 (eW aZ.zero))],[true,true,true,true],[],[3]⟩,⟨[false,false,true,false],[(2,Pt 101 0),(4,Pt 103 0),(5,Pt 104 0)],[(101,.box 33 (eW a0)),(103,.box 33 (eW aZ.zero)),(104,.box 33 (eW aZ.zero))],[true,true,true,true],[0,2],[]⟩,⟨[false,false,true,true],[(2,Pt 101 0),(4,Pt 103 0),(5,Pt 104 0)],[(101,.box 33 (eW a0)),(103,.box 33 (eW aZ.zero)),(104,.box 33 (eW a0))],[true,true,true,true],[0,1,2,3],[]⟩] rfl (⟨by kernel_rfl,⟨⟨.b (.agg (eW aZ.zero)),fun _=>rfl,fun _=>.p (by exact iy iw rfl rfl)⟩,⟨.b (.agg (eW a0)),fun _=>rfl,fun _=>.p (by exact fg aM rfl rfl rfl rfl)⟩,⟨_,[],.b (.one .any),rfl,(fun e=>by simp at e),rfl,rfl,fun _=>.wg [101,103,104] (by exact .p (by exact an aM rfl rfl rfl rfl (zab rfl) rfl)) (by exact rfl)⟩,trivial,trivial⟩,⟨by kernel_rfl,⟨trivial,⟨.b (.agg (eW a0)),fun _=>rfl,fun _=>.p (by exact fg aM rfl rfl rfl rfl)⟩,trivial,⟨_,[],.b (.one .any),rfl,(fun e=>by simp at e),rfl,rfl,fun _=>.wg [101,103,104] (by exact .p (by exact an aM rfl rfl rfl rfl (zab rfl) rfl)) (by exact rfl)⟩,trivial⟩,⟨by kernel_rfl,⟨trivial,trivial,trivial,trivial,trivial⟩,trivial⟩⟩⟩) rfl rfl rfl [4,5] [103,104] (s':=⟨[(4,_),(5,_)],[(103,_),(104,.box 33 (eW a0))]⟩) rfl (ab.ret (Fin.ay ?_))))
 obtain rfl:=zaa h
 refine Fin.af ⟨[(4,_),(5,_)],[(103,_),(104,_)]⟩ rfl (Fin.au [.agg (eW aZ.zero),.agg (eW a0)] (.inl rfl) rfl (.cons (.agg aM rfl rfl rfl rfl) (.cons (.agg aM rfl rfl rfl rfl) .nil)) ⟨rfl,rfl⟩)
 refine ab.skip (Fin.af ⟨[(2,_),(3,_),(4,_),(5,_),(6,_),(7,_)],[(101,_),(102,_),(103,_),(104,_)]⟩ rfl (Fin.then (ab.seq (ab.seq (ab.aa ?_)))))
 refine Oc om (Oc (b8 rfl rfl) (ae.ag ⟨[(2,_),(3,_),(4,_),(5,_),(6,_),(7,_),(29,B (decide (j=1)))],[(101,_),(102,_),(103,_),(104,_)]⟩ rfl (ab.ite h rfl (fun _ h=>?_) (fun _ h=>?_))))
 refine ab.seq (ab.aa ?_)
 refine Oc (lp aM) (Oc (aK bH (by decide) (by decide) rfl rfl rfl) (Oc (ao bn rfl rfl rfl) ?_))
 obtain⟨⟨am,be⟩,e4,h⟩:=aH h
 refine Oc (ah (zg e4) goes139 rfl rfl) (Oc om (ae.af ⟨[(4,_),(5,_),(30,.gS [.agg (eW am),.one (.int .u32 be)])],[(103,_),(104,_)]⟩ rfl (Oc (aG rfl rfl) (Oc (aG rfl rfl) (Oc (aF (k:=105) dt rfl) (Oc (an aM rfl rfl rfl rfl (zab rfl) rfl) (Oc oa (ae.ag ⟨[(4,_),(5,_),(8,Pt 105 0),(9,.b (.one (.int .u32 be)))],[(103,_),(104,_),(105,.box 33 (eW am))]⟩ rfl (ab.seq (ab.aa ?_))))))))))
 refine Oc (lp aM) (Oc om (ae.qd eW h rfl (iy iw rfl rfl) (fun bi h=>?_)))
 refine Oc (an aM rfl rfl rfl rfl (zab rfl) rfl) (Oc (an aM rfl rfl rfl rfl (zab rfl) rfl) (ae.ag ⟨[(4,_),(5,_)],[(103,.box 33 (eW am)),(104,.box 33 (eW bi))]⟩ rfl (ab.ret (Fin.ay ?_))))
 obtain rfl:=zaa h
 refine Fin.af ⟨[(4,_),(5,_)],[(103,_),(104,_)]⟩ rfl (Fin.au [.agg (eW am),.agg (eW bi)] (.inl rfl) rfl (.cons (.agg aM rfl rfl rfl rfl) (.cons (.agg aM rfl rfl rfl rfl) .nil)) ⟨rfl,rfl⟩)
 refine ab.skip (Fin.af ⟨[(2,_),(3,_),(4,_),(5,_),(6,_),(7,_)],[(101,_),(102,_),(103,_),(104,_)]⟩ rfl (Fin.then (ab.seq (ab.aa ?_))))
 refine Oc om (Oc (bW rfl rfl) ?_)
 obtain⟨b1,e5,h⟩:=aH h
 refine Oc (aK bH (aR e5) (cD e5) rfl rfl rfl) (Oc (ao bn rfl rfl (cA (post:=[]) (k:=.u32) [] e5 rfl rfl rfl)) ?_)
 obtain⟨u,e6,h⟩:=aH h
 refine Oc (ah (od e6) goes140 rfl rfl) (Oc oa (ae.ag ⟨[(2,_),(3,_),(4,_),(5,_),(6,_),(7,_),(10,I u)],[(101,_),(102,_),(103,_),(104,_)]⟩ rfl (ab.seq (ab.aa ?_))))
 refine Oc (lp aM) (Oc om ?_)
 obtain⟨⟨w,bk⟩,e7,h⟩:=aH h
 refine Oc (ah (xZ e7) Dd rfl rfl) (Oc om (Oc (aG rfl rfl) (ae.af ⟨[(2,_),(4,_),(5,_),(6,_),(7,_),(10,_),(45,.gS [.agg (eW w),.one (.int .u32 bk)]),(49,.b (.agg (eW w)))],[(101,_),(103,_),(104,_)]⟩ rfl (Oc (aG rfl rfl) (Oc (aF (k:=106) dt rfl) (Oc (an aM rfl rfl rfl rfl (zab rfl) rfl) (Oc oa (ae.ag ⟨[(2,_),(4,_),(5,_),(6,_),(7,_),(10,_),(11,Pt 106 0)],[(101,_),(103,_),(104,_),(106,.box 33 (eW w))]⟩ rfl (ab.seq (ab.aa ?_))))))))))
 refine Oc (lp aM) (Oc om ?_)
 obtain⟨⟨c,x⟩,e8,h⟩:=aH h
 refine Oc (ah (xZ e8) Dd rfl rfl) (Oc om (Oc (aG rfl rfl) (ae.af ⟨[(4,_),(5,_),(6,_),(7,_),(10,_),(11,_),(51,.gS [.agg (eW c),.one (.int .u32 x)]),(55,.b (.agg (eW c)))],[(103,_),(104,_),(106,_)]⟩ rfl (Oc (aG rfl rfl) (Oc (aF (k:=107) dt rfl) (Oc (an aM rfl rfl rfl rfl (zab rfl) rfl) (Oc oa (ae.ag ⟨[(4,_),(5,_),(6,_),(7,_),(10,_),(11,_),(13,Pt 107 0),(14,.b (.one (.int .u32 x)))],[(103,_),(104,_),(106,_),(107,.box 33 (eW c))]⟩ rfl (ab.seq (ab.aa ?_))))))))))
 refine Oc (aF (k:=108) DK rfl) (ae.ag ⟨[(4,_),(5,_),(6,_),(7,_),(10,_),(11,_),(13,_),(14,_),(15,Pt 108 0)],[(103,_),(104,_),(106,_),(107,_),(108,.box 183 ((kn .u32) cL.zero))]⟩ rfl (ab.seq (ab.bN mixed 2 [.b (.u9 108 0 17 17),.b (.u9 107 0 16 16)] [4,5,6,7,10,11,14,15] [103,104,106,108] (s':=⟨[(4,_),(5,_),(6,_),(7,_),(10,_),(11,_),(14,_),(15,_)],[(103,_),(104,_),(106,_),(108,.box 183 ((kn .u32) (cL.of (bj cL.zero.l 0 ((c.l.drop 0).take 16)))))]⟩) rfl ⟨fun _=>.p (xn gm (by decide) rfl),fun _=>.p (xn bH (by decide) rfl),trivial⟩ ⟨_,by exact .p (AL (m:=16) tySl135 (by decide) (by first|decide|(show 16<=9223372036854775807;omega)) rfl rfl rfl rfl (by first|decide|(show 0+16<=17;omega)) (by first|decide|(show 0+16<=16;omega)) (BZ (a:=0) (a2:=0) (off:=0) (off2:=0) (post:=[]) (post2:=[]) (l:=cL.zero.l) (l2:=c.l) (kd:=.u32) (lo:=0) (lo2:=0) [] [] rfl rfl rfl rfl (by rfl) (by rfl) (by first|decide|(show 0+16<=17;omega)) (by first|decide|(show 0+16<=16;omega)) (cL.Be (zi rfl (by first|decide|(show 0+16<=17;omega)) (by first|decide|(show 0+16<=16;omega)))) rfl)),rfl⟩ rfl (ab.seq (ab.aa ?_)))))
 refine Oc om (Oc (aK gm (by decide) (by decide) rfl rfl rfl) (Oc (bF bn rfl rfl rfl (zab rfl) rfl) (ae.ag ⟨[(4,_),(5,_),(6,_),(7,_),(10,_),(11,_),(15,_)],[(103,_),(104,_),(106,_),(108,.box 183 [.int .u32 ((cL.of (bj cL.zero.l 0 ((c.l.drop 0).take 16))).a0),.int .u32 ((cL.of (bj cL.zero.l 0 ((c.l.drop 0).take 16))).a1),.int .u32 ((cL.of (bj cL.zero.l 0 ((c.l.drop 0).take 16))).a2),.int .u32 ((cL.of (bj cL.zero.l 0 ((c.l.drop 0).take 16))).a3),.int .u32 ((cL.of (bj cL.zero.l 0 ((c.l.drop 0).take 16))).a4),.int .u32 ((cL.of (bj cL.zero.l 0 ((c.l.drop 0).take 16))).a5),.int .u32 ((cL.of (bj cL.zero.l 0 ((c.l.drop 0).take 16))).a6),.int .u32 ((cL.of (bj cL.zero.l 0 ((c.l.drop 0).take 16))).a7),.int .u32 ((cL.of (bj cL.zero.l 0 ((c.l.drop 0).take 16))).a8),.int .u32 ((cL.of (bj cL.zero.l 0 ((c.l.drop 0).take 16))).a9),.int .u32 ((cL.of (bj cL.zero.l 0 ((c.l.drop 0).take 16))).a10),.int .u32 ((cL.of (bj cL.zero.l 0 ((c.l.drop 0).take 16))).a11),.int .u32 ((cL.of (bj cL.zero.l 0 ((c.l.drop 0).take 16))).a12),.int .u32 ((cL.of (bj cL.zero.l 0 ((c.l.drop 0).take 16))).a13),.int .u32 ((cL.of (bj cL.zero.l 0 ((c.l.drop 0).take 16))).a14),.int .u32 ((cL.of (bj cL.zero.l 0 ((c.l.drop 0).take 16))).a15),.int .u32 x])]⟩ rfl ?_)))
 obtain⟨v9,h10,h⟩:=aH h
 refine ab.bR (v:=v9) (bQ fun (o:aZ) (d:cL)=>⟨[(4,Pt 103 0),(5,Pt 104 0),(10,I u),(15,Pt 108 0)],[(103,.box 33 (eW o)),(104,.box 33 (eW aZ.zero)),(108,.box 183 ((kn .u32) d))]⟩) (fun z=>z) ?_ ?_
 refine ab.seq (ab.aa ?_)
 refine Oc om (Oc om (Oc (bW rfl rfl) (Oc oa (ae.ag ⟨[(4,_),(5,_),(6,_),(10,_),(11,_),(15,_),(16,I (i64.wrap (al-j)))],[(103,_),(104,_),(106,_),(108,_)]⟩ rfl (ab.block (ab.cx h10 (iJ fun (g:aZ) (y:cL) (f:Int)=>⟨[(4,Pt 103 0),(5,Pt 104 0),(6,I j),(10,I u),(11,Pt 106 0),(15,Pt 108 0),(16,I f)],[(103,.box 33 (eW g)),(104,.box 33 (eW aZ.zero)),(106,.box 33 (eW w)),(108,.box 183 ((kn .u32) y))]⟩) [4,5,6,10,11,15,16] [103,104,106,108] rfl ?_))))))
 rintro⟨g,y,f⟩ o11 h12 hy13
 refine ab.seq (ab.seq (ab.aa ?_))
 refine Oc om (Oc (gf rfl rfl) (ae.ag ⟨[(4,_),(5,_),(6,_),(10,_),(11,_),(15,_),(16,_),(66,B (decide (0<=f)))],[(103,_),(104,_),(106,_),(108,_)]⟩ rfl (ab.ite h12 rfl (fun _ h12=>?_) (fun _ h12=>?_))))
 refine ab.skip (Fin.af ⟨[(4,_),(5,_),(6,_),(10,_),(11,_),(15,_),(16,_)],[(103,_),(104,_),(106,_),(108,_)]⟩ rfl (Fin.then ?_))
 obtain⟨v14,h15,h12⟩:=aH h12
 refine ab.bR (v:=v14) (bQ fun (ac:aZ) (ad:cL)=>⟨[(4,Pt 103 0),(5,Pt 104 0),(6,I j),(10,I u),(11,Pt 106 0),(15,Pt 108 0),(16,I f)],[(103,.box 33 (eW ac)),(104,.box 33 (eW aZ.zero)),(106,.box 33 (eW w)),(108,.box 183 ((kn .u32) ad))]⟩) (fun z=>z) ?_ ?_
 refine ab.block (ab.seq (ab.aa ?_))
 refine Oc (lp aM) (Oc om (Oc om ?_))
 obtain⟨q,e16,h15⟩:=aH h15
 refine Oc (cK (own_a:=[(108,_)]) ((zh e16).sw 1 108) goes142 rfl ⟨rfl,trivial⟩ rfl rfl) (Oc oa (ae.ag ⟨[(4,_),(5,_),(6,_),(10,_),(11,_),(15,_),(16,_),(17,.b (.one (.int .u64 q)))],[(103,_),(104,_),(106,_),(108,_)]⟩ rfl ?_))
 obtain⟨v17,h18,h15⟩:=aH h15
 refine ab.bR (v:=v17) (bQ fun (ai:cL) (t:Int)=>⟨[(4,Pt 103 0),(5,Pt 104 0),(6,I j),(10,I u),(11,Pt 106 0),(15,Pt 108 0),(16,I f),(17,.b (.one (.int .u64 t)))],[(103,.box 33 (eW g)),(104,.box 33 (eW aZ.zero)),(106,.box 33 (eW w)),(108,.box 183 ((kn .u32) ai))]⟩) (fun z=>z) ?_ ?_
 refine ab.seq (ab.aa ?_)
 refine Oc (lp aM) (Oc om (Oc om (Oc om ?_)))
 obtain⟨⟨bl,ap⟩,e19,h18⟩:=aH h18
 refine Oc (cK (own_a:=[(108,_)]) ((An e19).sw 1 108) goes143 rfl ⟨rfl,trivial⟩ rfl rfl) (ae.ag ⟨[(4,_),(5,_),(6,_),(10,_),(11,_),(15,_),(16,_),(17,_),(77,B bl)],[(103,_),(104,_),(106,_),(108,.box 183 ((kn .u32) ap))]⟩ rfl (ab.ite h18 rfl (fun _ h18=>?_) (fun _ h18=>?_)))
 refine ab.seq (ab.aa ?_)
 refine Oc om (Oc (bW rfl rfl) (Oc oa (ae.ag ⟨[(4,_),(5,_),(6,_),(10,_),(11,_),(15,_),(16,_),(17,.b (.one (.int .u64 (u64.wrap (q-1)))))],[(103,_),(104,_),(106,_),(108,_)]⟩ rfl (ab.aa (Oc (lp aM) (Oc om (Oc om ?_)))))))
 obtain⟨bo,e20,h18⟩:=aH h18
 refine Oc (cK (own_a:=[(108,_)]) ((Ap e20).sw 1 108) goes144 rfl ⟨rfl,trivial⟩ rfl rfl) (ae.nil ?_)
 exact Fin.join [4,5,6,10,11,15,16,17] [103,104,106,108] (bo,u64.wrap (q-1)) (zaa h18) rfl
 refine ab.skip ?_
 exact Fin.join [4,5,6,10,11,15,16,17] [103,104,106,108] (ap,q) (zaa h18) rfl
 rintro⟨ai,t⟩ hv
 subst v17
 refine ab.aa (Oc om (Oc om (Oc (aE b6 bT rfl) ?_)))
 obtain⟨bw,e21,h15⟩:=aH h15
 refine Oc (aK bH (aR e21) (cD e21) rfl rfl rfl) (Oc (bF bn rfl rfl rfl (kA (post:=[]) (k:=.u32) [] e21 rfl rfl rfl) (iH (post:=[]) (k:=.u32) [] e21 rfl rfl (aZ.jZ g f (u32.wrap t)) rfl rfl)) (ae.nil (Fin.aA ?_)))
 exact Fin.join [4,5,6,10,11,15,16] [103,104,106,108] (g.set f (u32.wrap t),ai) (zaa h15) rfl
 rintro⟨ac,ad⟩ hv
 subst v14
 refine ab.aa (Oc om (Oc (bW rfl rfl) (Oc oa (ae.nil ?_))))
 exact Fin.bB [4,5,6,10,11,15,16] [103,104,106,108] (ac,ad,i64.wrap (f-1)) (zaa h12) rfl
 refine ab.exit (Fin.aw ?_)
 obtain rfl:=hy13 _ (zaa h12).symm
 refine Fin.aw (Fin.aJ ?_)
 exact Fin.join [4,5,10,15] [103,104,108] (g,y) rfl rfl
 rintro⟨o,d⟩ hv
 subst v9
 refine ab.seq (ab.af ⟨[(4,_),(5,_),(10,_),(15,_)],[(103,_),(104,_),(108,_)]⟩ rfl ?_)
 obtain⟨ak,e22,h⟩:=aH h
 refine ab.bN mixed 6 [.b (.agg (eW o)),.b (.u9 108 0 16 17),Pt 108 0,.b (.agg [.int .u32 d.a0,.int .u32 d.a1,.int .u32 d.a2,.int .u32 d.a3,.int .u32 d.a4,.int .u32 d.a5,.int .u32 d.a6,.int .u32 d.a7,.int .u32 d.a8,.int .u32 d.a9,.int .u32 d.a10,.int .u32 d.a11,.int .u32 d.a12,.int .u32 d.a13,.int .u32 d.a14,.int .u32 d.a15]),I u,.b (.agg (eW ak))] [4,5] [103,104] (s':=⟨[(4,_),(5,_)],[(103,_),(104,.box 33 (eW ak))]⟩) rfl ⟨fun _=>.p (lp aM),fun _=>.p (vr (i:=16) gm (by decide) (by decide) rfl rfl),fun _=>.p (wU bH (by decide) rfl),fun _=>.p (lp aM),fun _=>.p om,fun _=>.p (ah (Aq e22) goes145 rfl rfl),trivial⟩ ⟨_,by exact .p (an aM rfl rfl rfl rfl (zab rfl) rfl),⟨_,by exact .p (an aM rfl rfl rfl rfl (zab rfl) rfl),rfl⟩⟩ rfl (ab.ret ?_)
 obtain rfl:=zaa h
 refine Fin.af ⟨[(4,_),(5,_)],[(103,_),(104,_)]⟩ rfl (Fin.au [.agg (eW o),.agg (eW ak)] (.inl rfl) rfl (.cons (.agg aM rfl rfl rfl rfl) (.cons (.agg aM rfl rfl rfl rfl) .nil)) ⟨rfl,rfl⟩)
def rA (F:Nat) (x0:bY):Option bY :=
 (fN F [x0]).bind fun a=>if (!a)=true then ((gD F).bind fun c=>some c) else ((de F false x0.W).bind fun d=>some d)
theorem BQ {F:Nat} {x0 r:bY} (h:rA F x0=some r):ax prog (bd mx) 106 [] [.agg (az x0)] (Is [] (.b (.agg (az r)))):=by
 unfold rA at h
 refine ax.intro 11 Tryz.func106 Tryz.ntmps106 rfl (by simp) fun E=>(ab.seq (ab.aa ?_))
 refine Oc (bE (k:=101) rfl rfl) (Oc (aF (k:=102) bO rfl) (ae.ag ⟨[(1,Pt 101 0),(2,Pt 102 0)],[(101,.box 35 (az x0)),(102,.box 35 dL)]⟩ rfl (ab.seq (ab.seq (ab.aa ?_)))))
 refine Oc (lp aq) (Oc (aX (k:=103) (es:=[x0].map az) ly rfl rfl (cg fun _=>rfl) rfl (by decide) (by decide) rfl) ?_)
 obtain⟨d,e1,h⟩:=aH h
 refine Oc (gL (gu e1) me rfl CP.gi) (Oc (cc rfl) (ae.ag ⟨[(1,_),(2,_),(6,B (!d))],[(101,_),(102,_)]⟩ rfl (ab.ite h rfl (fun _ h=>?_) (fun _ h=>?_))))
 refine ab.seq (ab.aa ?_)
 obtain⟨a,e2,h⟩:=aH h
 refine Oc (ah (eF e2) kW rfl rfl) (Oc (an aq rfl rfl rfl rfl (zab rfl) rfl) (ae.ag ⟨[(2,_)],[(102,.box 35 (az a))]⟩ rfl (ab.ret (Fin.ay ?_))))
 obtain rfl:=zaa h
 refine Fin.af ⟨[(2,_)],[(102,_)]⟩ rfl (Fin.au [.agg (az a)] (.inl rfl) rfl (.cons (.agg aq rfl rfl rfl rfl) .nil) ⟨rfl,rfl⟩)
 refine ab.skip (Fin.af ⟨[(1,_),(2,_)],[(101,_),(102,_)]⟩ rfl (Fin.then (ab.seq (ab.aa ?_))))
 refine Oc (aj aY rfl rfl) (Oc (lp aM) ?_)
 obtain⟨c,e3,h⟩:=aH h
 refine Oc (ah (c7 e3) kV rfl rfl) (Oc (an aq rfl rfl rfl rfl (zab rfl) rfl) (ae.ag ⟨[(2,_)],[(102,.box 35 (az c))]⟩ rfl (ab.ret ?_)))
 obtain rfl:=zaa h
 refine Fin.af ⟨[(2,_)],[(102,_)]⟩ rfl (Fin.au [.agg (az c)] (.inl rfl) rfl (.cons (.agg aq rfl rfl rfl rfl) .nil) ⟨rfl,rfl⟩)
def pf (F:Nat):Nat->bY->bY->Option bY
 | 0,_,_=>none
 | n+1,a0,b0=>(fN F [a0,b0]).bind fun q=>if (!q)=true then ((gD F).bind fun r=>some r) else (Option.bind ((iP F a0.W).bind fun c=>(aT (decide (c<=2)) (iP F b0.W)).bind fun t=>if ((decide (c<=2))&&(decide (t<=2)))=true then (Option.bind (iter F (bQ fun d a=>if (decide (a≠0))=true then ((wj d a).bind fun u=>some (.inl (a,u))) else (some (.inr d))) (lx .u64 (u64.wrap ((u64.wrap a0.W.a1)*4294967296)) (u64.wrap a0.W.a0),lx .u64 (u64.wrap ((u64.wrap b0.W.a1)*4294967296)) (u64.wrap b0.W.a0))) (fun e=>bA (⟨u32.wrap e,u32.wrap (e/4294967296),0,0,0,0,0,0,0,0,0,0,0,0,0,0⟩:aZ) fun f=>(de F false f).bind fun g=>some (.inr g))) else (some (.inl ()))) (cW (fun _=>if (decide (b0.W≠aZ.zero))=true then (Option.bind (jq F a0.W b0.W) (bQ fun v h=>(de F false b0.W).bind fun j=>(de F false h).bind fun k=>(pf F n j k).bind fun m=>some m)) else ((rA F a0).bind fun o=>some o)) (fun y=>some y)))
def vO (F:Nat) (a0:bY) (b0:bY):Option bY:=pf F F a0 b0
theorem Ar {F:Nat}:∀ (n:Nat) {a0 b0 r:bY} (h:pf F n a0 b0=some r),ax prog (bd mx) 51 [] [.agg (az a0),.agg (az b0)] (Is [] (.b (.agg (az r)))):=by
 intro n
 induction n with
 | zero=>intro a0 b0 r h;simp[pf] at h
 | succ n ih=>
 intro a0 b0 r h
 unfold pf at h
 refine ax.intro 80 Tryz.func51 Tryz.ntmps51 rfl (by simp) fun E=>(ab.seq (ab.aa ?_))
 refine Oc (bE (k:=101) rfl rfl) (Oc (bE (k:=102) rfl rfl) (Oc (aF (k:=103) bO rfl) (ae.ag ⟨[(2,Pt 101 0),(3,Pt 102 0),(4,Pt 103 0)],[(101,.box 35 (az a0)),(102,.box 35 (az b0)),(103,.box 35 dL)]⟩ rfl (ab.seq (ab.seq (ab.aa ?_))))))
 refine Oc (lp aq) (Oc (lp aq) (Oc (aX (k:=104) (es:=[a0,b0].map az) ly rfl rfl (cg fun _=>rfl) rfl (by decide) (by decide) rfl) ?_))
 obtain⟨ad,e1,h⟩:=aH h
 refine Oc (gL (gu e1) me rfl CP.gi) (Oc (cc rfl) (ae.ag ⟨[(2,_),(3,_),(4,_),(15,B (!ad))],[(101,_),(102,_),(103,_)]⟩ rfl (ab.ite h rfl (fun _ h=>?_) (fun _ h=>?_))))
 refine ab.seq (ab.aa ?_)
 obtain⟨w,e2,h⟩:=aH h
 refine Oc (ah (eF e2) kW rfl rfl) (Oc (an aq rfl rfl rfl rfl (zab rfl) rfl) (ae.ag ⟨[(4,_)],[(103,.box 35 (az w))]⟩ rfl (ab.ret (Fin.ay ?_))))
 obtain rfl:=zaa h
 refine Fin.af ⟨[(4,_)],[(103,_)]⟩ rfl (Fin.au [.agg (az w)] (.inl rfl) rfl (.cons (.agg aq rfl rfl rfl rfl) .nil) ⟨rfl,rfl⟩)
 refine ab.skip (Fin.af ⟨[(2,_),(3,_),(4,_)],[(101,_),(102,_),(103,_)]⟩ rfl (Fin.then ?_))
 obtain⟨v3,h4,h⟩:=aH h
 refine ab.bR (v:=v3) (fun (_:Unit)=>⟨[(2,Pt 101 0),(3,Pt 102 0),(4,Pt 103 0)],[(101,.box 35 (az a0)),(102,.box 35 (az b0)),(103,.box 35 dL)]⟩) (fun z=>.inl z) ?_ ?_
 refine ab.seq (ab.aa ?_)
 refine Oc (aj aY rfl rfl) (Oc (lp aM) ?_)
 obtain⟨c,e5,h4⟩:=aH h4
 refine Oc (ah (iX e5) pD rfl rfl) (Oc (nY rfl rfl) (Oc om ?_))
 refine ae.af ⟨[(2,_),(3,_),(4,_),(21,B (decide (c<=2)))],[(101,_),(102,_),(103,_)]⟩ rfl (cH (decide (c<=2)) [] (fun g6=>trivial) (fun g6=>aj aY rfl rfl) (cH (decide (c<=2)) [22] (fun g7=>⟨g7,trivial⟩) (fun g7=>lp aM) ?_))
 obtain⟨ai,e9,h4⟩:=aH h4
 refine cH (decide (c<=2)) [23] (fun g8=>⟨g8,trivial⟩) (fun g8=>ah (iX (gc e9 g8)) pD rfl rfl) (cH (decide (c<=2)) [24] (fun g10=>⟨g10,trivial⟩) (fun g10=>nY rfl rfl) (Oc (aD (fun e=>e) rfl rfl rfl rfl) (ae.ag ⟨[(2,_),(3,_),(4,_),(26,B ((decide (c<=2))&&(decide (ai<=2))))],[(101,_),(102,_),(103,_)]⟩ rfl (ab.ite h4 rfl (fun _ h4=>?_) (fun _ h4=>?_)))))
 refine ab.seq (ab.af ⟨[(2,_),(3,_),(4,_)],[(101,_),(102,_),(103,_)]⟩ rfl (ab.bN mixed 22 [Pt 101 2,Pt 101 3,.b (.one (.int .u32 a0.W.a1)),.b (.one (.int .u64 (u64.wrap a0.W.a1))),.b (.one (.int .u64 (u64.wrap ((u64.wrap a0.W.a1)*4294967296)))),Pt 101 2,Pt 101 2,.b (.one (.int .u32 a0.W.a0)),.b (.one (.int .u64 (u64.wrap a0.W.a0))),.b (.one (.int .u64 (lx .u64 (u64.wrap ((u64.wrap a0.W.a1)*4294967296)) (u64.wrap a0.W.a0)))),Pt 102 2,Pt 102 3,.b (.one (.int .u32 b0.W.a1)),.b (.one (.int .u64 (u64.wrap b0.W.a1))),.b (.one (.int .u64 (u64.wrap ((u64.wrap b0.W.a1)*4294967296)))),Pt 102 2,Pt 102 2,.b (.one (.int .u32 b0.W.a0)),.b (.one (.int .u64 (u64.wrap b0.W.a0))),.b (.one (.int .u64 (lx .u64 (u64.wrap ((u64.wrap b0.W.a1)*4294967296)) (u64.wrap b0.W.a0)))),.b (.one (.int .u64 (lx .u64 (u64.wrap ((u64.wrap a0.W.a1)*4294967296)) (u64.wrap a0.W.a0)))),.b (.one (.int .u64 (lx .u64 (u64.wrap ((u64.wrap b0.W.a1)*4294967296)) (u64.wrap b0.W.a0))))] [4,5,6] [103] (s':=⟨[(4,_),(5,.b (.one (.int .u64 (lx .u64 (u64.wrap ((u64.wrap a0.W.a1)*4294967296)) (u64.wrap a0.W.a0))))),(6,.b (.one (.int .u64 (lx .u64 (u64.wrap ((u64.wrap b0.W.a1)*4294967296)) (u64.wrap b0.W.a0)))))],[(103,_)]⟩) rfl ⟨fun _=>.p (aj aY rfl rfl),fun _=>.p (aK bH (by decide) (by decide) rfl rfl rfl),fun _=>.p (ao bn rfl rfl rfl),fun _=>.p (aE bT b6 rfl),fun _=>.p (py (m:=32) (q:=4294967296) (by decide) rfl rfl (by decide)),fun _=>.p (aj aY rfl rfl),fun _=>.p (aK bH (by decide) (by decide) rfl rfl rfl),fun _=>.p (ao bn rfl rfl rfl),fun _=>.p (aE bT b6 rfl),fun _=>.p (sg rfl rfl),fun _=>.p (aj aY rfl rfl),fun _=>.p (aK bH (by decide) (by decide) rfl rfl rfl),fun _=>.p (ao bn rfl rfl rfl),fun _=>.p (aE bT b6 rfl),fun _=>.p (py (m:=32) (q:=4294967296) (by decide) rfl rfl (by decide)),fun _=>.p (aj aY rfl rfl),fun _=>.p (aK bH (by decide) (by decide) rfl rfl rfl),fun _=>.p (ao bn rfl rfl rfl),fun _=>.p (aE bT b6 rfl),fun _=>.p (sg rfl rfl),fun _=>.p oa,fun _=>.p oa,trivial⟩ rfl rfl ?_))
 obtain⟨v11,h12,h4⟩:=aH h4
 refine ab.bR (v:=v11) (fun (x:Int)=>⟨[(4,Pt 103 0),(5,.b (.one (.int .u64 x)))],[(103,.box 35 dL)]⟩) (fun z=>z) ?_ ?_
 refine ab.block (ab.cx h12 (bQ fun (g:Int) (a:Int)=>⟨[(4,Pt 103 0),(5,.b (.one (.int .u64 g))),(6,.b (.one (.int .u64 a)))],[(103,.box 35 dL)]⟩) [4,5,6] [103] rfl ?_)
 rintro⟨g,a⟩ o13 h14 hy15
 refine ab.seq (ab.seq (ab.aa ?_))
 refine Oc om (Oc (dd rfl rfl) (ae.ag ⟨[(4,_),(5,_),(6,_),(48,B (decide (a≠0)))],[(103,_)]⟩ rfl (ab.ite h14 rfl (fun _ h14=>?_) (fun _ h14=>?_))))
 refine ab.skip (Fin.af ⟨[(4,_),(5,_),(6,_)],[(103,_)]⟩ rfl (Fin.then (ab.block (ab.af ⟨[(4,_),(5,_),(6,_)],[(103,_)]⟩ rfl ?_))))
 obtain⟨u,e16,h14⟩:=aH h14
 refine ab.jH mixed 5 [.b (.one (.int .u64 a)),.b (.one (.int .u64 g)),.b (.one (.int .u64 a)),.b (.one (.int .u64 u)),.b (.one (.int .u64 a))] [4,5,6] [103] (s':=⟨[(4,_),(5,.b (.one (.int .u64 a))),(6,.b (.one (.int .u64 u)))],[(103,_)]⟩) rfl ⟨fun _=>.p om,fun _=>.p om,fun _=>.p om,fun _=>.p (rD e16 rfl rfl),fun _=>.p oa,trivial⟩ ⟨_,by exact .p oa,rfl⟩ rfl (Fin.aA ?_)
 exact Fin.bB [4,5,6] [103] (a,u) (zaa h14) rfl
 refine ab.exit (Fin.aw ?_)
 obtain rfl:=hy15 _ (zaa h14).symm
 refine Fin.aw (Fin.aJ ?_)
 exact Fin.join [4,5] [103] g rfl rfl
 rintro x hv
 subst v11
 refine ab.seq (ab.aa ?_)
 refine Oc om (Oc (aE b6 bT rfl) (Oc om (Oc (jh (m:=32) (by decide) rfl rfl rfl) (Oc (aE b6 bT rfl) (ae.qd eW h4 rfl (iy iw rfl rfl) (fun ak h4=>?_))))))
 obtain⟨j,e17,h4⟩:=aH h4
 refine Oc (ah (c7 e17) kV rfl rfl) (Oc (an aq rfl rfl rfl rfl (zab rfl) rfl) (ae.ag ⟨[(4,_)],[(103,.box 35 (az j))]⟩ rfl (ab.ret ?_)))
 obtain rfl:=zaa h4
 refine Fin.ay ?_
 obtain rfl:=zaa h
 refine Fin.af ⟨[(4,_)],[(103,_)]⟩ rfl (Fin.au [.agg (az j)] (.inl rfl) rfl (.cons (.agg aq rfl rfl rfl rfl) .nil) ⟨rfl,rfl⟩)
 refine ab.skip ?_
 exact Fin.join [2,3,4] [101,102,103] () (zaa h4) rfl
 rintro _ hv
 subst v3
 refine ab.seq (ab.seq ?_)
 refine ab.af ⟨[(2,_),(3,_),(4,_)],[(101,_),(102,_),(103,_)]⟩ rfl (ab.pw mixed [false,false,false,false,true,true,true,true] [Pt 101 2,.b (.agg (eW a0.W)),Pt 102 2,.b (.agg (eW b0.W)),Pt 105 0,Pt 106 0,B true,B true] [⟨[false,false,false,false,false,false,false,false],[(2,Pt 101 0),(3,Pt 102 0),(4,Pt 103 0)],[(101,.box 35 (az a0)),(102,.box 35 (az b0)),(103,.box 35 dL)],[true,true,true,true,true,true,true,true],[],[6,7]⟩,⟨[false,false,false,false,true,false,false,false],[(2,Pt 101 0),(3,Pt 102 0),(4,Pt 103 0)],[(101,.box 35 (az a0)),(102,.box 35 (az b0)),(103,.box 35 dL),(105,.box 33 (eW aZ.zero))],[true,true,true,true,true,true,true,true],[4],[6,7]⟩,⟨[false,false,false,false,false,true,false,false],[(2,Pt 101 0),(3,Pt 102 0),(4,Pt 103 0)],[(101,.box 35 (az a0)),(102,.box 35 (az b0)),(103,.box 35 dL),(106,.box 33 (eW aZ.zero))],[true,true,true,true,true,true,true,true],[5],[6,7]⟩,⟨[false,false,false,false,true,true,false,false],[(2,Pt 101 0),(3,Pt 102 0),(4,Pt 103 0)],[(101,.box 35 (az a0)),(102,.box 35 (az b0)),(103,.box 35 dL),(105,.box 33 (eW aZ.zero)),(106,.box 33 (eW aZ.zero))],[true,true,true,true,true,true,true,true],[4,5],[7]⟩,⟨[false,false,false,false,true,true,true,false],[(2,Pt 101 0),(3,Pt 102 0),(4,Pt 103 0)],[(101,.box 35 (az a0)),(102,.box 35 (az b0)),(103,.box 35 dL),(105,.box 33 (eW a0.W)),(106,.box 33 (eW aZ.zero))],[true,true,true,true,true,true,true,true],[0,1,4,5,6],[]⟩,⟨[false,false,false,false,true,true,true,true],[(2,Pt 101 0),(3,Pt 102 0),(4,Pt 103 0)],[(101,.box 35 (az a0)),(102,.box 35 (az b0)),(103,.box 35 dL),(105,.box 33 (eW a0.W)),(106,.box 33 (eW b0.W))],[true,true,true,true,true,true,true,true],[0,1,2,3,4,5,6,7],[]⟩] rfl (⟨by kernel_rfl,⟨⟨Pt 101 2,fun _=>rfl,fun _=>.p (by exact aj aY rfl rfl)⟩,⟨.b (.agg (eW a0.W)),fun _=>rfl,fun _=>.p (by exact fg aM rfl rfl rfl rfl)⟩,⟨Pt 102 2,fun _=>rfl,fun _=>.p (by exact aj aY rfl rfl)⟩,⟨.b (.agg (eW b0.W)),fun _=>rfl,fun _=>.p (by exact fg aM rfl rfl rfl rfl)⟩,⟨_,[105],Pt 105 0,rfl,fun _=>rfl,rfl,rfl,fun _=>.wg [101,102,103,105] (by exact .p (by exact aF (k:=105) dt rfl)) (by exact rfl)⟩,⟨_,[106],Pt 106 0,rfl,fun _=>rfl,rfl,rfl,fun _=>.wg [101,102,103,106] (by exact .p (by exact aF (k:=106) dt rfl)) (by exact rfl)⟩,trivial,trivial,trivial⟩,⟨by kernel_rfl,⟨⟨Pt 101 2,fun _=>rfl,fun _=>.p (by exact aj aY rfl rfl)⟩,⟨.b (.agg (eW a0.W)),fun _=>rfl,fun _=>.p (by exact fg aM rfl rfl rfl rfl)⟩,⟨Pt 102 2,fun _=>rfl,fun _=>.p (by exact aj aY rfl rfl)⟩,⟨.b (.agg (eW b0.W)),fun _=>rfl,fun _=>.p (by exact fg aM rfl rfl rfl rfl)⟩,trivial,⟨_,[106],Pt 106 0,rfl,fun _=>rfl,rfl,rfl,fun _=>.wg [101,102,103,105,106] (by exact .p (by exact aF (k:=106) dt rfl)) (by exact rfl)⟩,trivial,trivial,trivial⟩,⟨by kernel_rfl,⟨⟨Pt 101 2,fun _=>rfl,fun _=>.p (by exact aj aY rfl rfl)⟩,⟨.b (.agg (eW a0.W)),fun _=>rfl,fun _=>.p (by exact fg aM rfl rfl rfl rfl)⟩,⟨Pt 102 2,fun _=>rfl,fun _=>.p (by exact aj aY rfl rfl)⟩,⟨.b (.agg (eW b0.W)),fun _=>rfl,fun _=>.p (by exact fg aM rfl rfl rfl rfl)⟩,⟨_,[105],Pt 105 0,rfl,fun _=>rfl,rfl,rfl,fun _=>.wg [101,102,103,105,106] (by exact .p (by exact aF (k:=105) dt rfl)) (by exact rfl)⟩,trivial,trivial,trivial,trivial⟩,⟨by kernel_rfl,⟨⟨Pt 101 2,fun _=>rfl,fun _=>.p (by exact aj aY rfl rfl)⟩,⟨.b (.agg (eW a0.W)),fun _=>rfl,fun _=>.p (by exact fg aM rfl rfl rfl rfl)⟩,⟨Pt 102 2,fun _=>rfl,fun _=>.p (by exact aj aY rfl rfl)⟩,⟨.b (.agg (eW b0.W)),fun _=>rfl,fun _=>.p (by exact fg aM rfl rfl rfl rfl)⟩,trivial,trivial,⟨_,[],.b (.one .any),rfl,(fun e=>by simp at e),rfl,rfl,fun _=>.wg [101,102,103,105,106] (by exact .p (by exact an aM rfl rfl rfl rfl (zab rfl) rfl)) (by exact rfl)⟩,trivial,trivial⟩,⟨by kernel_rfl,⟨trivial,trivial,⟨Pt 102 2,fun _=>rfl,fun _=>.p (by exact aj aY rfl rfl)⟩,⟨.b (.agg (eW b0.W)),fun _=>rfl,fun _=>.p (by exact fg aM rfl rfl rfl rfl)⟩,trivial,trivial,trivial,⟨_,[],.b (.one .any),rfl,(fun e=>by simp at e),rfl,rfl,fun _=>.wg [101,102,103,105,106] (by exact .p (by exact an aM rfl rfl rfl rfl (zab rfl) rfl)) (by exact rfl)⟩,trivial⟩,⟨by kernel_rfl,⟨trivial,trivial,trivial,trivial,trivial,trivial,trivial,trivial,trivial⟩,trivial⟩⟩⟩⟩⟩⟩) rfl rfl rfl [2,4,7,8] [101,103,105,106] (s':=⟨[(2,_),(4,_),(7,Pt 105 0),(8,Pt 106 0)],[(101,_),(103,_),(105,.box 33 (eW a0.W)),(106,.box 33 (eW b0.W))]⟩) rfl ?_)
 refine ab.seq (ab.aa ?_)
 refine Oc (lp aM) (Oc (iy iw rfl rfl) (Oc (lh (rO b0.W aZ.zero) rfl rfl rE) (ae.ag ⟨[(2,_),(4,_),(7,_),(8,_),(66,B (decide (b0.W≠aZ.zero)))],[(101,_),(103,_),(105,_),(106,_)]⟩ rfl (ab.ite h rfl (fun _ h=>?_) (fun _ h=>?_)))))
 refine ab.seq (ab.aa ?_)
 refine Oc (lp aM) (Oc (lp aM) ?_)
 obtain⟨⟨o,d⟩,e18,h⟩:=aH h
 refine Oc (ah (qe e18) Dj rfl rfl) (Oc om (Oc (aG rfl rfl) (ae.af ⟨[(4,_),(8,_),(67,.gS [.agg (eW o),.agg (eW d)]),(71,.b (.agg (eW o)))],[(103,_),(106,_)]⟩ rfl (Oc (aG rfl rfl) (Oc (aF (k:=107) dt rfl) (Oc (aF (k:=108) dt rfl) (Oc (an aM rfl rfl rfl rfl (zab rfl) rfl) (Oc (an aM rfl rfl rfl rfl (zab rfl) rfl) (ae.ag ⟨[(4,_),(8,_),(10,Pt 108 0)],[(103,_),(106,_),(108,.box 33 (eW d))]⟩ rfl (ab.seq ?_))))))))))
 obtain⟨y,e19,h⟩:=aH h
 obtain⟨ac,e20,h⟩:=aH h
 obtain⟨f,e21,h⟩:=aH h
 refine ab.bN mixed 5 [.b (.agg (eW b0.W)),.b (.agg (az y)),.b (.agg (eW d)),.b (.agg (az ac)),.b (.agg (az f))] [4] [103] (s':=⟨[(4,_)],[(103,.box 35 (az f))]⟩) rfl ⟨fun _=>.p (lp aM),fun _=>.p (ah (c7 e19) kV rfl rfl),fun _=>.p (lp aM),fun _=>.p (ah (c7 e20) kV rfl rfl),fun _=>.p (ah (ih e21) Fm rfl rfl),trivial⟩ ⟨_,by exact .p (an aq rfl rfl rfl rfl (zab rfl) rfl),rfl⟩ rfl (ab.ret (Fin.ay ?_))
 obtain rfl:=zaa h
 refine Fin.af ⟨[(4,_)],[(103,_)]⟩ rfl (Fin.au [.agg (az f)] (.inl rfl) rfl (.cons (.agg aq rfl rfl rfl rfl) .nil) ⟨rfl,rfl⟩)
 refine ab.skip (Fin.af ⟨[(2,_),(4,_)],[(101,_),(103,_)]⟩ rfl (Fin.then (ab.seq (ab.aa ?_))))
 refine Oc (lp aq) ?_
 obtain⟨t,e22,h⟩:=aH h
 refine Oc (ah (BQ e22) goes106 rfl rfl) (Oc (an aq rfl rfl rfl rfl (zab rfl) rfl) (ae.ag ⟨[(4,_)],[(103,.box 35 (az t))]⟩ rfl (ab.ret ?_)))
 obtain rfl:=zaa h
 refine Fin.af ⟨[(4,_)],[(103,_)]⟩ rfl (Fin.au [.agg (az t)] (.inl rfl) rfl (.cons (.agg aq rfl rfl rfl rfl) .nil) ⟨rfl,rfl⟩)
theorem BP {F:Nat} {a0 b0 r:bY} (h:vO F a0 b0=some r):ax prog (bd mx) 51 [] [.agg (az a0),.agg (az b0)] (Is [] (.b (.agg (az r)))):=Ar F h
def ry (F:Nat) (x0:bY):Option bY :=
 (fN F [x0]).bind fun a=>if (!a)=true then ((gD F).bind fun c=>some c) else ((de F (!x0.Neg) x0.W).bind fun d=>some d)
theorem xd {F:Nat} {x0 r:bY} (h:ry F x0=some r):ax prog (bd mx) 75 [] [.agg (az x0)] (Is [] (.b (.agg (az r)))):=by
 unfold ry at h
 refine ax.intro 14 Tryz.func75 Tryz.ntmps75 rfl (by simp) fun E=>(ab.seq (ab.aa ?_))
 refine Oc (bE (k:=101) rfl rfl) (Oc (aF (k:=102) bO rfl) (ae.ag ⟨[(1,Pt 101 0),(2,Pt 102 0)],[(101,.box 35 (az x0)),(102,.box 35 dL)]⟩ rfl (ab.seq (ab.seq (ab.aa ?_)))))
 refine Oc (lp aq) (Oc (aX (k:=103) (es:=[x0].map az) ly rfl rfl (cg fun _=>rfl) rfl (by decide) (by decide) rfl) ?_)
 obtain⟨d,e1,h⟩:=aH h
 refine Oc (gL (gu e1) me rfl CP.gi) (Oc (cc rfl) (ae.ag ⟨[(1,_),(2,_),(6,B (!d))],[(101,_),(102,_)]⟩ rfl (ab.ite h rfl (fun _ h=>?_) (fun _ h=>?_))))
 refine ab.seq (ab.aa ?_)
 obtain⟨a,e2,h⟩:=aH h
 refine Oc (ah (eF e2) kW rfl rfl) (Oc (an aq rfl rfl rfl rfl (zab rfl) rfl) (ae.ag ⟨[(2,_)],[(102,.box 35 (az a))]⟩ rfl (ab.ret (Fin.ay ?_))))
 obtain rfl:=zaa h
 refine Fin.af ⟨[(2,_)],[(102,_)]⟩ rfl (Fin.au [.agg (az a)] (.inl rfl) rfl (.cons (.agg aq rfl rfl rfl rfl) .nil) ⟨rfl,rfl⟩)
 refine ab.skip (Fin.af ⟨[(1,_),(2,_)],[(101,_),(102,_)]⟩ rfl (Fin.then (ab.seq (ab.aa ?_))))
 refine Oc (aj bJ rfl rfl) (Oc (ao cE rfl rfl rfl) (Oc (cc rfl) (Oc (aj aY rfl rfl) (Oc (lp aM) ?_))))
 obtain⟨c,e3,h⟩:=aH h
 refine Oc (ah (c7 e3) kV rfl rfl) (Oc (an aq rfl rfl rfl rfl (zab rfl) rfl) (ae.ag ⟨[(2,_)],[(102,.box 35 (az c))]⟩ rfl (ab.ret ?_)))
 obtain rfl:=zaa h
 refine Fin.af ⟨[(2,_)],[(102,_)]⟩ rfl (Fin.au [.agg (az c)] (.inl rfl) rfl (.cons (.agg aq rfl rfl rfl rfl) .nil) ⟨rfl,rfl⟩)
def qE (F:Nat) (x0:bY):Option Int :=
 (iP F x0.W).bind fun a=>(fN F [x0]).bind fun c=>if ((!c)||(decide (a=0)))=true then (some 0) else (bA (i64.wrap (32*(i64.wrap (a-1)))) fun d=>(aS x0.W.l (i64.wrap (a-1))).bind fun e=>(jw F e).bind fun f=>some (i64.wrap (d+f)))
theorem As {F:Nat} {x0:bY} {r:Int} (h:qE F x0=some r):ax prog (bd mx) 169 [] [.agg (az x0)] (Is [] (.b (.one (.i r)))):=by
 unfold qE at h
 refine ax.intro 25 Tryz.func169 Tryz.ntmps169 rfl (by simp) fun E=>(ab.seq (ab.aa ?_))
 refine Oc (bE (k:=101) rfl rfl) (Oc oa (ae.ag ⟨[(1,Pt 101 0)],[(101,.box 35 (az x0))]⟩ rfl (ab.seq (ab.aa ?_))))
 refine Oc (aj aY rfl rfl) (Oc (lp aM) ?_)
 obtain⟨c,e1,h⟩:=aH h
 refine Oc (ah (iX e1) pD rfl rfl) (Oc oa (ae.ag ⟨[(1,_),(3,I c)],[(101,_)]⟩ rfl (ab.seq (ab.seq (ab.aa ?_)))))
 refine Oc (lp aq) (Oc (aX (k:=102) (es:=[x0].map az) ly rfl rfl (cg fun _=>rfl) rfl (by decide) (by decide) rfl) ?_)
 obtain⟨a,e2,h⟩:=aH h
 refine Oc (gL (gu e2) me rfl CP.gi) (Oc (cc rfl) ?_)
 refine ae.af ⟨[(1,_),(3,_),(10,B (!a))],[(101,_)]⟩ rfl (Oc om (dD (!(!a)) [] (fun g3=>by exact trivial) (fun g3=>om) (dD (!(!a)) [12] (fun g4=>by exact⟨g4,trivial⟩) (fun g4=>b8 rfl rfl) (Oc (aW (fun e=>by first|(rw[e];rfl)|(simp only at e;rw[e];rfl)) rfl rfl rfl rfl) (ae.ag ⟨[(1,_),(3,_),(14,B ((!a)||(decide (c=0))))],[(101,_)]⟩ rfl (ab.ite h rfl (fun _ h=>?_) (fun _ h=>?_)))))))
 refine ab.seq (ab.aa ?_)
 refine Oc oa (ae.ag ⟨[(2,I 0)],[]⟩ rfl (ab.ret (Fin.ay ?_)))
 obtain rfl:=zaa h
 refine Fin.af ⟨[(2,_)],[]⟩ rfl (Fin.au [.one (.i 0)] (.inl rfl) rfl (.cons (.tmp rfl) .nil) ⟨rfl,rfl⟩)
 refine ab.skip (Fin.af ⟨[(1,_),(3,_)],[(101,_)]⟩ rfl (Fin.then (ab.seq (ab.aa ?_))))
 refine Oc om (Oc (bW rfl rfl) ?_)
 refine ae.cJ .i64 h rfl (kU rfl rfl) (fun d h=>?_)
 refine Oc om (Oc (bW rfl rfl) (Oc (aj aY rfl rfl) ?_))
 obtain⟨g,e5,h⟩:=aH h
 refine Oc (aK bH (aR e5) (cD e5) rfl rfl rfl) (ae.af ⟨[(17,I d),(21,.b (.ptr 101 (2+(i64.wrap (c-1):Int).toNat*1)))],[(101,_)]⟩ rfl (Oc (ao bn rfl rfl (cA (post:=[]) (k:=.u32) [.bool x0.Bad,.bool x0.Neg] e5 rfl rfl rfl)) ?_))
 obtain⟨f,e6,h⟩:=aH h
 refine Oc (ah (qg e6) C' rfl rfl) (Oc (aL rfl rfl) (Oc oa (ae.ag ⟨[(2,I (i64.wrap (d+f)))],[]⟩ rfl (ab.ret ?_))))
 obtain rfl:=zaa h
 refine Fin.af ⟨[(2,_)],[]⟩ rfl (Fin.au [.one (.i (i64.wrap (d+f)))] (.inl rfl) rfl (.cons (.tmp rfl) .nil) ⟨rfl,rfl⟩)
def j6 (F:Nat) (x0:bY):Option (Int×Bool) :=
 (fN F [x0]).bind fun c=>(aT (!(!c)) (qE F x0)).bind fun d=>if ((!c)||(decide (64<d)))=true then (some (0,false)) else (bA (u64.wrap ((u64.wrap x0.W.a1)*4294967296)) fun e=>bA (lx .u64 e (u64.wrap x0.W.a0)) fun a=>if (x0.Neg&&(decide (a<=9223372036854775808)))=true then (bA (i64.wrap (u64.wrap (-a))) fun f=>some (f,true)) else (if ((!x0.Neg)&&(decide (a<9223372036854775808)))=true then (some (i64.wrap a,true)) else (some (0,false))))
theorem tZ {F:Nat} {x0:bY} {r:Int×Bool} (h:j6 F x0=some r):ax prog (bd mx) 146 [] [.agg (az x0)] (Is [] (.gS [.one (.i r.1),.one (.bool r.2)])):=by
 unfold j6 at h
 refine ax.intro 44 Tryz.func146 Tryz.ntmps146 rfl (by simp) fun E=>(ab.seq (ab.aa ?_))
 refine Oc (bE (k:=101) rfl rfl) (Oc oa (Oc oa (ae.ag ⟨[(1,Pt 101 0)],[(101,.box 35 (az x0))]⟩ rfl (ab.seq (ab.seq (ab.aa ?_))))))
 refine Oc (lp aq) (Oc (aX (k:=102) (es:=[x0].map az) ly rfl rfl (cg fun _=>rfl) rfl (by decide) (by decide) rfl) ?_)
 obtain⟨a,e1,h⟩:=aH h
 refine Oc (gL (gu e1) me rfl CP.gi) (Oc (cc rfl) ?_)
 refine ae.af ⟨[(1,_),(8,B (!a))],[(101,_)]⟩ rfl (Oc om (dD (!(!a)) [] (fun g2=>by exact trivial) (fun g2=>lp aq) ?_))
 obtain⟨f,e4,h⟩:=aH h
 refine dD (!(!a)) [10] (fun g3=>⟨g3,trivial⟩) (fun g3=>ah (As (gc e4 g3)) goes169 rfl rfl) (dD (!(!a)) [11] (fun g5=>⟨g5,trivial⟩) (fun g5=>dy rfl rfl) (Oc (aW (fun e=>by first|(rw[e];rfl)|(simp only at e;rw[e];rfl)) rfl rfl rfl rfl) (ae.ag ⟨[(1,_),(13,B ((!a)||(decide (64<f))))],[(101,_)]⟩ rfl (ab.ite h rfl (fun _ h=>?_) (fun _ h=>?_)))))
 refine ab.seq (ab.aa ?_)
 refine Oc oa (Oc oa (ae.ag ⟨[(2,I 0),(3,B false)],[]⟩ rfl (ab.ret (Fin.ay ?_))))
 obtain rfl:=zaa h
 refine Fin.af ⟨[(2,_),(3,_)],[]⟩ rfl (Fin.au [.one (.i 0),.one (.bool false)] (.inl rfl) rfl (.cons (.tmp rfl) (.cons (.tmp rfl) .nil)) ⟨rfl,rfl⟩)
 refine ab.skip (Fin.af ⟨[(1,_)],[(101,_)]⟩ rfl (Fin.then (ab.seq (ab.aa ?_))))
 refine Oc (aj aY rfl rfl) (Oc (aK bH (by decide) (by decide) rfl rfl rfl) (Oc (ao bn rfl rfl rfl) (Oc (aE bT b6 rfl) ?_)))
 refine ae.cJ .u64 h rfl (py (m:=32) (q:=4294967296) (by decide) rfl rfl (by decide)) (fun g h=>?_)
 refine Oc (aj aY rfl rfl) (Oc (aK bH (by decide) (by decide) rfl rfl rfl) (ae.af ⟨[(1,_),(18,.b (.one (.int .u64 g))),(20,Pt 101 2)],[(101,_)]⟩ rfl (Oc (ao bn rfl rfl rfl) (Oc (aE bT b6 rfl) ?_))))
 refine ae.cJ .u64 h rfl (sg rfl rfl) (fun c h=>?_)
 refine Oc oa (ae.ag ⟨[(1,_),(4,.b (.one (.int .u64 c)))],[(101,_)]⟩ rfl (ab.seq (ab.block (ab.seq (ab.aa ?_)))))
 refine Oc (aj bJ rfl rfl) (Oc (ao cE rfl rfl rfl) (Oc om ?_))
 refine cH x0.Neg [] (fun g6=>trivial) (fun g6=>om) (cH x0.Neg [28] (fun g7=>by exact⟨g7,trivial⟩) (fun g7=>nY rfl rfl) (Oc (aD (fun e=>e) rfl rfl rfl rfl) (Oc oa (ae.ag ⟨[(1,_),(4,_),(24,B (x0.Neg&&(decide (c<=9223372036854775808))))],[(101,_)]⟩ rfl (ab.ite h rfl (fun _ h=>?_) (fun _ h=>?_))))))
 refine ab.seq (ab.aa ?_)
 refine Oc om (Oc (yF rfl) ?_)
 refine ae.cJ .i64 h rfl (aE b6 nA rfl) (fun d h=>?_)
 refine Oc oa (Oc oa (ae.ag ⟨[(2,I d),(3,B true)],[]⟩ rfl (ab.ret (Fin.bc (Fin.ay ?_)))))
 obtain rfl:=zaa h
 refine Fin.af ⟨[(2,_),(3,_)],[]⟩ rfl (Fin.au [.one (.i d),.one (.bool true)] (.inl rfl) rfl (.cons (.tmp rfl) (.cons (.tmp rfl) .nil)) ⟨rfl,rfl⟩)
 refine ab.seq (ab.aa ?_)
 refine Oc (aj bJ rfl rfl) (Oc (ao cE rfl rfl rfl) (Oc (cc rfl) (Oc om ?_)))
 refine cH (!x0.Neg) [] (fun g8=>trivial) (fun g8=>om) (cH (!x0.Neg) [39] (fun g9=>by exact⟨g9,trivial⟩) (fun g9=>bt rfl rfl) (Oc (aD (fun e=>e) rfl rfl rfl rfl) (Oc oa (ae.ag ⟨[(4,_),(34,B ((!x0.Neg)&&(decide (c<9223372036854775808))))],[]⟩ rfl (ab.ite h rfl (fun _ h=>?_) (fun _ h=>?_))))))
 refine ab.seq (ab.aa ?_)
 refine Oc om (Oc (aE b6 nA rfl) (Oc oa (Oc oa (ae.ag ⟨[(2,I (i64.wrap c)),(3,B true)],[]⟩ rfl (ab.ret (Fin.bc (Fin.ay ?_)))))))
 obtain rfl:=zaa h
 refine Fin.af ⟨[(2,_),(3,_)],[]⟩ rfl (Fin.au [.one (.i (i64.wrap c)),.one (.bool true)] (.inl rfl) rfl (.cons (.tmp rfl) (.cons (.tmp rfl) .nil)) ⟨rfl,rfl⟩)
 refine ab.skip (Fin.aA (Fin.af ⟨[],[]⟩ rfl (Fin.then (ab.seq (ab.aa ?_)))))
 refine Oc oa (Oc oa (ae.ag ⟨[(2,I 0),(3,B false)],[]⟩ rfl (ab.ret ?_)))
 obtain rfl:=zaa h
 refine Fin.af ⟨[(2,_),(3,_)],[]⟩ rfl (Fin.au [.one (.i 0),.one (.bool false)] (.inl rfl) rfl (.cons (.tmp rfl) (.cons (.tmp rfl) .nil)) ⟨rfl,rfl⟩)
def ru (F:Nat) (a0:bY) (b0:bY):Option bY :=
 (ry F b0).bind fun a=>(rz F a0 a).bind fun c=>some c
theorem BN {F:Nat} {a0 b0 r:bY} (h:ru F a0 b0=some r):ax prog (bd mx) 147 [] [.agg (az a0),.agg (az b0)] (Is [] (.b (.agg (az r)))):=by
 unfold ru at h
 refine ax.intro 9 Tryz.func147 Tryz.ntmps147 rfl (by simp) fun E=>(ab.seq (ab.aa ?_))
 refine Oc (bE (k:=101) rfl rfl) (Oc (bE (k:=102) rfl rfl) (Oc (aF (k:=103) bO rfl) (ae.ag ⟨[(2,Pt 101 0),(3,Pt 102 0),(4,Pt 103 0)],[(101,.box 35 (az a0)),(102,.box 35 (az b0)),(103,.box 35 dL)]⟩ rfl (ab.seq ?_))))
 obtain⟨c,e1,h⟩:=aH h
 obtain⟨a,e2,h⟩:=aH h
 refine ab.bN mixed 4 [.b (.agg (az a0)),.b (.agg (az b0)),.b (.agg (az c)),.b (.agg (az a))] [4] [103] (s':=⟨[(4,_)],[(103,.box 35 (az a))]⟩) rfl ⟨fun _=>.p (lp aq),fun _=>.p (lp aq),fun _=>.p (ah (xd e1) Fh rfl rfl),fun _=>.p (ah (xe e2) Fk rfl rfl),trivial⟩ ⟨_,by exact .p (an aq rfl rfl rfl rfl (zab rfl) rfl),rfl⟩ rfl (ab.ret ?_)
 obtain rfl:=zaa h
 refine Fin.af ⟨[(4,_)],[(103,_)]⟩ rfl (Fin.au [.agg (az a)] (.inl rfl) rfl (.cons (.agg aq rfl rfl rfl rfl) .nil) ⟨rfl,rfl⟩)
def lR (F:Nat) (a0:bY) (b0:bY):Option (bY×bY) :=
 (fN F [a0,b0]).bind fun g=>(aT (!(!g)) (kD F b0)).bind fun ac=>if ((!g)||(decide (ac=0)))=true then ((gD F).bind fun ad=>(gD F).bind fun ai=>some (ad,ai)) else (Option.bind (Option.bind (j6 F a0) (bQ fun f ak=>if (ak&&(decide (f≠(-9223372036854775808))))=true then (Option.bind (j6 F b0) (bQ fun c al=>if (al&&(decide (c≠(-9223372036854775808))))=true then ((ma .i64 f c).bind fun h=>(wj f c).bind fun a=>Option.bind (bA ((decide (a≠0))&&((decide (a<0)) != (decide (c<0)))) fun j=>if j=true then (some (i64.wrap (h-1),i64.wrap (a+c))) else (some (h,a))) (bQ fun k m=>(kq F k).bind fun o=>(kq F m).bind fun q=>some (.inr (o,q)))) else (some (.inl ())))) else (some (.inl ())))) (cW (fun _=>Option.bind (jq F a0.W b0.W) (bQ fun r d=>(de F (a0.Neg != b0.Neg) r).bind fun e=>Option.bind (if ((decide (d≠aZ.zero))&&(a0.Neg != b0.Neg))=true then ((kq F 1).bind fun t=>(ru F e t).bind fun u=>(j5 F b0.W d).bind fun v=>some (v,u)) else (some (d,e))) (bQ fun w x=>(de F b0.Neg w).bind fun z=>some (x,z)))) (fun y=>some y)))
theorem xB {F:Nat} {a0 b0:bY} {r:bY×bY} (h:lR F a0 b0=some r):ax prog (bd mx) 107 [] [.agg (az a0),.agg (az b0)] (Is [] (.gS [.agg (az r.1),.agg (az r.2)])):=by
 unfold lR at h
 refine ax.intro 108 Tryz.func107 Tryz.ntmps107 rfl (by simp) fun E=>(ab.seq (ab.aa ?_))
 refine Oc (bE (k:=101) rfl rfl) (Oc (bE (k:=102) rfl rfl) (Oc (aF (k:=103) bO rfl) (Oc (aF (k:=104) bO rfl) (ae.ag ⟨[(2,Pt 101 0),(3,Pt 102 0),(4,Pt 103 0),(5,Pt 104 0)],[(101,.box 35 (az a0)),(102,.box 35 (az b0)),(103,.box 35 dL),(104,.box 35 dL)]⟩ rfl (ab.seq (ab.seq (ab.aa ?_)))))))
 refine Oc (lp aq) (Oc (lp aq) (Oc (aX (k:=105) (es:=[a0,b0].map az) ly rfl rfl (cg fun _=>rfl) rfl (by decide) (by decide) rfl) ?_))
 obtain⟨f,e1,h⟩:=aH h
 refine Oc (gL (gu e1) me rfl CP.gi) (ae.af ⟨[(2,_),(3,_),(4,_),(5,_),(18,B f)],[(101,_),(102,_),(103,_),(104,_)]⟩ rfl (Oc (cc rfl) (Oc om ?_)))
 refine dD (!(!f)) [] (fun g2=>trivial) (fun g2=>lp aq) ?_
 obtain⟨bk,e4,h⟩:=aH h
 refine dD (!(!f)) [21] (fun g3=>⟨g3,trivial⟩) (fun g3=>ah (qV (gc e4 g3)) Bw rfl rfl) (dD (!(!f)) [22] (fun g5=>⟨g5,trivial⟩) (fun g5=>b8 rfl rfl) (Oc (aW (fun e=>by first|(rw[e];rfl)|(simp only at e;rw[e];rfl)) rfl rfl rfl rfl) (ae.ag ⟨[(2,_),(3,_),(4,_),(5,_),(24,B ((!f)||(decide (bk=0))))],[(101,_),(102,_),(103,_),(104,_)]⟩ rfl (ab.ite h rfl (fun _ h=>?_) (fun _ h=>?_)))))
 refine ab.seq (ab.aa ?_)
 obtain⟨am,e6,h⟩:=aH h
 refine Oc (ah (eF e6) kW rfl rfl) ?_
 obtain⟨ap,e7,h⟩:=aH h
 refine Oc (ah (eF e7) kW rfl rfl) (Oc (an aq rfl rfl rfl rfl (zab rfl) rfl) (Oc (an aq rfl rfl rfl rfl (zab rfl) rfl) (ae.ag ⟨[(4,_),(5,_)],[(103,.box 35 (az am)),(104,.box 35 (az ap))]⟩ rfl (ab.ret (Fin.ay ?_)))))
 obtain rfl:=zaa h
 refine Fin.af ⟨[(4,_),(5,_)],[(103,_),(104,_)]⟩ rfl (Fin.au [.agg (az am),.agg (az ap)] (.inl rfl) rfl (.cons (.agg aq rfl rfl rfl rfl) (.cons (.agg aq rfl rfl rfl rfl) .nil)) ⟨rfl,rfl⟩)
 refine ab.skip (Fin.af ⟨[(2,_),(3,_),(4,_),(5,_)],[(101,_),(102,_),(103,_),(104,_)]⟩ rfl (Fin.then ?_))
 obtain⟨v8,h9,h⟩:=aH h
 refine ab.bR (v:=v8) (fun (_:Unit)=>⟨[(2,Pt 101 0),(3,Pt 102 0),(4,Pt 103 0),(5,Pt 104 0)],[(101,.box 35 (az a0)),(102,.box 35 (az b0)),(103,.box 35 dL),(104,.box 35 dL)]⟩) (fun z=>.inl z) ?_ ?_
 refine ab.seq (ab.aa ?_)
 refine Oc (lp aq) ?_
 obtain⟨⟨ac,ad⟩,e10,h9⟩:=aH h9
 refine Oc (ah (tZ e10) Dc rfl rfl) (Oc om (Oc (aG rfl rfl) (Oc (aG rfl rfl) (Oc oa (Oc oa (ae.ag ⟨[(2,_),(3,_),(4,_),(5,_),(6,I ac),(7,B ad)],[(101,_),(102,_),(103,_),(104,_)]⟩ rfl (ab.seq (ab.aa ?_))))))))
 refine Oc om (Oc om ?_)
 refine cH ad [] (fun g11=>trivial) (fun g11=>om) (cH ad [34] (fun g12=>by exact⟨g12,trivial⟩) (fun g12=>dd rfl rfl) (Oc (aD (fun e=>e) rfl rfl rfl rfl) (ae.ag ⟨[(2,_),(3,_),(4,_),(5,_),(6,_),(36,B (ad&&(decide (ac≠(-9223372036854775808)))))],[(101,_),(102,_),(103,_),(104,_)]⟩ rfl (ab.ite h9 rfl (fun _ h9=>?_) (fun _ h9=>?_)))))
 refine ab.seq (ab.aa ?_)
 refine Oc (lp aq) ?_
 obtain⟨⟨g,ai⟩,e13,h9⟩:=aH h9
 refine Oc (ah (tZ e13) Dc rfl rfl) (Oc om (Oc (aG rfl rfl) (Oc (aG rfl rfl) (Oc oa (Oc oa (ae.ag ⟨[(2,_),(3,_),(4,_),(5,_),(6,_),(8,I g),(9,B ai)],[(101,_),(102,_),(103,_),(104,_)]⟩ rfl (ab.seq (ab.aa ?_))))))))
 refine Oc om (Oc om ?_)
 refine cH ai [] (fun g14=>trivial) (fun g14=>om) (cH ai [44] (fun g15=>by exact⟨g15,trivial⟩) (fun g15=>dd rfl rfl) (Oc (aD (fun e=>e) rfl rfl rfl rfl) (ae.ag ⟨[(2,_),(3,_),(4,_),(5,_),(6,_),(8,_),(46,B (ai&&(decide (g≠(-9223372036854775808)))))],[(101,_),(102,_),(103,_),(104,_)]⟩ rfl (ab.ite h9 rfl (fun _ h9=>?_) (fun _ h9=>?_)))))
 refine ab.seq (ab.af ⟨[(4,_),(5,_),(6,_),(8,_)],[(103,_),(104,_)]⟩ rfl ?_)
 obtain⟨j,e16,h9⟩:=aH h9
 obtain⟨c,e17,h9⟩:=aH h9
 refine ab.bN mixed 8 [I ac,I g,I j,I ac,I g,I c,I j,I c] [4,5,8,10,11] [103,104] (s':=⟨[(4,_),(5,_),(8,_),(10,I j),(11,I c)],[(103,_),(104,_)]⟩) rfl ⟨fun _=>.p om,fun _=>.p om,fun _=>.p (fv e16 rfl rfl),fun _=>.p om,fun _=>.p om,fun _=>.p (rD e17 rfl rfl),fun _=>.p oa,fun _=>.p oa,trivial⟩ rfl rfl ?_
 obtain⟨v18,h19,h9⟩:=aH h9
 refine ab.bR (v:=v18) (bQ fun (ak:Int) (m:Int)=>⟨[(4,Pt 103 0),(5,Pt 104 0),(10,I ak),(11,I m)],[(103,.box 35 dL),(104,.box 35 dL)]⟩) (fun z=>z) ?_ ?_
 refine ab.seq (ab.aa ?_)
 refine Oc om (Oc (dd rfl rfl) (Oc om ?_))
 refine cH (decide (c≠0)) [] (fun g20=>trivial) (fun g20=>om) (cH (decide (c≠0)) [56] (fun g21=>by exact⟨g21,trivial⟩) (fun g21=>bt rfl rfl) (cH (decide (c≠0)) [] (fun g22=>by exact trivial) (fun g22=>om) (cH (decide (c≠0)) [58] (fun g23=>by exact⟨g23,trivial⟩) (fun g23=>bt rfl rfl) (cH (decide (c≠0)) [57,59] (fun g24=>by exact⟨g24,g24,trivial⟩) (fun g24=>gX xG rfl rfl) (ae.il h19 rfl (aD (fun e=>e) rfl rfl rfl rfl) (fun be h19=>(ae.ag ⟨[(4,_),(5,_),(8,_),(10,_),(11,_),(61,B be)],[(103,_),(104,_)]⟩ rfl (ab.ite h19 rfl (fun _ h19=>?_) (fun _ h19=>?_)))))))))
 refine ab.aa (Oc om (Oc (bW rfl rfl) (Oc om (Oc om (Oc (aL rfl rfl) (Oc oa ?_))))))
 refine Oc oa (ae.nil ?_)
 exact Fin.join [4,5,10,11] [103,104] (i64.wrap (j-1),i64.wrap (c+g)) (zaa h19) rfl
 refine ab.skip ?_
 exact Fin.join [4,5,10,11] [103,104] (j,c) (zaa h19) rfl
 rintro⟨ak,m⟩ hv
 subst v18
 refine ab.seq (ab.aa ?_)
 refine Oc om ?_
 obtain⟨o,e25,h9⟩:=aH h9
 refine Oc (ah (jl e25) pa rfl rfl) (Oc om (ae.af ⟨[(4,_),(5,_),(68,.b (.agg (az o))),(69,I m)],[(103,_),(104,_)]⟩ rfl ?_))
 obtain⟨al,e26,h9⟩:=aH h9
 refine Oc (ah (jl e26) pa rfl rfl) (Oc (an aq rfl rfl rfl rfl (zab rfl) rfl) (Oc (an aq rfl rfl rfl rfl (zab rfl) rfl) (ae.ag ⟨[(4,_),(5,_)],[(103,.box 35 (az o)),(104,.box 35 (az al))]⟩ rfl (ab.ret ?_))))
 obtain rfl:=zaa h9
 refine Fin.ay ?_
 obtain rfl:=zaa h
 refine Fin.af ⟨[(4,_),(5,_)],[(103,_),(104,_)]⟩ rfl (Fin.au [.agg (az o),.agg (az al)] (.inl rfl) rfl (.cons (.agg aq rfl rfl rfl rfl) (.cons (.agg aq rfl rfl rfl rfl) .nil)) ⟨rfl,rfl⟩)
 refine ab.skip ?_
 exact Fin.join [2,3,4,5] [101,102,103,104] () (zaa h9) rfl
 refine ab.skip ?_
 exact Fin.join [2,3,4,5] [101,102,103,104] () (zaa h9) rfl
 rintro _ hv
 subst v8
 refine ab.seq (ab.aa ?_)
 refine Oc (aj aY rfl rfl) (Oc (lp aM) (Oc (aj aY rfl rfl) (Oc (lp aM) ?_)))
 obtain⟨⟨q,a⟩,e27,h⟩:=aH h
 refine Oc (ah (qe e27) Dj rfl rfl) (ae.af ⟨[(2,_),(3,_),(4,_),(5,_),(76,.gS [.agg (eW q),.agg (eW a)])],[(101,_),(102,_),(103,_),(104,_)]⟩ rfl (Oc om (Oc (aG rfl rfl) (Oc (aG rfl rfl) (Oc (aF (k:=106) dt rfl) (Oc (aF (k:=107) dt rfl) (Oc (an aM rfl rfl rfl rfl (zab rfl) rfl) ?_)))))))
 refine Oc (an aM rfl rfl rfl rfl (zab rfl) rfl) (ae.ag ⟨[(2,_),(3,_),(4,_),(5,_),(12,Pt 106 0),(13,Pt 107 0)],[(101,_),(102,_),(103,_),(104,_),(106,.box 33 (eW q)),(107,.box 33 (eW a))]⟩ rfl (ab.seq (ab.aa ?_)))
 refine Oc (aj bJ rfl rfl) (Oc (ao cE rfl rfl rfl) (Oc (aj bJ rfl rfl) (Oc (ao cE rfl rfl rfl) (Oc (gX xG rfl rfl) (Oc (lp aM) (ae.af ⟨[(2,_),(3,_),(4,_),(5,_),(13,_),(83,B (a0.Neg != b0.Neg)),(84,.b (.agg (eW q)))],[(101,_),(102,_),(103,_),(104,_),(107,_)]⟩ rfl ?_))))))
 obtain⟨t,e28,h⟩:=aH h
 refine Oc (ah (c7 e28) kV rfl rfl) (Oc (aF (k:=108) bO rfl) (Oc (an aq rfl rfl rfl rfl (zab rfl) rfl) (ae.ag ⟨[(2,_),(3,_),(4,_),(5,_),(13,_),(14,Pt 108 0)],[(101,_),(102,_),(103,_),(104,_),(107,_),(108,.box 35 (az t))]⟩ rfl ?_)))
 obtain⟨v29,h30,h⟩:=aH h
 refine ab.bR (v:=v29) (bQ fun (u:aZ) (d:bY)=>⟨[(3,Pt 102 0),(4,Pt 103 0),(5,Pt 104 0),(13,Pt 107 0),(14,Pt 108 0)],[(102,.box 35 (az b0)),(103,.box 35 dL),(104,.box 35 dL),(107,.box 33 (eW u)),(108,.box 35 (az d))]⟩) (fun z=>z) ?_ ?_
 refine ab.seq (ab.aa ?_)
 refine Oc (lp aM) (Oc (iy iw rfl rfl) (Oc (lh (rO a aZ.zero) rfl rfl rE) (Oc om ?_)))
 refine cH (decide (a≠aZ.zero)) [] (fun g31=>trivial) (fun g31=>aj bJ rfl rfl) (cH (decide (a≠aZ.zero)) [90] (fun g32=>⟨g32,trivial⟩) (fun g32=>ao cE rfl rfl rfl) (cH (decide (a≠aZ.zero)) [] (fun g33=>trivial) (fun g33=>aj bJ rfl rfl) (ae.af ⟨[(3,_),(4,_),(5,_),(13,_),(14,_),(89,B (decide (a≠aZ.zero))),(91,.opt (decide (a≠aZ.zero)) (.one (.bool a0.Neg))),(92,.opt (decide (a≠aZ.zero)) (.ptr 102 1))],[(102,_),(103,_),(104,_),(107,_),(108,_)]⟩ rfl (cH (decide (a≠aZ.zero)) [92] (fun g34=>⟨g34,trivial⟩) (fun g34=>ao cE rfl rfl rfl) (cH (decide (a≠aZ.zero)) [91,93] (fun g35=>⟨g35,g35,trivial⟩) (fun g35=>gX xG rfl rfl) ?_)))))
 refine Oc (aD (fun e=>e) rfl rfl rfl rfl) (ae.ag ⟨[(3,_),(4,_),(5,_),(13,_),(14,_),(95,B ((decide (a≠aZ.zero))&&(a0.Neg != b0.Neg)))],[(102,_),(103,_),(104,_),(107,_),(108,_)]⟩ rfl (ab.ite h30 rfl (fun _ h30=>?_) (fun _ h30=>?_)))
 refine ab.af ⟨[(3,_),(4,_),(5,_),(13,_),(14,_)],[(102,_),(103,_),(104,_),(107,_),(108,_)]⟩ rfl ?_
 obtain⟨bi,e36,h30⟩:=aH h30
 obtain⟨w,e37,h30⟩:=aH h30
 obtain⟨x,e38,h30⟩:=aH h30
 refine ab.jH mixed 7 [.b (.agg (az t)),.b (.agg (az bi)),.b (.agg (az w)),Pt 102 2,.b (.agg (eW b0.W)),.b (.agg (eW a)),.b (.agg (eW x))] [3,4,5,13,14] [102,103,104,107,108] (s':=⟨[(3,_),(4,_),(5,_),(13,_),(14,_)],[(102,_),(103,_),(104,_),(107,.box 33 (eW x)),(108,.box 35 (az w))]⟩) rfl ⟨fun _=>.p (lp aq),fun _=>.p (ah (jl e36) pa rfl rfl),fun _=>.p (ah (BN e37) goes147 rfl rfl),fun _=>.p (aj aY rfl rfl),fun _=>.p (lp aM),fun _=>.p (lp aM),fun _=>.p (ah (pN e38) za rfl rfl),trivial⟩ ⟨_,by exact .p (an aq rfl rfl rfl rfl (zab rfl) rfl),⟨_,by exact .p (an aM rfl rfl rfl rfl (zab rfl) rfl),rfl⟩⟩ rfl ?_
 exact Fin.join [3,4,5,13,14] [102,103,104,107,108] (x,w) (zaa h30) rfl
 refine ab.skip ?_
 exact Fin.join [3,4,5,13,14] [102,103,104,107,108] (a,t) (zaa h30) rfl
 rintro⟨u,d⟩ hv
 subst v29
 refine ab.seq (ab.af ⟨[(3,_),(4,_),(5,_),(13,_),(14,_)],[(102,_),(103,_),(104,_),(107,_),(108,_)]⟩ rfl ?_)
 obtain⟨y,e39,h⟩:=aH h
 refine ab.bN mixed 5 [.b (.agg (az d)),Pt 102 1,B b0.Neg,.b (.agg (eW u)),.b (.agg (az y))] [4,5] [103,104] (s':=⟨[(4,_),(5,_)],[(103,.box 35 (az d)),(104,.box 35 (az y))]⟩) rfl ⟨fun _=>.p (lp aq),fun _=>.p (aj bJ rfl rfl),fun _=>.p (ao cE rfl rfl rfl),fun _=>.p (lp aM),fun _=>.p (ah (c7 e39) kV rfl rfl),trivial⟩ ⟨_,by exact .p (an aq rfl rfl rfl rfl (zab rfl) rfl),⟨_,by exact .p (an aq rfl rfl rfl rfl (zab rfl) rfl),rfl⟩⟩ rfl (ab.ret ?_)
 obtain rfl:=zaa h
 refine Fin.af ⟨[(4,_),(5,_)],[(103,_),(104,_)]⟩ rfl (Fin.au [.agg (az d),.agg (az y)] (.inl rfl) rfl (.cons (.agg aq rfl rfl rfl rfl) (.cons (.agg aq rfl rfl rfl rfl) .nil)) ⟨rfl,rfl⟩)
def pe (F:Nat) (a0:bY) (b0:bY):Option bY :=
 Option.bind (lR F a0 b0) (bQ fun a c=>some a)
theorem xc {F:Nat} {a0 b0 r:bY} (h:pe F a0 b0=some r):ax prog (bd mx) 52 [] [.agg (az a0),.agg (az b0)] (Is [] (.b (.agg (az r)))):=by
 unfold pe at h
 refine ax.intro 14 Tryz.func52 Tryz.ntmps52 rfl (by simp) fun E=>(ab.seq (ab.aa ?_))
 refine Oc (bE (k:=101) rfl rfl) (Oc (bE (k:=102) rfl rfl) (Oc (aF (k:=103) bO rfl) (ae.ag ⟨[(2,Pt 101 0),(3,Pt 102 0),(4,Pt 103 0)],[(101,.box 35 (az a0)),(102,.box 35 (az b0)),(103,.box 35 dL)]⟩ rfl (ab.seq (ab.aa ?_)))))
 refine Oc (lp aq) (Oc (lp aq) ?_)
 obtain⟨⟨a,c⟩,e1,h⟩:=aH h
 refine Oc (ah (xB e1) goes107 rfl rfl) (Oc om (Oc (aG rfl rfl) (ae.af ⟨[(4,_),(7,.gS [.agg (az a),.agg (az c)]),(11,.b (.agg (az a)))],[(103,_)]⟩ rfl (Oc (aG rfl rfl) (Oc (aF (k:=104) bO rfl) (Oc (aF (k:=105) bO rfl) (Oc (an aq rfl rfl rfl rfl (zab rfl) rfl) (Oc (an aq rfl rfl rfl rfl (zab rfl) rfl) (ae.ag ⟨[(4,_),(5,Pt 104 0)],[(103,_),(104,.box 35 (az a))]⟩ rfl (ab.seq (ab.aa ?_)))))))))))
 refine Oc (lp aq) (Oc (an aq rfl rfl rfl rfl (zab rfl) rfl) (ae.ag ⟨[(4,_)],[(103,.box 35 (az a))]⟩ rfl (ab.ret ?_)))
 obtain rfl:=zaa h
 refine Fin.af ⟨[(4,_)],[(103,_)]⟩ rfl (Fin.au [.agg (az a)] (.inl rfl) rfl (.cons (.agg aq rfl rfl rfl rfl) .nil) ⟨rfl,rfl⟩)
def mQ (F:Nat) (n0:bY) (d0:bY):Option s9 :=
 (ox F n0).bind fun a=>(aT (!(!a)) (ox F d0)).bind fun c=>(aT (!((!a)||(!c))) (kD F d0)).bind fun g=>if (((!a)||(!c))||(decide (g=0)))=true then ((tt F).bind fun h=>some h) else ((vO F n0 d0).bind fun d=>Option.bind ((kD F d0).bind fun j=>if (decide (j<0))=true then ((ry F d).bind fun k=>some k) else (some d)) (fun e=>(pe F n0 e).bind fun m=>(pe F d0 e).bind fun f=>some (⟨m,f⟩:s9)))
theorem vp {F:Nat} {n0 d0:bY} {r:s9} (h:mQ F n0 d0=some r):ax prog (bd mx) 35 [] [.agg (az n0),.agg (az d0)] (Is [] (.b (.agg (km r)))):=by
 unfold mQ at h
 refine ax.intro 35 Tryz.func35 Tryz.ntmps35 rfl (by simp) fun E=>(ab.seq (ab.aa ?_))
 refine Oc (bE (k:=101) rfl rfl) (Oc (bE (k:=102) rfl rfl) (Oc (aF (k:=103) lM rfl) (ae.ag ⟨[(2,Pt 101 0),(3,Pt 102 0),(4,Pt 103 0)],[(101,.box 35 (az n0)),(102,.box 35 (az d0)),(103,.box 37 wh)]⟩ rfl (ab.seq (ab.seq (ab.aa ?_))))))
 refine Oc (lp aq) ?_
 obtain⟨a,e1,h⟩:=aH h
 refine Oc (ah (vo e1) Fi rfl rfl) (Oc (cc rfl) (Oc om ?_))
 refine dD (!(!a)) [] (fun g2=>trivial) (fun g2=>lp aq) (ae.af ⟨[(2,_),(3,_),(4,_),(9,B (!a)),(10,.opt (!(!a)) (.agg (az d0)))],[(101,_),(102,_),(103,_)]⟩ rfl ?_)
 obtain⟨d,e4,h⟩:=aH h
 refine dD (!(!a)) [10] (fun g3=>⟨g3,trivial⟩) (fun g3=>ah (vo (gc e4 g3)) Fi rfl rfl) (dD (!(!a)) [11] (fun g5=>⟨g5,trivial⟩) (fun g5=>cc rfl) (Oc (aW (fun e=>by first|(rw[e];rfl)|(simp only at e;rw[e];rfl)) rfl rfl rfl rfl) (Oc om ?_)))
 refine dD (!((!a)||(!d))) [] (fun g6=>trivial) (fun g6=>lp aq) ?_
 obtain⟨o,e8,h⟩:=aH h
 refine dD (!((!a)||(!d))) [15] (fun g7=>⟨g7,trivial⟩) (fun g7=>ah (qV (gc e8 g7)) Bw rfl rfl) (dD (!((!a)||(!d))) [16] (fun g9=>⟨g9,trivial⟩) (fun g9=>b8 rfl rfl) (Oc (aW (fun e=>by first|(rw[e];rfl)|(simp only at e;rw[e];rfl)) rfl rfl rfl rfl) (ae.ag ⟨[(2,_),(3,_),(4,_),(18,B (((!a)||(!d))||(decide (o=0))))],[(101,_),(102,_),(103,_)]⟩ rfl (ab.ite h rfl (fun _ h=>?_) (fun _ h=>?_)))))
 refine ab.seq (ab.aa ?_)
 obtain⟨j,e10,h⟩:=aH h
 refine Oc (ah (B8 e10) goes49 rfl rfl) (Oc (an dM rfl rfl rfl rfl (zab rfl) rfl) (ae.ag ⟨[(4,_)],[(103,.box 37 (km j))]⟩ rfl (ab.ret (Fin.ay ?_))))
 obtain rfl:=zaa h
 refine Fin.af ⟨[(4,_)],[(103,_)]⟩ rfl (Fin.au [.agg (km j)] (.inl rfl) rfl (.cons (.agg dM rfl rfl rfl rfl) .nil) ⟨rfl,rfl⟩)
 refine ab.skip (Fin.af ⟨[(2,_),(3,_),(4,_)],[(101,_),(102,_),(103,_)]⟩ rfl (Fin.then (ab.seq (ab.aa ?_))))
 refine Oc (lp aq) (Oc (lp aq) ?_)
 obtain⟨m,e11,h⟩:=aH h
 refine Oc (ah (BP e11) Fm rfl rfl) (Oc (aF (k:=104) bO rfl) (Oc (an aq rfl rfl rfl rfl (zab rfl) rfl) (ae.ag ⟨[(2,_),(3,_),(4,_),(5,Pt 104 0)],[(101,_),(102,_),(103,_),(104,.box 35 (az m))]⟩ rfl ?_)))
 obtain⟨v12,h13,h⟩:=aH h
 refine ab.bR (v:=v12) (fun (f:bY)=>⟨[(2,Pt 101 0),(3,Pt 102 0),(4,Pt 103 0),(5,Pt 104 0)],[(101,.box 35 (az n0)),(102,.box 35 (az d0)),(103,.box 37 wh),(104,.box 35 (az f))]⟩) (fun z=>z) ?_ ?_
 refine ab.seq (ab.aa ?_)
 refine Oc (lp aq) ?_
 obtain⟨q,e14,h13⟩:=aH h13
 refine Oc (ah (qV e14) Bw rfl rfl) (Oc (bt rfl rfl) (ae.ag ⟨[(2,_),(3,_),(4,_),(5,_),(25,B (decide (q<0)))],[(101,_),(102,_),(103,_),(104,_)]⟩ rfl (ab.ite h13 rfl (fun _ h13=>?_) (fun _ h13=>?_))))
 refine ab.aa (Oc (lp aq) ?_)
 obtain⟨t,e15,h13⟩:=aH h13
 refine Oc (ah (xd e15) Fh rfl rfl) (Oc (an aq rfl rfl rfl rfl (zab rfl) rfl) (ae.nil ?_))
 exact Fin.join [2,3,4,5] [101,102,103,104] t (zaa h13) rfl
 refine ab.skip ?_
 exact Fin.join [2,3,4,5] [101,102,103,104] m (zaa h13) rfl
 rintro f hv
 subst v12
 refine ab.seq (ab.af ⟨[(2,_),(3,_),(4,_),(5,_)],[(101,_),(102,_),(103,_),(104,_)]⟩ rfl ?_)
 obtain⟨g,e16,h⟩:=aH h
 obtain⟨c,e17,h⟩:=aH h
 refine ab.bN mixed 7 [.b (.agg (az n0)),.b (.agg (az f)),.b (.agg (az g)),.b (.agg (az d0)),.b (.agg (az f)),.b (.agg (az c)),.b (.agg (az g++(az c)))] [4] [103] (s':=⟨[(4,_)],[(103,.box 37 (az g++(az c)))]⟩) rfl ⟨fun _=>.p (lp aq),fun _=>.p (lp aq),fun _=>.p (ah (xc e16) Fl rfl rfl),fun _=>.p (lp aq),fun _=>.p (lp aq),fun _=>.p (ah (xc e17) Fl rfl rfl),fun _=>.p (aU oF rfl rfl),trivial⟩ ⟨_,by exact .p (an dM rfl rfl rfl rfl (zab rfl) rfl),rfl⟩ rfl (ab.ret ?_)
 obtain rfl:=zaa h
 refine Fin.af ⟨[(4,_)],[(103,_)]⟩ rfl (Fin.au [.agg (az g++(az c))] (.inl rfl) rfl (.cons (.agg dM rfl rfl rfl rfl) .nil) ⟨rfl,rfl⟩)
def dZ (F:Nat) (t0:Token):Option (s9×Int) :=
 (aT (!(decide (t0.Kind≠3))) (eG F t0)).bind fun j=>if ((decide (t0.Kind≠3))||(!j))=true then (bA (⟨(⟨false,false,aZ.zero⟩:bY),(⟨false,false,aZ.zero⟩:bY)⟩:s9) fun k=>some (k,1)) else (Option.bind (lB F t0.S [46]) (iJ fun m c u=>(gU m c).bind fun o=>(fR F o [48]).bind fun d=>Option.bind (if (decide (d=[]))=true then (some [48]) else (some d)) (fun a=>Option.bind (jk F a) (bQ fun q r=>(jy F [48] (c.length:Int)).bind fun e=>(gU [49] e).bind fun f=>Option.bind (jk F f) (bQ fun g t=>(mQ F q g).bind fun h=>some (h,0))))))
theorem oN {F:Nat} {t0:Token} {r:s9×Int} (h:dZ F t0=some r):ax prog (bd mx) 11 [] [.agg (aC t0)] (Is [] (.gS [.agg (km r.1),.one (.i r.2)])):=by
 unfold dZ at h
 refine ax.intro 50 Tryz.func11 Tryz.ntmps11 rfl (by simp) fun E=>(ab.seq (ab.aa ?_))
 refine Oc (bE (k:=101) rfl rfl) (Oc (aF (k:=102) lM rfl) (Oc oa (ae.ag ⟨[(1,Pt 101 0),(2,Pt 102 0)],[(101,.box 31 (aC t0)),(102,.box 37 wh)]⟩ rfl (ab.seq (ab.seq (ab.aa ?_))))))
 refine Oc (aj j7 rfl rfl) (Oc (ao bI rfl rfl rfl) (Oc (dd rfl rfl) (Oc om ?_)))
 refine dD (!(decide (t0.Kind≠3))) [] (fun g1=>trivial) (fun g1=>lp bK) (ae.af ⟨[(1,_),(2,_),(15,B (decide (t0.Kind≠3))),(16,.opt (!(decide (t0.Kind≠3))) (.agg (aC t0)))],[(101,_),(102,_)]⟩ rfl ?_)
 obtain⟨u,e3,h⟩:=aH h
 refine dD (!(decide (t0.Kind≠3))) [16] (fun g2=>⟨g2,trivial⟩) (fun g2=>ah (l8 (gc e3 g2)) FB rfl rfl) (dD (!(decide (t0.Kind≠3))) [17] (fun g4=>⟨g4,trivial⟩) (fun g4=>cc rfl) (Oc (aW (fun e=>by first|(rw[e];rfl)|(simp only at e;rw[e];rfl)) rfl rfl rfl rfl) (ae.ag ⟨[(1,_),(2,_),(19,B ((decide (t0.Kind≠3))||(!u)))],[(101,_),(102,_)]⟩ rfl (ab.ite h rfl (fun _ h=>?_) (fun _ h=>?_)))))
 refine ab.seq (ab.aa (ae.qd km h rfl (aU oF rfl rfl) (fun j h=>?_)))
 refine Oc (an dM rfl rfl rfl rfl (zab rfl) rfl) (Oc oa (ae.ag ⟨[(2,_),(3,I 1)],[(102,.box 37 (km j))]⟩ rfl (ab.ret (Fin.ay ?_))))
 obtain rfl:=zaa h
 refine Fin.af ⟨[(2,_),(3,_)],[(102,_)]⟩ rfl (Fin.au [.agg (km j),.one (.i 1)] (.inl rfl) rfl (.cons (.agg dM rfl rfl rfl rfl) (.cons (.tmp rfl) .nil)) ⟨rfl,rfl⟩)
 refine ab.skip (Fin.af ⟨[(1,_),(2,_)],[(101,_),(102,_)]⟩ rfl (Fin.then (ab.seq (ab.aa ?_))))
 refine Oc (aj dS rfl rfl) (Oc (ao b7 rfl rfl rfl) ?_)
 obtain⟨⟨d,f,w⟩,e5,h⟩:=aH h
 refine Oc (ah (uY e5) goes31 rfl rfl) (Oc om (Oc (aG rfl rfl) (ae.af ⟨[(2,_),(21,.gS [.one (.str d),.one (.str f),.one (.bool w)]),(25,.b (.one (.str d)))],[(102,_)]⟩ rfl (Oc (aG rfl rfl) (Oc (aG rfl rfl) (Oc oa (Oc oa (Oc oa (ae.ag ⟨[(2,_),(4,.b (.one (.str d))),(5,.b (.one (.str f)))],[(102,_)]⟩ rfl (ab.seq (ab.aa ?_)))))))))))
 refine Oc om (Oc om ?_)
 obtain⟨ac,e6,h⟩:=aH h
 refine Oc (fE e6 rfl rfl) ?_
 obtain⟨g,e7,h⟩:=aH h
 refine Oc (ah (qh e7) goes32 rfl rfl) (Oc oa (ae.ag ⟨[(2,_),(5,_),(7,.b (.one (.str g)))],[(102,_)]⟩ rfl ?_))
 obtain⟨v8,h9,h⟩:=aH h
 refine ab.bR (v:=v8) (fun (a:Str)=>⟨[(2,Pt 102 0),(5,.b (.one (.str f))),(7,.b (.one (.str a)))],[(102,.box 37 wh)]⟩) (fun z=>z) ?_ ?_
 refine ab.seq (ab.aa ?_)
 refine Oc om (Oc (iU rfl rfl) (ae.ag ⟨[(2,_),(5,_),(7,_),(33,B (decide (g=[])))],[(102,_)]⟩ rfl (ab.ite h9 rfl (fun _ h9=>?_) (fun _ h9=>?_))))
 refine ab.aa (Oc oa (ae.nil ?_))
 exact Fin.join [2,5,7] [102] [48] (zaa h9) rfl
 refine ab.skip ?_
 exact Fin.join [2,5,7] [102] g (zaa h9) rfl
 rintro a hv
 subst v8
 refine ab.seq (ab.aa ?_)
 refine Oc om ?_
 obtain⟨⟨m,o⟩,e10,h⟩:=aH h
 refine Oc (ah (ua e10) Fx rfl rfl) (Oc om (Oc (aG rfl rfl) (Oc (aG rfl rfl) (ae.af ⟨[(2,_),(5,_),(37,.b (.agg (az m))),(38,I o)],[(102,_)]⟩ rfl (Oc (aF (k:=103) bO rfl) (Oc (an aq rfl rfl rfl rfl (zab rfl) rfl) (Oc oa (ae.ag ⟨[(2,_),(5,_),(8,Pt 103 0)],[(102,_),(103,.box 35 (az m))]⟩ rfl (ab.seq (ab.aa ?_))))))))))
 refine Oc om (Oc (bh cb rfl) ?_)
 obtain⟨x,e11,h⟩:=aH h
 refine Oc (ah (r7 e11) goes34 rfl rfl) ?_
 obtain⟨q,e12,h⟩:=aH h
 refine Oc (fE e12 rfl rfl) (ae.af ⟨[(2,_),(8,_),(43,.b (.one (.str q)))],[(102,_),(103,_)]⟩ rfl ?_)
 obtain⟨⟨t,y⟩,e13,h⟩:=aH h
 refine Oc (ah (ua e13) Fx rfl rfl) (Oc om (Oc (aG rfl rfl) (Oc (aG rfl rfl) (Oc (aF (k:=104) bO rfl) (Oc (an aq rfl rfl rfl rfl (zab rfl) rfl) ?_)))))
 refine Oc oa (ae.ag ⟨[(2,_),(8,_),(10,Pt 104 0)],[(102,_),(103,_),(104,.box 35 (az t))]⟩ rfl (ab.seq (ab.aa ?_)))
 refine Oc (lp aq) (Oc (lp aq) ?_)
 obtain⟨c,e14,h⟩:=aH h
 refine Oc (ah (vp e14) Fw rfl rfl) (Oc (an dM rfl rfl rfl rfl (zab rfl) rfl) (Oc oa (ae.ag ⟨[(2,_),(3,I 0)],[(102,.box 37 (km c))]⟩ rfl (ab.ret ?_))))
 obtain rfl:=zaa h
 refine Fin.af ⟨[(2,_),(3,_)],[(102,_)]⟩ rfl (Fin.au [.agg (km c),.one (.i 0)] (.inl rfl) rfl (.cons (.agg dM rfl rfl rfl rfl) (.cons (.tmp rfl) .nil)) ⟨rfl,rfl⟩)
def jt (F:Nat) (l0:List Token):Option (Str×Int) :=
 Option.bind (iter F (iJ fun a c g=>if (decide (g<(l0.length:Int)))=true then ((aS l0 g).bind fun h=>(eG F h).bind fun r=>if (!r)=true then (some (.inr (.inr ([],1)))) else ((gk F h).bind fun j=>(gU a [j]).bind fun d=>bA (i64.wrap ((d.length:Int)-1)) fun k=>(aS d k).bind fun m=>bA (i64.wrap ((m.length:Int)+1)) fun o=>some (.inl (d,i64.wrap (c+o),i64.wrap (g+1))))) else (some (.inr (.inl (a,c))))) ([],(-1),0)) (cW (bQ fun e f=>if (decide (100000<f))=true then (some ([],2)) else ((kO F e [32]).bind fun q=>some (q,0))) (fun y=>some y))
theorem qf {F:Nat} {l0:List Token} {r:Str×Int} (h:jt F l0=some r):ax prog (bd mx) 9 [] [.one (.sl 3 (l0.map aC))] (Is [] (.gS [.one (.str r.1),.one (.i r.2)])):=by
 unfold jt at h
 refine ax.intro 37 Tryz.func9 Tryz.ntmps9 rfl (by simp) fun E=>(ab.seq (ab.aa ?_))
 refine Oc oa (Oc oa (ae.ag ⟨[(0,.b (.one (.sl 3 (l0.map aC))))],[]⟩ rfl (ab.seq (ab.aa ?_))))
 refine Oc oa (ae.ag ⟨[(0,_),(4,.b (.one (.nil)))],[]⟩ rfl (ab.seq (ab.aa ?_)))
 refine Oc oa (ae.ag ⟨[(0,_),(4,_),(5,I (-1))],[]⟩ rfl ?_)
 obtain⟨v1,h2,h⟩:=aH h
 refine ab.bR (v:=v1) (bQ fun (g:List Str) (d:Int)=>⟨[(4,.b (.row 103)),(5,I d)],[(103,.row 9 1 (g.map eS))]⟩) (fun z=>.inl z) ?_ ?_
 refine ab.seq (ab.aa ?_)
 refine Oc om (Oc (ba qa rfl (List.length_map _)) (Oc om (ae.ag ⟨[(4,_),(5,_),(8,.b (.one (.sl 3 (l0.map aC)))),(9,I (l0.length:Int)),(10,I 0)],[]⟩ rfl (ab.block (ab.kr 4 103 1 9 rfl (by decide) rfl (ab.cx h2 (iJ fun (c:List Str) (a:Int) (j:Int)=>⟨[(4,.b (.row 103)),(5,I a),(8,.b (.one (.sl 3 (l0.map aC)))),(9,I (l0.length:Int)),(10,I j)],[(103,.row 9 1 (c.map eS))]⟩) [4,5,8,9,10] [103] rfl ?_))))))
 rintro⟨c,a,j⟩ o3 h4 hy5
 refine ab.seq (ab.aa ?_)
 refine Oc (bt rfl rfl) (ae.ag ⟨[(4,_),(5,_),(8,_),(9,_),(10,_),(11,B (decide (j<(l0.length:Int))))],[(103,_)]⟩ rfl (ab.seq (ab.ite h4 rfl (fun _ h4=>?_) (fun _ h4=>?_))))
 refine ab.skip (Fin.af ⟨[(4,_),(5,_),(8,_),(9,_),(10,_)],[(103,_)]⟩ rfl (Fin.then (ab.seq (ab.block (ab.seq (ab.aa ?_))))))
 obtain⟨w,e6,h4⟩:=aH h4
 refine Oc (bm fh (aR e6) (cu (e:=aC) e6) rfl rfl) (Oc (j8 bK rfl rfl rfl) (Oc (aF (k:=104) im rfl) (Oc (an bK rfl rfl rfl rfl (zab rfl) rfl) (ae.ag ⟨[(4,_),(5,_),(7,Pt 104 0),(8,_),(9,_),(10,_)],[(103,_),(104,.box 31 (aC w))]⟩ rfl (ab.seq (ab.seq (ab.aa ?_)))))))
 refine Oc (lp bK) ?_
 obtain⟨x,e7,h4⟩:=aH h4
 refine Oc (ah (l8 e7) FB rfl rfl) (Oc (cc rfl) (ae.ag ⟨[(4,_),(5,_),(7,_),(8,_),(9,_),(10,_),(16,B (!x))],[(103,_),(104,_)]⟩ rfl (ab.ite h4 rfl (fun _ h4=>?_) (fun _ h4=>?_))))
 refine ab.seq (ab.aa ?_)
 refine Oc oa (Oc oa (ae.ag ⟨[(2,.b (.one (.str []))),(3,I 1)],[]⟩ rfl (ab.ret (Fin.ay (Fin.bc (Fin.ay ?_))))))
 obtain rfl:=hy5 _ (zaa h4).symm
 refine Fin.ay (Fin.bc (Fin.ay ?_))
 obtain rfl:=zaa h
 refine Fin.af ⟨[(2,_),(3,_)],[]⟩ rfl (Fin.au [.one (.str []),.one (.i 1)] (.inl rfl) rfl (.cons (.tmp rfl) (.cons (.tmp rfl) .nil)) ⟨rfl,rfl⟩)
 refine ab.skip (Fin.af ⟨[(4,_),(5,_),(7,_),(8,_),(9,_),(10,_)],[(103,_),(104,_)]⟩ rfl (Fin.then (ab.seq (ab.aa ?_))))
 refine Oc om (Oc (lp bK) ?_)
 obtain⟨u,e8,h4⟩:=aH h4
 refine Oc (ah (nf e8) FA rfl rfl) (Oc (aX (k:=105) (es:=[u].map eS) dX rfl rfl (cg fun _=>rfl) rfl (by decide) (by decide) rfl) ?_)
 obtain⟨m,e9,h4⟩:=aH h4
 refine Oc (eV dX (oo e9) (oi e9) rfl rfl rfl rfl (jj e9) rfl) (Oc oa (ae.ag ⟨[(4,_),(5,_),(8,_),(9,_),(10,_)],[(103,.row 9 1 (m.map eS))]⟩ rfl (ab.aa (Oc om (Oc om (Oc om (Oc (oJ nB rfl rfl (List.length_map _)) ?_)))))))
 refine ae.cJ .i64 h4 rfl (bW rfl rfl) (fun o h4=>?_)
 obtain⟨y,e10,h4⟩:=aH h4
 refine Oc (fO dX (aR e10) (mK e10) rfl rfl rfl rfl) (ae.af ⟨[(4,_),(5,_),(8,_),(9,_),(10,_),(22,I a),(27,.b (.nh 103 ((o:Int).toNat*1)))],[(103,_)]⟩ rfl (Oc (jX (i:=(o:Int).toNat) (f:=0) b7 rfl rfl rfl (cu (e:=eS) e10) rfl) (Oc (bh cb rfl) ?_)))
 refine ae.cJ .i64 h4 rfl (aL rfl rfl) (fun q h4=>?_)
 refine Oc (aL rfl rfl) (Oc oa (ae.nil (Fin.aA (Fin.af ⟨[(4,_),(5,I (i64.wrap (a+q))),(8,_),(9,_),(10,_)],[(103,_)]⟩ rfl (Fin.then (ab.aa ?_))))))
 refine Oc (aL rfl rfl) (Oc om (ae.nil ?_))
 exact Fin.bB [4,5,8,9,10] [103] (m,i64.wrap (a+q),i64.wrap (j+1)) (zaa h4) rfl
 refine ab.exit (Fin.aw ?_)
 obtain rfl:=hy5 _ (zaa h4).symm
 refine Fin.aw (Fin.aJ ?_)
 exact Fin.join [4,5] [103] (c,a) rfl rfl
 rintro⟨g,d⟩ hv
 subst v1
 refine ab.seq (ab.seq (ab.aa ?_))
 refine Oc om (Oc (dy rfl rfl) (ae.ag ⟨[(4,_),(34,B (decide (100000<d)))],[(103,_)]⟩ rfl (ab.ite h rfl (fun _ h=>?_) (fun _ h=>?_))))
 refine ab.seq (ab.aa ?_)
 refine Oc oa (Oc oa (ae.ag ⟨[(2,.b (.one (.str []))),(3,I 2)],[]⟩ rfl (ab.ret (Fin.ay ?_))))
 obtain rfl:=zaa h
 refine Fin.af ⟨[(2,_),(3,_)],[]⟩ rfl (Fin.au [.one (.str []),.one (.i 2)] (.inl rfl) rfl (.cons (.tmp rfl) (.cons (.tmp rfl) .nil)) ⟨rfl,rfl⟩)
 refine ab.skip (Fin.af ⟨[(4,_)],[(103,_)]⟩ rfl (Fin.then (ab.seq (ab.aa ?_))))
 refine Oc om ?_
 obtain⟨t,e11,h⟩:=aH h
 refine Oc (gL (uk e11) goes28 rfl CP.Ae) (Oc oa (Oc oa (ae.ag ⟨[(2,.b (.one (.str t))),(3,I 0)],[]⟩ rfl (ab.ret ?_))))
 obtain rfl:=zaa h
 refine Fin.af ⟨[(2,_),(3,_)],[]⟩ rfl (Fin.au [.one (.str t),.one (.i 0)] (.inl rfl) rfl (.cons (.tmp rfl) (.cons (.tmp rfl) .nil)) ⟨rfl,rfl⟩)
def fe (F:Nat) (s0:Str) (c0:Int):Option Int :=
 Option.bind (bA (i64.wrap ((s0.length:Int)-1)) fun c=>iter F (fun a=>if (decide (0<=a))=true then ((aS s0 a).bind fun d=>if (decide ((d.toNat:Int)=c0))=true then (some (.inr (.inr a))) else (some (.inl (i64.wrap (a-1))))) else (some (.inr (.inl ())))) c) (cW (fun _=>some (-1)) (fun y=>some y))
theorem kQ {F:Nat} {s0:Str} {c0 r:Int} (h:fe F s0 c0=some r):ax prog (bd mx) 114 [] [.one (.str s0),.one (.int .u8 c0)] (Is [] (.b (.one (.i r)))):=by
 unfold fe at h
 refine ax.intro 19 Tryz.func114 Tryz.ntmps114 rfl (by simp) fun E=>(ab.seq (ab.aa ?_))
 refine Oc oa (ae.ag ⟨[(0,.b (.one (.str s0))),(1,.b (.one (.int .u8 c0)))],[]⟩ rfl ?_)
 obtain⟨v1,h2,h⟩:=aH h
 refine ab.bR (v:=v1) (fun (_:Unit)=>⟨[],[]⟩) (fun z=>.inl z) ?_ ?_
 refine ab.seq (ab.aa ?_)
 refine Oc om (Oc (bh cb rfl) ?_)
 refine ae.cJ .i64 h2 rfl (bW rfl rfl) (fun c h2=>?_)
 refine Oc oa (ae.ag ⟨[(0,_),(1,_),(5,I c)],[]⟩ rfl (ab.block (ab.cx h2 (fun (a:Int)=>⟨[(0,.b (.one (.str s0))),(1,.b (.one (.int .u8 c0))),(5,I a)],[]⟩) [0,1,5] [] rfl ?_)))
 rintro a o3 h4 hy5
 refine ab.seq (ab.seq (ab.aa ?_))
 refine Oc om (Oc (gf rfl rfl) (ae.ag ⟨[(0,_),(1,_),(5,_),(10,B (decide (0<=a)))],[]⟩ rfl (ab.ite h4 rfl (fun _ h4=>?_) (fun _ h4=>?_))))
 refine ab.skip (Fin.af ⟨[(0,_),(1,_),(5,_)],[]⟩ rfl (Fin.then (ab.seq (ab.block (ab.seq (ab.aa ?_))))))
 refine Oc om (Oc om ?_)
 obtain⟨d,e6,h4⟩:=aH h4
 refine Oc (aV cb rfl rfl (aR e6) (cF e6)) (Oc om (Oc (b8 rfl rfl) (ae.ag ⟨[(0,_),(1,_),(5,_),(17,B (decide ((d.toNat:Int)=c0)))],[]⟩ rfl (ab.ite h4 rfl (fun _ h4=>?_) (fun _ h4=>?_)))))
 refine ab.seq (ab.aa ?_)
 refine Oc om (Oc oa (ae.ag ⟨[(4,I a)],[]⟩ rfl (ab.ret (Fin.bc (Fin.ay ?_)))))
 obtain rfl:=hy5 _ (zaa h4).symm
 refine Fin.ay (Fin.bc (Fin.ay ?_))
 obtain rfl:=zaa h
 refine Fin.af ⟨[(4,_)],[]⟩ rfl (Fin.au [.one (.i a)] (.inl rfl) rfl (.cons (.tmp rfl) .nil) ⟨rfl,rfl⟩)
 refine ab.skip (Fin.aA (Fin.af ⟨[(0,_),(1,_),(5,_)],[]⟩ rfl (Fin.then (ab.aa ?_))))
 refine Oc om (Oc (bW rfl rfl) (Oc oa (ae.nil ?_)))
 exact Fin.bB [0,1,5] [] (i64.wrap (a-1)) (zaa h4) rfl
 refine ab.exit (Fin.aw ?_)
 obtain rfl:=hy5 _ (zaa h4).symm
 refine Fin.aw (Fin.aJ ?_)
 exact Fin.join [] [] () rfl rfl
 rintro _ hv
 subst v1
 refine ab.seq (ab.aa ?_)
 refine Oc oa (ae.ag ⟨[(4,I (-1))],[]⟩ rfl (ab.ret ?_))
 obtain rfl:=zaa h
 refine Fin.af ⟨[(4,_)],[]⟩ rfl (Fin.au [.one (.i (-1))] (.inl rfl) rfl (.cons (.tmp rfl) .nil) ⟨rfl,rfl⟩)
def gR (F:Nat) (s0:Str) (c0:Int):Option Int :=
 (fe F s0 c0).bind fun a=>some a
theorem ng {F:Nat} {s0:Str} {c0 r:Int} (h:gR F s0 c0=some r):ax prog (bd mx) 55 [] [.one (.str s0),.one (.int .u8 c0)] (Is [] (.b (.one (.i r)))):=by
 unfold gR at h
 refine ax.intro 8 Tryz.func55 Tryz.ntmps55 rfl (by simp) fun E=>(ab.seq (ab.aa ?_))
 refine Oc oa (ae.ag ⟨[(0,.b (.one (.str s0))),(1,.b (.one (.int .u8 c0)))],[]⟩ rfl (ab.seq (ab.aa ?_)))
 refine Oc om (Oc om ?_)
 obtain⟨a,e1,h⟩:=aH h
 refine Oc (ah (kQ e1) goes114 rfl rfl) (Oc oa (ae.ag ⟨[(4,I a)],[]⟩ rfl (ab.ret ?_)))
 obtain rfl:=zaa h
 refine Fin.af ⟨[(4,_)],[]⟩ rfl (Fin.au [.one (.i a)] (.inl rfl) rfl (.cons (.tmp rfl) .nil) ⟨rfl,rfl⟩)
def n4 (F:Nat) (s0:Str) (at0:Int):Option (Int×Int) :=
 if ((decide (at0<0))||(decide ((s0.length:Int)<at0)))=true then (some (0,0)) else ((tf s0 at0).bind fun a=>(gj F a [10]).bind fun c=>(tf s0 at0).bind fun d=>(gR F d 10).bind fun e=>some (i64.wrap (1+c),i64.wrap (at0-e)))
theorem uZ {F:Nat} {s0:Str} {at0:Int} {r:Int×Int} (h:n4 F s0 at0=some r):ax prog (bd mx) 23 [] [.one (.str s0),.one (.i at0)] (Is [] (.gS [.one (.i r.1),.one (.i r.2)])):=by
 unfold n4 at h
 refine ax.intro 25 Tryz.func23 Tryz.ntmps23 rfl (by simp) fun E=>(ab.seq (ab.aa ?_))
 refine Oc oa (Oc oa (ae.ag ⟨[(0,.b (.one (.str s0))),(1,I at0)],[]⟩ rfl (ab.seq (ab.seq (ab.aa ?_)))))
 refine Oc om (Oc (bt rfl rfl) (Oc om ?_))
 refine dD (!(decide (at0<0))) [] (fun g1=>trivial) (fun g1=>om) (dD (!(decide (at0<0))) [] (fun g2=>by exact trivial) (fun g2=>om) (dD (!(decide (at0<0))) [10] (fun g3=>by exact⟨g3,trivial⟩) (fun g3=>bh cb rfl) (dD (!(decide (at0<0))) [9,11] (fun g4=>by exact⟨g4,g4,trivial⟩) (fun g4=>dy rfl rfl) (Oc (aW (fun e=>by first|(rw[e];rfl)|(simp only at e;rw[e];rfl)) rfl rfl rfl rfl) (ae.ag ⟨[(0,_),(1,_),(13,B ((decide (at0<0))||(decide ((s0.length:Int)<at0))))],[]⟩ rfl (ab.ite h rfl (fun _ h=>?_) (fun _ h=>?_)))))))
 refine ab.seq (ab.aa ?_)
 refine Oc oa (Oc oa (ae.ag ⟨[(4,I 0),(5,I 0)],[]⟩ rfl (ab.ret (Fin.ay ?_))))
 obtain rfl:=zaa h
 refine Fin.af ⟨[(4,_),(5,_)],[]⟩ rfl (Fin.au [.one (.i 0),.one (.i 0)] (.inl rfl) rfl (.cons (.tmp rfl) (.cons (.tmp rfl) .nil)) ⟨rfl,rfl⟩)
 refine ab.skip (Fin.af ⟨[(0,_),(1,_)],[]⟩ rfl (Fin.then (ab.seq (ab.af ⟨[(0,_),(1,_)],[]⟩ rfl ?_))))
 obtain⟨d,e5,h⟩:=aH h
 obtain⟨a,e6,h⟩:=aH h
 obtain⟨f,e7,h⟩:=aH h
 obtain⟨c,e8,h⟩:=aH h
 refine ab.bN mixed 13 [.b (.one (.str s0)),I at0,.b (.one (.str d)),I a,I (i64.wrap (1+a)),I at0,.b (.one (.str s0)),I at0,.b (.one (.str f)),I c,I (i64.wrap (at0-c)),I (i64.wrap (1+a)),I (i64.wrap (at0-c))] [4,5] [] (s':=⟨[(4,I (i64.wrap (1+a))),(5,I (i64.wrap (at0-c)))],[]⟩) rfl ⟨fun _=>.p om,fun _=>.p om,fun _=>.p (ri cb e5 rfl rfl),fun _=>.p (ah (mZ e6) Fj rfl rfl),fun _=>.p (aL rfl rfl),fun _=>.p om,fun _=>.p om,fun _=>.p om,fun _=>.p (ri cb e7 rfl rfl),fun _=>.p (ah (ng e8) goes55 rfl rfl),fun _=>.p (bW rfl rfl),fun _=>.p oa,fun _=>.p oa,trivial⟩ rfl rfl (ab.ret ?_)
 obtain rfl:=zaa h
 refine Fin.af ⟨[(4,_),(5,_)],[]⟩ rfl (Fin.au [.one (.i (i64.wrap (1+a))),.one (.i (i64.wrap (at0-c)))] (.inl rfl) rfl (.cons (.tmp rfl) (.cons (.tmp rfl) .nil)) ⟨rfl,rfl⟩)
def wS (F:Nat) (a0:Int) (b0:Int):Option s9 :=
 (kq F a0).bind fun a=>(kq F b0).bind fun c=>(mQ F a c).bind fun d=>some d
theorem AF {F:Nat} {a0 b0:Int} {r:s9} (h:wS F a0 b0=some r):ax prog (bd mx) 24 [] [.one (.i a0),.one (.i b0)] (Is [] (.b (.agg (km r)))):=by
 unfold wS at h
 refine ax.intro 10 Tryz.func24 Tryz.ntmps24 rfl (by simp) fun E=>(ab.seq (ab.aa ?_))
 refine Oc (aF (k:=101) lM rfl) (ae.ag ⟨[(0,I a0),(1,I b0),(4,Pt 101 0)],[(101,.box 37 wh)]⟩ rfl (ab.seq (ab.aa ?_)))
 refine Oc om ?_
 obtain⟨c,e1,h⟩:=aH h
 refine Oc (ah (jl e1) pa rfl rfl) (Oc om (ae.af ⟨[(4,_),(6,.b (.agg (az c))),(7,I b0)],[(101,_)]⟩ rfl ?_))
 obtain⟨d,e2,h⟩:=aH h
 refine Oc (ah (jl e2) pa rfl rfl) ?_
 obtain⟨a,e3,h⟩:=aH h
 refine Oc (ah (vp e3) Fw rfl rfl) (Oc (an dM rfl rfl rfl rfl (zab rfl) rfl) (ae.ag ⟨[(4,_)],[(101,.box 37 (km a))]⟩ rfl (ab.ret ?_)))
 obtain rfl:=zaa h
 refine Fin.af ⟨[(4,_)],[(101,_)]⟩ rfl (Fin.au [.agg (km a)] (.inl rfl) rfl (.cons (.agg dM rfl rfl rfl rfl) .nil) ⟨rfl,rfl⟩)
def dC (F:Nat):Option Bool :=
 Option.bind (cI F [109,111,118,101,32,98,49,32,116,111,32,50,46,53,48,32,109,59]) (bQ fun c g=>(aT (!(decide (g≠(⟨0,0⟩:Problem)))) (gy F c [(⟨2,0,[109,111,118,101]⟩:Token),(⟨2,0,[98,49]⟩:Token),(⟨1,0,[116,111]⟩:Token),(⟨3,0,[50,46,53,48]⟩:Token),(⟨2,0,[109]⟩:Token),(⟨5,0,[59]⟩:Token)])).bind fun al=>bA (((decide (g≠(⟨0,0⟩:Problem)))||(!al))||(decide ((c.length:Int)≠6))) fun h=>(aT (!h) (aS c 3)).bind fun am=>if (h||(decide (am.At≠11)))=true then (some false) else ((aS c 3).bind fun ap=>Option.bind (dZ F ap) (bQ fun j k=>Option.bind (cI F [97,46,46,98,32,35,32,99]) (bQ fun be d=>Option.bind (cI F [48,48,55]) (bQ fun bi m=>Option.bind (cI F [51,109]) (bQ fun bk o=>Option.bind (cI F [120,32,63]) (bQ fun bl q=>Option.bind (cI F [34,97]) (bQ fun bo r=>bA (⟨4,0,[115,97,121,32,34,120,34]⟩:Token) fun t=>Option.bind (jt F [(⟨2,0,[97]⟩:Token),t]) (bQ fun u v=>Option.bind (n4 F [97,10,98,99] 3) (bQ fun w x=>(wS F 5 2).bind fun e=>(aT (((decide (j=e))&&(decide (k=0)))&&(decide (d=(⟨0,0⟩:Problem)))) (gy F be [(⟨2,0,[97]⟩:Token),(⟨5,0,[46,46]⟩:Token),(⟨2,0,[98]⟩:Token)])).bind fun y=>bA ((decide (m=(⟨0,281⟩:Problem)))&&(decide (o=(⟨0,281⟩:Problem)))) fun z=>bA ((z&&(decide (q=(⟨2,280⟩:Problem))))&&(decide (r=(⟨0,280⟩:Problem)))) fun ac=>bA ((((decide (j=e))&&(decide (k=0)))&&(decide (d=(⟨0,0⟩:Problem))))&&y) fun ad=>bA ((ad&&ac)&&(decide (u=[97,32,34,115,97,121,32,92,34,120,92,34,34]))) fun ai=>bA (((ai&&(decide (v=0)))&&(decide (w=2)))&&(decide (x=2))) fun a=>(aT a (fw F [121,97,114,100])).bind fun f=>(aT (a&&f) (fw F [121,97,114,100,115])).bind fun ak=>some ((a&&f)&&(!ak))))))))))))
theorem jB {F:Nat} {r:Bool} (h:dC F=some r):ax prog (bd mx) 8 [] [] (Is [] (.b (.one (.bool r)))):=by
 unfold dC at h
 refine ax.intro 157 Tryz.func8 Tryz.ntmps8 rfl (by simp) fun E=>(ab.seq (ab.aa ?_))
 refine Oc oa (ae.ag ⟨[],[]⟩ rfl (ab.seq (ab.aa ?_)))
 obtain⟨⟨am,g⟩,e1,h⟩:=aH h
 refine Oc (ah (ed e1) sO rfl rfl) (Oc om (Oc (aG rfl rfl) (Oc (aG rfl rfl) (ae.af ⟨[(24,.b (.one (.sl 3 (am.map aC)))),(25,.b (.agg (bP g)))],[]⟩ rfl (Oc (aF (k:=101) lL rfl) (Oc oa (Oc (an dA rfl rfl rfl rfl (zab rfl) rfl) (ae.ag ⟨[(1,.b (.one (.sl 3 (am.map aC)))),(2,Pt 101 0)],[(101,.box 46 (bP g))]⟩ rfl (ab.seq (ab.aa ?_))))))))))
 refine Oc (aU cz rfl rfl) (Oc (aU cz rfl rfl) (Oc (aU cz rfl rfl) (Oc (aU cz rfl rfl) (Oc (aU cz rfl rfl) (Oc (aU cz rfl rfl) ?_)))))
 refine Oc (aX (k:=102) (es:=[(⟨2,0,[109,111,118,101]⟩:Token),(⟨2,0,[98,49]⟩:Token),(⟨1,0,[116,111]⟩:Token),(⟨3,0,[50,46,53,48]⟩:Token),(⟨2,0,[109]⟩:Token),(⟨5,0,[59]⟩:Token)].map aC) fh rfl rfl (cg fun _=>rfl) rfl (by decide) (by decide) rfl) (Oc oa (ae.ag ⟨[(1,_),(2,_),(3,.b (.row 102))],[(101,_),(102,.row 31 3 ([(⟨2,0,[109,111,118,101]⟩:Token),(⟨2,0,[98,49]⟩:Token),(⟨1,0,[116,111]⟩:Token),(⟨3,0,[50,46,53,48]⟩:Token),(⟨2,0,[109]⟩:Token),(⟨5,0,[59]⟩:Token)].map aC))]⟩ rfl (ab.seq (ab.seq (ab.aa ?_)))))
 refine Oc (lp dA) (Oc (aU gP rfl rfl) (Oc (lh (pE g (⟨0,0⟩:Problem)) rfl rfl rE) (Oc om ?_)))
 refine dD (!(decide (g≠(⟨0,0⟩:Problem)))) [] (fun g2=>trivial) (fun g2=>om) (dD (!(decide (g≠(⟨0,0⟩:Problem)))) [] (fun g3=>by exact trivial) (fun g3=>om) (ae.af ⟨[(1,_),(36,B (decide (g≠(⟨0,0⟩:Problem)))),(37,.opt (!(decide (g≠(⟨0,0⟩:Problem)))) (.one (.sl 3 (am.map aC)))),(38,.opt (!(decide (g≠(⟨0,0⟩:Problem)))) (.row 102))],[(102,_)]⟩ rfl ?_))
 obtain⟨ak,e5,h⟩:=aH h
 refine dD (!(decide (g≠(⟨0,0⟩:Problem)))) [37,38] (fun g4=>⟨g4,g4,trivial⟩) (fun g4=>gL (kh (gc e5 g4)) FC rfl CP.gi) (dD (!(decide (g≠(⟨0,0⟩:Problem)))) [39] (fun g6=>⟨g6,trivial⟩) (fun g6=>cc rfl) (Oc (aW (fun e=>by first|(rw[e];rfl)|(simp only at e;rw[e];rfl)) rfl rfl rfl rfl) (Oc om ?_)))
 refine dD (!((decide (g≠(⟨0,0⟩:Problem)))||(!ak))) [] (fun g7=>trivial) (fun g7=>om) (dD (!((decide (g≠(⟨0,0⟩:Problem)))||(!ak))) [43] (fun g8=>by exact⟨g8,trivial⟩) (fun g8=>ba qa rfl (List.length_map _)) (dD (!((decide (g≠(⟨0,0⟩:Problem)))||(!ak))) [44] (fun g9=>by exact⟨g9,trivial⟩) (fun g9=>dd rfl rfl) (ae.af ⟨[(1,_),(42,B ((decide (g≠(⟨0,0⟩:Problem)))||(!ak))),(45,.opt (!((decide (g≠(⟨0,0⟩:Problem)))||(!ak))) (.one (.bool (decide ((am.length:Int)≠6)))))],[]⟩ rfl (ae.il h rfl (aW (fun e=>by first|(rw[e];rfl)|(simp only at e;rw[e];rfl)) rfl rfl rfl rfl) (fun ai h=>?_)))))
 refine Oc om (dD (!ai) [] (fun g10=>by exact trivial) (fun g10=>om) ?_)
 obtain⟨b0,e12,h⟩:=aH h
 refine dD (!ai) [48] (fun g11=>⟨g11,trivial⟩) (fun g11=>bm fh (aR (gc e12 g11)) (cu (e:=aC) (gc e12 g11)) rfl rfl) (dD (!ai) [49] (fun g13=>⟨g13,trivial⟩) (fun g13=>fk x6 rfl rfl) (dD (!ai) [50] (fun g14=>⟨g14,trivial⟩) (fun g14=>bg bI rfl rfl) (dD (!ai) [51] (fun g15=>⟨g15,trivial⟩) (fun g15=>dd rfl rfl) (Oc (aW (fun e=>by first|(rw[e];rfl)|(simp only at e;rw[e];rfl)) rfl rfl rfl rfl) (ae.ag ⟨[(1,_),(53,B (ai||(decide (b0.At≠11))))],[]⟩ rfl (ab.ite h rfl (fun _ h=>?_) (fun _ h=>?_)))))))
 refine ab.seq (ab.aa ?_)
 refine Oc oa (ae.ag ⟨[(0,B false)],[]⟩ rfl (ab.ret (Fin.ay ?_)))
 obtain rfl:=zaa h
 refine Fin.af ⟨[(0,_)],[]⟩ rfl (Fin.au [.one (.bool false)] (.inl rfl) rfl (.cons (.tmp rfl) .nil) ⟨rfl,rfl⟩)
 refine ab.skip (Fin.af ⟨[(1,_)],[]⟩ rfl (Fin.then (ab.seq (ab.aa ?_))))
 refine Oc om ?_
 obtain⟨b1,e16,h⟩:=aH h
 refine Oc (bm fh (aR e16) (cu (e:=aC) e16) rfl rfl) (Oc (j8 bK rfl rfl rfl) ?_)
 obtain⟨⟨c,f⟩,e17,h⟩:=aH h
 refine Oc (ah (oN e17) FD rfl rfl) (Oc om (ae.af ⟨[(54,.gS [.agg (km c),.one (.i f)])],[]⟩ rfl (Oc (aG rfl rfl) (Oc (aG rfl rfl) (Oc (aF (k:=103) lM rfl) (Oc (an dM rfl rfl rfl rfl (zab rfl) rfl) (Oc oa (ae.ag ⟨[(4,Pt 103 0),(5,I f)],[(103,.box 37 (km c))]⟩ rfl (ab.seq (ab.aa ?_))))))))))
 obtain⟨⟨be,d⟩,e18,h⟩:=aH h
 refine Oc (ah (ed e18) sO rfl rfl) (Oc om (Oc (aG rfl rfl) (Oc (aG rfl rfl) (ae.af ⟨[(4,_),(5,_),(63,.b (.one (.sl 3 (be.map aC)))),(64,.b (.agg (bP d)))],[(103,_)]⟩ rfl (Oc (aF (k:=104) lL rfl) (Oc oa (Oc (an dA rfl rfl rfl rfl (zab rfl) rfl) (ae.ag ⟨[(4,_),(5,_),(6,.b (.one (.sl 3 (be.map aC)))),(7,Pt 104 0)],[(103,_),(104,.box 46 (bP d))]⟩ rfl (ab.seq (ab.aa ?_))))))))))
 obtain⟨⟨bi,j⟩,e19,h⟩:=aH h
 refine Oc (ah (ed e19) sO rfl rfl) (Oc om (Oc (aG rfl rfl) (Oc (aG rfl rfl) (ae.af ⟨[(4,_),(5,_),(6,_),(7,_),(67,.b (.one (.sl 3 (bi.map aC)))),(68,.b (.agg (bP j)))],[(103,_),(104,_)]⟩ rfl (Oc (aF (k:=105) lL rfl) (Oc oa (Oc (an dA rfl rfl rfl rfl (zab rfl) rfl) (ae.ag ⟨[(4,_),(5,_),(6,_),(7,_),(9,Pt 105 0)],[(103,_),(104,_),(105,.box 46 (bP j))]⟩ rfl (ab.seq (ab.aa ?_))))))))))
 obtain⟨⟨bk,x⟩,e20,h⟩:=aH h
 refine Oc (ah (ed e20) sO rfl rfl) (Oc om (Oc (aG rfl rfl) (Oc (aG rfl rfl) (ae.af ⟨[(4,_),(5,_),(6,_),(7,_),(9,_),(71,.b (.one (.sl 3 (bk.map aC)))),(72,.b (.agg (bP x)))],[(103,_),(104,_),(105,_)]⟩ rfl (Oc (aF (k:=106) lL rfl) (Oc oa (Oc (an dA rfl rfl rfl rfl (zab rfl) rfl) (ae.ag ⟨[(4,_),(5,_),(6,_),(7,_),(9,_),(11,Pt 106 0)],[(103,_),(104,_),(105,_),(106,.box 46 (bP x))]⟩ rfl (ab.seq (ab.aa ?_))))))))))
 obtain⟨⟨bl,m⟩,e21,h⟩:=aH h
 refine Oc (ah (ed e21) sO rfl rfl) (Oc om (Oc (aG rfl rfl) (Oc (aG rfl rfl) (ae.af ⟨[(4,_),(5,_),(6,_),(7,_),(9,_),(11,_),(75,.b (.one (.sl 3 (bl.map aC)))),(76,.b (.agg (bP m)))],[(103,_),(104,_),(105,_),(106,_)]⟩ rfl (Oc (aF (k:=107) lL rfl) (Oc oa (Oc (an dA rfl rfl rfl rfl (zab rfl) rfl) (ae.ag ⟨[(4,_),(5,_),(6,_),(7,_),(9,_),(11,_),(13,Pt 107 0)],[(103,_),(104,_),(105,_),(106,_),(107,.box 46 (bP m))]⟩ rfl (ab.seq (ab.aa ?_))))))))))
 obtain⟨⟨bo,y⟩,e22,h⟩:=aH h
 refine Oc (ah (ed e22) sO rfl rfl) (Oc om (Oc (aG rfl rfl) (Oc (aG rfl rfl) (ae.af ⟨[(4,_),(5,_),(6,_),(7,_),(9,_),(11,_),(13,_),(79,.b (.one (.sl 3 (bo.map aC)))),(80,.b (.agg (bP y)))],[(103,_),(104,_),(105,_),(106,_),(107,_)]⟩ rfl (Oc (aF (k:=108) lL rfl) (Oc oa (Oc (an dA rfl rfl rfl rfl (zab rfl) rfl) (ae.ag ⟨[(4,_),(5,_),(6,_),(7,_),(9,_),(11,_),(13,_),(15,Pt 108 0)],[(103,_),(104,_),(105,_),(106,_),(107,_),(108,.box 46 (bP y))]⟩ rfl (ab.seq (ab.aa ?_))))))))))
 refine Oc (aU cz rfl rfl) (ae.qd aC h rfl (aU cz rfl rfl) (fun bs h=>?_))
 refine Oc (aX (k:=109) (es:=[(⟨2,0,[97]⟩:Token),bs].map aC) fh rfl rfl (cg fun _=>rfl) rfl (by decide) (by decide) rfl) ?_
 obtain⟨⟨al,o⟩,e23,h⟩:=aH h
 refine Oc (gL (qf e23) goes9 rfl (Ad ⟨CP.Ae,CP.eT,trivial⟩)) (ae.af ⟨[(4,_),(5,_),(6,_),(7,_),(9,_),(11,_),(13,_),(15,_),(85,.gS [.one (.str al),.one (.i o)])],[(103,_),(104,_),(105,_),(106,_),(107,_),(108,_)]⟩ rfl (Oc om (Oc (aG rfl rfl) (Oc (aG rfl rfl) (Oc oa (Oc oa (ae.ag ⟨[(4,_),(5,_),(6,_),(7,_),(9,_),(11,_),(13,_),(15,_),(16,.b (.one (.str al))),(17,I o)],[(103,_),(104,_),(105,_),(106,_),(107,_),(108,_)]⟩ rfl (ab.seq (ab.aa ?_)))))))))
 obtain⟨⟨z,bw⟩,e24,h⟩:=aH h
 refine Oc (ah (uZ e24) goes23 rfl rfl) (Oc om (Oc (aG rfl rfl) (Oc (aG rfl rfl) (Oc oa (Oc oa (ae.ag ⟨[(4,_),(5,_),(6,_),(7,_),(9,_),(11,_),(13,_),(15,_),(16,_),(17,_),(18,I z),(19,I bw)],[(103,_),(104,_),(105,_),(106,_),(107,_),(108,_)]⟩ rfl (ab.seq ?_)))))))
 obtain⟨a,e25,h⟩:=aH h
 obtain⟨ac,e37,h⟩:=aH h
 refine ab.bN mixed 21 ((fun z_=>[.b (.agg (km c)),.b (.agg (km a)),B (decide (c=a)),B (decide (c=a)),.opt (decide (c=a)) (.one (.i f)),.opt (decide (c=a)) (.one (.bool (decide (f=0)))),B ((decide (c=a))&&(decide (f=0))),B ((decide (c=a))&&(decide (f=0))),.opt ((decide (c=a))&&(decide (f=0))) (.agg (bP d)),.opt ((decide (c=a))&&(decide (f=0))) (.agg [.i 0,.i 0]),.opt ((decide (c=a))&&(decide (f=0))) (.one (.bool (decide (d=(⟨0,0⟩:Problem))))),B (((decide (c=a))&&(decide (f=0)))&&(decide (d=(⟨0,0⟩:Problem)))),B (((decide (c=a))&&(decide (f=0)))&&(decide (d=(⟨0,0⟩:Problem)))),.opt z_ (.one (.sl 3 (be.map aC))),.opt z_ (.agg [.i 2,.i 0,.str [97]]),.opt z_ (.agg [.i 5,.i 0,.str [46,46]]),.opt z_ (.agg [.i 2,.i 0,.str [98]]),.opt z_ (.one (.sl 3 ([(⟨2,0,[97]⟩:Token),(⟨5,0,[46,46]⟩:Token),(⟨2,0,[98]⟩:Token)].map aC))),.opt z_ (.one (.bool ac)),B ((((decide (c=a))&&(decide (f=0)))&&(decide (d=(⟨0,0⟩:Problem))))&&ac),B ((((decide (c=a))&&(decide (f=0)))&&(decide (d=(⟨0,0⟩:Problem))))&&ac)]) (((decide (c=a))&&(decide (f=0)))&&(decide (d=(⟨0,0⟩:Problem))))) [9,11,13,15,16,17,18,19,20] [105,106,107,108] (s':=⟨[(9,_),(11,_),(13,_),(15,_),(16,_),(17,_),(18,_),(19,_),(20,B ((((decide (c=a))&&(decide (f=0)))&&(decide (d=(⟨0,0⟩:Problem))))&&ac))],[(105,_),(106,_),(107,_),(108,_)]⟩) rfl ⟨fun _=>.p (lp dM),fun _=>.p (ah (AF e25) goes24 rfl rfl),fun _=>.p (fP (Dq c a) rfl rfl),fun _=>.p om,fun _=>by exact .guard (decide (c=a)) 1 [] (.plain rfl) (cy _) rfl rfl (fun g26=>trivial) (fun g26=>om),fun _=>by exact .guard (decide (c=a)) 2 [96] (.plain rfl) (cy _) rfl rfl (fun g27=>⟨g27,trivial⟩) (fun g27=>b8 rfl rfl),fun _=>.p (aD (fun e=>e) rfl rfl rfl rfl),fun _=>.p om,fun _=>by exact .guard ((decide (c=a))&&(decide (f=0))) 1 [] (.plain rfl) (cy _) rfl rfl (fun g28=>trivial) (fun g28=>lp dA),fun _=>by exact .guard ((decide (c=a))&&(decide (f=0))) 1 [] (.plain rfl) (cy _) rfl rfl (fun g29=>trivial) (fun g29=>aU gP rfl rfl),fun _=>by exact .guard ((decide (c=a))&&(decide (f=0))) 3 [100,101] (.plain rfl) (cy _) rfl rfl (fun g30=>⟨g30,g30,trivial⟩) (fun g30=>fP (pE d (⟨0,0⟩:Problem)) rfl rfl),fun _=>.p (aD (fun e=>e) rfl rfl rfl rfl),fun _=>.p om,fun _=>by exact .guard (((decide (c=a))&&(decide (f=0)))&&(decide (d=(⟨0,0⟩:Problem)))) 1 [] (.plain rfl) (cy _) rfl rfl (fun g31=>trivial) (fun g31=>om),fun _=>by exact .guard (((decide (c=a))&&(decide (f=0)))&&(decide (d=(⟨0,0⟩:Problem)))) 1 [] (.plain rfl) (cy _) rfl rfl (fun g32=>trivial) (fun g32=>aU cz rfl rfl),fun _=>by exact .guard (((decide (c=a))&&(decide (f=0)))&&(decide (d=(⟨0,0⟩:Problem)))) 1 [] (.plain rfl) (cy _) rfl rfl (fun g33=>trivial) (fun g33=>aU cz rfl rfl),fun _=>by exact .guard (((decide (c=a))&&(decide (f=0)))&&(decide (d=(⟨0,0⟩:Problem)))) 1 [] (.plain rfl) (cy _) rfl rfl (fun g34=>trivial) (fun g34=>aU cz rfl rfl),fun _=>by exact .guard (((decide (c=a))&&(decide (f=0)))&&(decide (d=(⟨0,0⟩:Problem)))) 4 [106,107,108] (.plain rfl) (cy _) rfl rfl (fun g35=>⟨g35,g35,g35,trivial⟩) (fun g35=>mX (es:=[(⟨2,0,[97]⟩:Token),(⟨5,0,[46,46]⟩:Token),(⟨2,0,[98]⟩:Token)].map aC) fh rfl rfl (cg fun _=>rfl) rfl (by decide) (by decide)),fun _=>by exact .guard (((decide (c=a))&&(decide (f=0)))&&(decide (d=(⟨0,0⟩:Problem)))) 4 [105,109] (.plain rfl) (cy _) rfl rfl (fun g36=>⟨g36,g36,trivial⟩) (fun g36=>ah (kh (gc e37 g36)) FC rfl rfl),fun _=>.p (aD (fun e=>e) rfl rfl rfl rfl),fun _=>.p oa,trivial⟩ rfl rfl ?_
 refine ab.seq (ab.aa ?_)
 refine Oc (lp dA) (Oc (aU gP rfl rfl) (Oc (fP (pE j (⟨0,281⟩:Problem)) rfl rfl) (Oc om ?_)))
 refine cH (decide (j=(⟨0,281⟩:Problem))) [] (fun g38=>trivial) (fun g38=>lp dA) (cH (decide (j=(⟨0,281⟩:Problem))) [] (fun g39=>by exact trivial) (fun g39=>aU gP rfl rfl) (cH (decide (j=(⟨0,281⟩:Problem))) [116,117] (fun g40=>by exact⟨g40,g40,trivial⟩) (fun g40=>fP (pE x (⟨0,281⟩:Problem)) rfl rfl) (ae.af ⟨[(13,_),(15,_),(16,_),(17,_),(18,_),(19,_),(20,_),(115,B (decide (j=(⟨0,281⟩:Problem)))),(118,.opt (decide (j=(⟨0,281⟩:Problem))) (.one (.bool (decide (x=(⟨0,281⟩:Problem))))))],[(107,_),(108,_)]⟩ rfl (ae.il h rfl (aD (fun e=>e) rfl rfl rfl rfl) (fun q h=>?_)))))
 refine Oc om (cH q [] (fun g41=>by exact trivial) (fun g41=>lp dA) (cH q [] (fun g42=>by exact trivial) (fun g42=>aU gP rfl rfl) (cH q [121,122] (fun g43=>by exact⟨g43,g43,trivial⟩) (fun g43=>fP (pE m (⟨2,280⟩:Problem)) rfl rfl) (Oc (aD (fun e=>e) rfl rfl rfl rfl) (Oc om ?_)))))
 refine cH (q&&(decide (m=(⟨2,280⟩:Problem)))) [] (fun g44=>trivial) (fun g44=>lp dA) (ae.af ⟨[(16,_),(17,_),(18,_),(19,_),(20,_),(125,B (q&&(decide (m=(⟨2,280⟩:Problem))))),(126,.opt (q&&(decide (m=(⟨2,280⟩:Problem)))) (.agg (bP y)))],[]⟩ rfl (cH (q&&(decide (m=(⟨2,280⟩:Problem)))) [] (fun g45=>by exact trivial) (fun g45=>aU gP rfl rfl) (cH (q&&(decide (m=(⟨2,280⟩:Problem)))) [126,127] (fun g46=>by exact⟨g46,g46,trivial⟩) (fun g46=>fP (pE y (⟨0,280⟩:Problem)) rfl rfl) (ae.il h rfl (aD (fun e=>e) rfl rfl rfl rfl) (fun v h=>?_)))))
 refine Oc oa (ae.ag ⟨[(16,_),(17,_),(18,_),(19,_),(20,_),(21,B v)],[]⟩ rfl (ab.seq (ab.aa (ae.il h rfl om (fun w h=>?_)))))
 refine Oc om (cH w [] (fun g47=>by exact trivial) (fun g47=>om) (Oc (aD (fun e=>e) rfl rfl rfl rfl) (Oc om ?_)))
 refine cH (w&&v) [] (fun g48=>trivial) (fun g48=>om) (cH (w&&v) [135] (fun g49=>by exact⟨g49,trivial⟩) (fun g49=>iU rfl rfl) (ae.af ⟨[(17,_),(18,_),(19,_),(134,B (w&&v)),(136,.opt (w&&v) (.one (.bool (decide (al=[97,32,34,115,97,121,32,92,34,120,92,34,34])))))],[]⟩ rfl (ae.il h rfl (aD (fun e=>e) rfl rfl rfl rfl) (fun t h=>?_))))
 refine Oc om (cH t [] (fun g50=>by exact trivial) (fun g50=>om) (cH t [139] (fun g51=>by exact⟨g51,trivial⟩) (fun g51=>b8 rfl rfl) (Oc (aD (fun e=>e) rfl rfl rfl rfl) (Oc om ?_))))
 refine cH (t&&(decide (o=0))) [] (fun g52=>trivial) (fun g52=>om) (cH (t&&(decide (o=0))) [143] (fun g53=>by exact⟨g53,trivial⟩) (fun g53=>b8 rfl rfl) (ae.af ⟨[(19,_),(142,B (t&&(decide (o=0)))),(144,.opt (t&&(decide (o=0))) (.one (.bool (decide (z=2)))))],[]⟩ rfl (Oc (aD (fun e=>e) rfl rfl rfl rfl) (Oc om ?_))))
 refine cH ((t&&(decide (o=0)))&&(decide (z=2))) [] (fun g54=>trivial) (fun g54=>om) (cH ((t&&(decide (o=0)))&&(decide (z=2))) [147] (fun g55=>by exact⟨g55,trivial⟩) (fun g55=>b8 rfl rfl) (ae.il h rfl (aD (fun e=>e) rfl rfl rfl rfl) (fun u h=>?_)))
 refine Oc om (ae.af ⟨[(150,B u)],[]⟩ rfl ?_)
 obtain⟨ad,e57,h⟩:=aH h
 refine cH u [] (fun g56=>trivial) (fun g56=>ah (l5 (gc e57 g56)) Bx rfl rfl) (Oc (aD (fun e=>e) rfl rfl rfl rfl) (Oc om ?_))
 obtain⟨ap,e59,h⟩:=aH h
 refine cH (u&&ad) [] (fun g58=>trivial) (fun g58=>ah (l5 (gc e59 g58)) Bx rfl rfl) (cH (u&&ad) [154] (fun g60=>⟨g60,trivial⟩) (fun g60=>cc rfl) (Oc (aD (fun e=>e) rfl rfl rfl rfl) (Oc oa (ae.ag ⟨[(0,B ((u&&ad)&&(!ap)))],[]⟩ rfl (ab.ret ?_)))))
 obtain rfl:=zaa h
 refine Fin.af ⟨[(0,_)],[]⟩ rfl (Fin.au [.one (.bool ((u&&ad)&&(!ap)))] (.inl rfl) rfl (.cons (.tmp rfl) .nil) ⟨rfl,rfl⟩)
def dq (F:Nat) (t0:Token):Option Str :=
 if (decide (t0.Kind≠4))=true then (some t0.S) else (Option.bind (iter F (bQ fun a c=>if (decide (c<(t0.S.length:Int)))=true then (Option.bind (Option.bind ((aS t0.S c).bind fun g=>(aT (!(decide ((g.toNat:Int)=34))) (aS t0.S c)).bind fun o=>bA ((decide ((g.toNat:Int)=34))||(decide ((o.toNat:Int)=92))) fun q=>if q=true then ((gU a [92]).bind fun h=>some h) else (some a)) (fun d=>Option.bind (vF t0.S c (i64.wrap (c+1))) (fun j=>(gU d j).bind fun k=>some k))) (fun e=>some (.inl (e,i64.wrap (c+1))))) else (some (.inr a))) ([34],0)) (fun f=>(gU f [34]).bind fun m=>some m))
theorem jc {F:Nat} {t0:Token} {r:Str} (h:dq F t0=some r):ax prog (bd mx) 30 [] [.agg (aC t0)] (Is [] (.b (.one (.str r)))):=by
 unfold dq at h
 refine ax.intro 41 Tryz.func30 Tryz.ntmps30 rfl (by simp) fun E=>(ab.seq (ab.aa ?_))
 refine Oc (bE (k:=101) rfl rfl) (Oc oa (ae.ag ⟨[(1,Pt 101 0)],[(101,.box 31 (aC t0))]⟩ rfl (ab.seq (ab.seq (ab.aa ?_)))))
 refine Oc (aj j7 rfl rfl) (Oc (ao bI rfl rfl rfl) (Oc (dd rfl rfl) (ae.ag ⟨[(1,_),(7,B (decide (t0.Kind≠4)))],[(101,_)]⟩ rfl (ab.ite h rfl (fun _ h=>?_) (fun _ h=>?_)))))
 refine ab.seq (ab.aa ?_)
 refine Oc (aj dS rfl rfl) (Oc (ao b7 rfl rfl rfl) (Oc oa (ae.ag ⟨[(2,.b (.one (.str t0.S)))],[]⟩ rfl (ab.ret (Fin.ay ?_)))))
 obtain rfl:=zaa h
 refine Fin.af ⟨[(2,_)],[]⟩ rfl (Fin.au [.one (.str t0.S)] (.inl rfl) rfl (.cons (.tmp rfl) .nil) ⟨rfl,rfl⟩)
 refine ab.skip (Fin.af ⟨[(1,_)],[(101,_)]⟩ rfl (Fin.then (ab.seq (ab.aa ?_))))
 refine Oc oa (ae.ag ⟨[(1,_),(3,.b (.one (.str [34])))],[(101,_)]⟩ rfl ?_)
 obtain⟨v1,h2,h⟩:=aH h
 refine ab.bR (v:=v1) (fun (g:Str)=>⟨[(3,.b (.one (.str g)))],[]⟩) (fun z=>z) ?_ ?_
 refine ab.seq (ab.aa ?_)
 refine Oc oa (ae.ag ⟨[(1,_),(3,_),(4,I 0)],[(101,_)]⟩ rfl (ab.block (ab.cx h2 (bQ fun (a:Str) (f:Int)=>⟨[(1,Pt 101 0),(3,.b (.one (.str a))),(4,I f)],[(101,.box 31 (aC t0))]⟩) [1,3,4] [101] rfl ?_)))
 rintro⟨a,f⟩ o3 h4 hy5
 refine ab.seq (ab.seq (ab.aa ?_))
 refine Oc om (Oc (aj dS rfl rfl) (Oc (ao b7 rfl rfl rfl) (Oc (bh cb rfl) (Oc (bt rfl rfl) (ae.ag ⟨[(1,_),(3,_),(4,_),(14,B (decide (f<(t0.S.length:Int))))],[(101,_)]⟩ rfl (ab.ite h4 rfl (fun _ h4=>?_) (fun _ h4=>?_)))))))
 refine ab.skip (Fin.af ⟨[(1,_),(3,_),(4,_)],[(101,_)]⟩ rfl (Fin.then ?_))
 obtain⟨v6,h7,h4⟩:=aH h4
 refine ab.bR (v:=v6) (fun (c:Str)=>⟨[(1,Pt 101 0),(3,.b (.one (.str c))),(4,I f)],[(101,.box 31 (aC t0))]⟩) (fun z=>z) ?_ ?_
 refine ab.block ?_
 obtain⟨v8,h9,h7⟩:=aH h7
 refine ab.bR (v:=v8) (fun (j:Str)=>⟨[(1,Pt 101 0),(3,.b (.one (.str j))),(4,I f)],[(101,.box 31 (aC t0))]⟩) (fun z=>z) ?_ ?_
 refine ab.seq (ab.aa ?_)
 refine Oc (aj dS rfl rfl) (Oc (ao b7 rfl rfl rfl) (Oc om ?_))
 obtain⟨d,e10,h9⟩:=aH h9
 refine Oc (aV cb rfl rfl (aR e10) (cF e10)) (Oc (b8 rfl rfl) (Oc om ?_))
 refine dD (!(decide ((d.toNat:Int)=34))) [] (fun g11=>trivial) (fun g11=>aj dS rfl rfl) (ae.af ⟨[(1,_),(3,_),(4,_),(22,B (decide ((d.toNat:Int)=34))),(23,.opt (!(decide ((d.toNat:Int)=34))) (.ptr 101 2))],[(101,_)]⟩ rfl (dD (!(decide ((d.toNat:Int)=34))) [23] (fun g12=>⟨g12,trivial⟩) (fun g12=>ao b7 rfl rfl rfl) (dD (!(decide ((d.toNat:Int)=34))) [] (fun g13=>trivial) (fun g13=>om) ?_)))
 obtain⟨w,e15,h9⟩:=aH h9
 refine dD (!(decide ((d.toNat:Int)=34))) [24,25] (fun g14=>⟨g14,g14,trivial⟩) (fun g14=>aV cb rfl rfl (aR (gc e15 g14)) (cF (gc e15 g14))) (dD (!(decide ((d.toNat:Int)=34))) [26] (fun g16=>⟨g16,trivial⟩) (fun g16=>b8 rfl rfl) (ae.il h9 rfl (aW (fun e=>by first|(rw[e];rfl)|(simp only at e;rw[e];rfl)) rfl rfl rfl rfl) (fun t h9=>(ae.ag ⟨[(1,_),(3,_),(4,_),(28,B t)],[(101,_)]⟩ rfl (ab.ite h9 rfl (fun _ h9=>?_) (fun _ h9=>?_))))))
 refine ab.aa (Oc om ?_)
 obtain⟨o,e17,h9⟩:=aH h9
 refine Oc (fE e17 rfl rfl) (Oc oa (ae.nil ?_))
 exact Fin.join [1,3,4] [101] o (zaa h9) rfl
 refine ab.skip ?_
 exact Fin.join [1,3,4] [101] a (zaa h9) rfl
 rintro j hv
 subst v8
 refine ab.aa (Oc om (Oc (aj dS rfl rfl) (Oc (ao b7 rfl rfl rfl) (Oc om (Oc om (Oc (aL rfl rfl) ?_))))))
 obtain⟨u,e18,h7⟩:=aH h7
 refine Oc (gx cb e18 rfl rfl rfl) ?_
 obtain⟨q,e19,h7⟩:=aH h7
 refine Oc (fE e19 rfl rfl) (Oc oa (ae.nil (Fin.aA ?_)))
 exact Fin.join [1,3,4] [101] q (zaa h7) rfl
 rintro c hv
 subst v6
 refine ab.aa (Oc om (Oc (aL rfl rfl) (Oc oa (ae.nil ?_))))
 exact Fin.bB [1,3,4] [101] (c,i64.wrap (f+1)) (zaa h4) rfl
 refine ab.exit (Fin.aw ?_)
 obtain rfl:=hy5 _ (zaa h4).symm
 refine Fin.aw (Fin.aJ ?_)
 exact Fin.join [3] [] a rfl rfl
 rintro g hv
 subst v1
 refine ab.seq (ab.aa ?_)
 refine Oc om ?_
 obtain⟨m,e20,h⟩:=aH h
 refine Oc (fE e20 rfl rfl) (Oc oa (ae.ag ⟨[(2,.b (.one (.str m)))],[]⟩ rfl (ab.ret ?_)))
 obtain rfl:=zaa h
 refine Fin.af ⟨[(2,_)],[]⟩ rfl (Fin.au [.one (.str m)] (.inl rfl) rfl (.cons (.tmp rfl) .nil) ⟨rfl,rfl⟩)
def dU (F:Nat) (s0:Str) (at0:Int):Option Int :=
 Option.bind (iter F (fun a=>if (decide (a<(s0.length:Int)))=true then ((aS s0 a).bind fun c=>Option.bind (if (decide ((c.toNat:Int)=32))=true then (some (decide ((c.toNat:Int)=32))) else (if (decide ((c.toNat:Int)=9))=true then (some (decide ((c.toNat:Int)=9))) else (if (decide ((c.toNat:Int)=10))=true then (some (decide ((c.toNat:Int)=10))) else (some (decide ((c.toNat:Int)=13)))))) (fun g=>if g=true then (some (.inl (i64.wrap (a+1)))) else (if (decide ((c.toNat:Int)=35))=true then (Option.bind (iter F (fun d=>(aT (decide (d<(s0.length:Int))) (aS s0 d)).bind fun h=>bA ((decide (d<(s0.length:Int)))&&(decide ((h.toNat:Int)≠10))) fun j=>if j=true then (some (.inl (i64.wrap (d+1)))) else (some (.inr d))) a) (fun e=>some (.inl e))) else (some (.inr (.inr a)))))) else (some (.inr (.inl a)))) at0) (cW (fun f=>some f) (fun y=>some y))
theorem kg {F:Nat} {s0:Str} {at0 r:Int} (h:dU F s0 at0=some r):ax prog (bd mx) 121 [] [.one (.str s0),.one (.i at0)] (Is [] (.b (.one (.i r)))):=by
 unfold dU at h
 refine ax.intro 35 Tryz.func121 Tryz.ntmps121 rfl (by simp) fun E=>(ab.seq (ab.aa ?_))
 refine Oc oa (ae.ag ⟨[(0,.b (.one (.str s0))),(1,I at0)],[]⟩ rfl ?_)
 obtain⟨v1,h2,h⟩:=aH h
 refine ab.bR (v:=v1) (fun (f:Int)=>⟨[(1,I f)],[]⟩) (fun z=>.inl z) ?_ ?_
 refine ab.block (ab.cx h2 (fun (c:Int)=>⟨[(0,.b (.one (.str s0))),(1,I c)],[]⟩) [0,1] [] rfl ?_)
 rintro c o3 h4 hy5
 refine ab.seq (ab.seq (ab.aa ?_))
 refine Oc om (Oc om (Oc (bh cb rfl) (Oc (bt rfl rfl) (ae.ag ⟨[(0,_),(1,_),(8,B (decide (c<(s0.length:Int))))],[]⟩ rfl (ab.ite h4 rfl (fun _ h4=>?_) (fun _ h4=>?_))))))
 refine ab.skip (Fin.af ⟨[(0,_),(1,_)],[]⟩ rfl (Fin.then (ab.block (ab.seq (ab.aa ?_)))))
 refine Oc om (Oc om ?_)
 obtain⟨d,e6,h4⟩:=aH h4
 refine Oc (aV cb rfl rfl (aR e6) (cF e6)) (ae.ag ⟨[(0,_),(1,_),(11,.b (.one (.int .u8 (d.toNat:Int))))],[]⟩ rfl (ab.block ?_))
 obtain⟨v7,h8,h4⟩:=aH h4
 refine ab.bR (v:=v7) (fun (g:Bool)=>⟨[(0,.b (.one (.str s0))),(1,I c),(11,.b (.one (.int .u8 (d.toNat:Int)))),(13,B g)],[]⟩) (fun z=>z) ?_ ?_
 refine ab.seq (ab.aa ?_)
 refine Oc (b8 rfl rfl) (Oc oa (ae.ag ⟨[(0,_),(1,_),(11,_),(13,B (decide ((d.toNat:Int)=32)))],[]⟩ rfl (ab.ite h8 rfl (fun _ h8=>?_) (fun _ h8=>?_))))
 refine ab.skip ?_
 exact Fin.join [0,1,11,13] [] (decide ((d.toNat:Int)=32)) (zaa h8) rfl
 refine ab.seq (ab.aa ?_)
 refine Oc (b8 rfl rfl) (Oc oa (ae.ag ⟨[(0,_),(1,_),(11,_),(13,B (decide ((d.toNat:Int)=9)))],[]⟩ rfl (ab.ite h8 rfl (fun _ h8=>?_) (fun _ h8=>?_))))
 refine ab.skip ?_
 exact Fin.join [0,1,11,13] [] (decide ((d.toNat:Int)=9)) (zaa h8) rfl
 refine ab.seq (ab.aa ?_)
 refine Oc (b8 rfl rfl) (Oc oa (ae.ag ⟨[(0,_),(1,_),(11,_),(13,B (decide ((d.toNat:Int)=10)))],[]⟩ rfl (ab.ite h8 rfl (fun _ h8=>?_) (fun _ h8=>?_))))
 refine ab.skip ?_
 exact Fin.join [0,1,11,13] [] (decide ((d.toNat:Int)=10)) (zaa h8) rfl
 refine ab.aa (Oc (b8 rfl rfl) (Oc oa (ae.nil ?_)))
 exact Fin.join [0,1,11,13] [] (decide ((d.toNat:Int)=13)) (zaa h8) rfl
 rintro g hv
 subst v7
 refine ab.ite h4 rfl (fun _ h4=>?_) (fun _ h4=>?_)
 refine ab.aa (Oc om (Oc (aL rfl rfl) (Oc oa (ae.nil (Fin.aA (Fin.aA ?_))))))
 exact Fin.bB [0,1] [] (i64.wrap (c+1)) (zaa h4) rfl
 refine ab.seq (ab.aa ?_)
 refine Oc (b8 rfl rfl) (Oc oa (ae.ag ⟨[(0,_),(1,_),(20,B (decide ((d.toNat:Int)=35)))],[]⟩ rfl (ab.ite h4 rfl (fun _ h4=>?_) (fun _ h4=>?_))))
 refine ab.block ?_
 obtain⟨v9,h10,h4⟩:=aH h4
 refine ab.cx h10 (fun (a:Int)=>⟨[(0,.b (.one (.str s0))),(1,I a)],[]⟩) [0,1] [] rfl ?_
 rintro a o11 h12 hy13
 refine ab.seq (ab.seq (ab.aa ?_))
 refine Oc om (Oc om (Oc (bh cb rfl) (Oc (bt rfl rfl) (Oc om ?_))))
 refine cH (decide (a<(s0.length:Int))) [] (fun g14=>trivial) (fun g14=>om) (ae.af ⟨[(0,_),(1,_),(26,B (decide (a<(s0.length:Int)))),(27,.opt (decide (a<(s0.length:Int))) (.one (.str s0)))],[]⟩ rfl (cH (decide (a<(s0.length:Int))) [] (fun g15=>by exact trivial) (fun g15=>om) ?_))
 obtain⟨k,e17,h12⟩:=aH h12
 refine cH (decide (a<(s0.length:Int))) [27,28] (fun g16=>⟨g16,g16,trivial⟩) (fun g16=>aV cb rfl rfl (aR (gc e17 g16)) (cF (gc e17 g16))) (cH (decide (a<(s0.length:Int))) [29] (fun g18=>⟨g18,trivial⟩) (fun g18=>dd rfl rfl) (ae.il h12 rfl (aD (fun e=>e) rfl rfl rfl rfl) (fun j h12=>(ae.ag ⟨[(0,_),(1,_),(31,B j)],[]⟩ rfl (ab.ite h12 rfl (fun _ h12=>?_) (fun _ h12=>?_))))))
 refine ab.skip (Fin.af ⟨[(0,_),(1,_)],[]⟩ rfl (Fin.then (ab.block (ab.aa ?_))))
 refine Oc om (Oc (aL rfl rfl) (Oc oa (ae.nil (Fin.aA ?_))))
 exact Fin.bB [0,1] [] (i64.wrap (a+1)) (zaa h12) rfl
 refine ab.exit (Fin.aw ?_)
 obtain rfl:=hy13 _ (zaa h12).symm
 refine Fin.aw (Fin.aJ (Fin.aA (Fin.aA ?_)))
 exact Fin.bB [0,1] [] a (zaa h4) rfl
 refine ab.seq (ab.aa ?_)
 refine Oc om (Oc oa (ae.ag ⟨[(4,I c)],[]⟩ rfl (ab.ret (Fin.bc (Fin.bc ?_)))))
 obtain rfl:=hy5 _ (zaa h4).symm
 refine Fin.ay (Fin.bc (Fin.ay ?_))
 obtain rfl:=zaa h
 refine Fin.af ⟨[(4,_)],[]⟩ rfl (Fin.au [.one (.i c)] (.inl rfl) rfl (.cons (.tmp rfl) .nil) ⟨rfl,rfl⟩)
 refine ab.exit (Fin.aw ?_)
 obtain rfl:=hy5 _ (zaa h4).symm
 refine Fin.aw (Fin.aJ ?_)
 exact Fin.join [1] [] c rfl rfl
 rintro f hv
 subst v1
 refine ab.seq (ab.aa ?_)
 refine Oc om (Oc oa (ae.ag ⟨[(4,I f)],[]⟩ rfl (ab.ret ?_)))
 obtain rfl:=zaa h
 refine Fin.af ⟨[(4,_)],[]⟩ rfl (Fin.au [.one (.i f)] (.inl rfl) rfl (.cons (.tmp rfl) .nil) ⟨rfl,rfl⟩)
def cT (F:Nat) (b0:Int):Option Bool :=
 bA (((decide (97<=b0))&&(decide (b0<=122)))||((decide (65<=b0))&&(decide (b0<=90)))) fun a=>some a
theorem gg {F:Nat} {b0:Int} {r:Bool} (h:cT F b0=some r):ax prog (bd mx) 155 [] [.one (.int .u8 b0)] (Is [] (.b (.one (.bool r)))):=by
 unfold cT at h
 refine ax.intro 17 Tryz.func155 Tryz.ntmps155 rfl (by simp) fun E=>(ab.seq (ab.aa ?_))
 refine Oc oa (ae.ag ⟨[(0,.b (.one (.int .u8 b0)))],[]⟩ rfl (ab.seq (ab.aa ?_)))
 refine Oc om (Oc (gf rfl rfl) (Oc om ?_))
 refine cH (decide (97<=b0)) [] (fun g1=>trivial) (fun g1=>om) (cH (decide (97<=b0)) [6] (fun g2=>by exact⟨g2,trivial⟩) (fun g2=>nY rfl rfl) (Oc (aD (fun e=>e) rfl rfl rfl rfl) (Oc om ?_)))
 refine ae.af ⟨[(0,_),(9,B ((decide (97<=b0))&&(decide (b0<=122))))],[]⟩ rfl (dD (!((decide (97<=b0))&&(decide (b0<=122)))) [] (fun g3=>trivial) (fun g3=>om) (dD (!((decide (97<=b0))&&(decide (b0<=122)))) [10] (fun g4=>by exact⟨g4,trivial⟩) (fun g4=>gf rfl rfl) (dD (!((decide (97<=b0))&&(decide (b0<=122)))) [11] (fun g5=>by exact⟨g5,trivial⟩) (fun g5=>om) (ae.dQ ((!((decide (97<=b0))&&(decide (b0<=122))))&&(decide (65<=b0))) 99 [] (.under rfl) (j4 _ _) rfl rfl (fun g6=>by exact trivial) (fun g6=>om) (ae.dQ ((!((decide (97<=b0))&&(decide (b0<=122))))&&(decide (65<=b0))) 99 [13] (.under rfl) (j4 _ _) rfl rfl (fun g7=>by exact⟨g7,trivial⟩) (fun g7=>nY rfl rfl) ?_)))))
 refine dD (!((decide (97<=b0))&&(decide (b0<=122)))) [12] (fun g8=>⟨g8,trivial⟩) (fun g8=>aD (fun e=>by rw[g8,e];rfl) rfl rfl rfl rfl) (ae.il h rfl (aW (fun e=>by first|(rw[e];rfl)|(simp only at e;rw[e];rfl)) rfl rfl rfl rfl) (fun a h=>?_))
 refine Oc oa (ae.ag ⟨[(2,B a)],[]⟩ rfl (ab.ret ?_))
 obtain rfl:=zaa h
 refine Fin.af ⟨[(2,_)],[]⟩ rfl (Fin.au [.one (.bool a)] (.inl rfl) rfl (.cons (.tmp rfl) .nil) ⟨rfl,rfl⟩)
def df (F:Nat) (b0:Int):Option Bool :=
 some ((decide (48<=b0))&&(decide (b0<=57)))
theorem eO {F:Nat} {b0:Int} {r:Bool} (h:df F b0=some r):ax prog (bd mx) 157 [] [.one (.int .u8 b0)] (Is [] (.b (.one (.bool r)))):=by
 unfold df at h
 refine ax.intro 9 Tryz.func157 Tryz.ntmps157 rfl (by simp) fun E=>(ab.seq (ab.aa ?_))
 refine Oc oa (ae.ag ⟨[(0,.b (.one (.int .u8 b0)))],[]⟩ rfl (ab.seq (ab.aa ?_)))
 refine Oc om (Oc (gf rfl rfl) (Oc om ?_))
 refine cH (decide (48<=b0)) [] (fun g1=>trivial) (fun g1=>om) (cH (decide (48<=b0)) [6] (fun g2=>by exact⟨g2,trivial⟩) (fun g2=>nY rfl rfl) (Oc (aD (fun e=>e) rfl rfl rfl rfl) (Oc oa (ae.ag ⟨[(2,B ((decide (48<=b0))&&(decide (b0<=57))))],[]⟩ rfl (ab.ret ?_)))))
 obtain rfl:=zaa h
 refine Fin.af ⟨[(2,_)],[]⟩ rfl (Fin.au [.one (.bool ((decide (48<=b0))&&(decide (b0<=57))))] (.inl rfl) rfl (.cons (.tmp rfl) .nil) ⟨rfl,rfl⟩)
def fU (F:Nat):Option (List Str) :=
 some [[97,110,100],[97,112,112,108,121],[97,116],[98,108,111,99,107],[98,111,120],[98,121],[99,117,116],[101,108,115,101],[102,97,108,115,101],[102,111,114,99,101],[102,114,101,101],[102,114,111,109],[103,114,97,118,105,116,121],[103,114,111,117,110,100],[105,102],[108,101,116],[108,111,97,100],[109,97,115,115],[110,111,116],[111,110],[111,114],[112,97,117,115,101],[112,108,97,99,101],[112,111,105,110,116,115],[112,114,111,112],[114,101,109,111,118,101],[114,101,112,101,97,116],[114,111,112,101],[114,111,117,103,104],[114,117,110],[115,101,116],[116,105,101],[116,111],[116,114,117,101],[116,117,114,110],[121,97,114,100]]
theorem n8 (kr0:Nat) {F:Nat} {r:(List Str)} (h:fU F=some r):ax prog (bd mx) 188 [] [] (Is [(kr0,.row 9 1 (r.map eS))] (.b (.row kr0))):=by
 unfold fU at h
 refine ax.intro 2 Tryz.func188 Tryz.ntmps188 rfl (by simp) fun E=>(ab.seq (ab.aa ?_))
 refine Oc oa (ae.ag ⟨[],[]⟩ rfl (ab.seq (ab.aa ?_)))
 refine Oc (aX (k:=101) (es:=[[97,110,100],[97,112,112,108,121],[97,116],[98,108,111,99,107],[98,111,120],[98,121],[99,117,116],[101,108,115,101],[102,97,108,115,101],[102,111,114,99,101],[102,114,101,101],[102,114,111,109],[103,114,97,118,105,116,121],[103,114,111,117,110,100],[105,102],[108,101,116],[108,111,97,100],[109,97,115,115],[110,111,116],[111,110],[111,114],[112,97,117,115,101],[112,108,97,99,101],[112,111,105,110,116,115],[112,114,111,112],[114,101,109,111,118,101],[114,101,112,101,97,116],[114,111,112,101],[114,111,117,103,104],[114,117,110],[115,101,116],[116,105,101],[116,111],[116,114,117,101],[116,117,114,110],[121,97,114,100]].map eS) dX rfl rfl (cg fun _=>rfl) rfl (by decide) (by decide) rfl) (Oc oa (ae.ag ⟨[(0,.b (.row 101))],[(101,.row 9 1 ([[97,110,100],[97,112,112,108,121],[97,116],[98,108,111,99,107],[98,111,120],[98,121],[99,117,116],[101,108,115,101],[102,97,108,115,101],[102,111,114,99,101],[102,114,101,101],[102,114,111,109],[103,114,97,118,105,116,121],[103,114,111,117,110,100],[105,102],[108,101,116],[108,111,97,100],[109,97,115,115],[110,111,116],[111,110],[111,114],[112,97,117,115,101],[112,108,97,99,101],[112,111,105,110,116,115],[112,114,111,112],[114,101,109,111,118,101],[114,101,112,101,97,116],[114,111,112,101],[114,111,117,103,104],[114,117,110],[115,101,116],[116,105,101],[116,111],[116,114,117,101],[116,117,114,110],[121,97,114,100]].map eS))]⟩ rfl (ab.ret ?_)))
 obtain rfl:=zaa h
 refine Fin.af ⟨[(0,_)],[(101,_)]⟩ rfl (Fin.CS 101 kr0 [.row 101] (.inl rfl) rfl (.cons (.tmp rfl) .nil) rfl rfl rfl rfl ⟨rfl,rfl⟩)
def fb (F:Nat) (s0:Str):Option Bool :=
 (fU F).bind fun c=>Option.bind (iter F (fun a=>if (decide (a<(c.length:Int)))=true then ((aS c a).bind fun d=>if (decide (d=s0))=true then (some (.inr (.inr true))) else (some (.inl (i64.wrap (a+1))))) else (some (.inr (.inl ())))) 0) (cW (fun _=>some false) (fun y=>some y))
theorem oS {F:Nat} {s0:Str} {r:Bool} (h:fb F s0=some r):ax prog (bd mx) 177 [] [.one (.str s0)] (Is [] (.b (.one (.bool r)))):=by
 unfold fb at h
 refine ax.intro 18 Tryz.func177 Tryz.ntmps177 rfl (by simp) fun E=>(ab.seq (ab.aa ?_))
 refine Oc oa (ae.ag ⟨[(0,.b (.one (.str s0)))],[]⟩ rfl (ab.seq (ab.aa ?_)))
 obtain⟨c,e1,h⟩:=aH h
 refine Oc (cK (n8 101 e1) goes188 rfl trivial rfl rfl) (Oc oa (ae.ag ⟨[(0,_),(3,.b (.row 101))],[(101,.row 9 1 (c.map eS))]⟩ rfl ?_))
 obtain⟨v2,h3,h⟩:=aH h
 refine ab.bR (v:=v2) (fun (_:Unit)=>⟨[],[]⟩) (fun z=>.inl z) ?_ ?_
 refine ab.seq (ab.aa ?_)
 refine Oc oa (ae.ag ⟨[(0,_),(3,_),(4,I 0)],[(101,_)]⟩ rfl (ab.block (ab.cx h3 (fun (a:Int)=>⟨[(0,.b (.one (.str s0))),(3,.b (.row 101)),(4,I a)],[(101,.row 9 1 (c.map eS))]⟩) [0,3,4] [101] rfl ?_)))
 rintro a o4 h5 hy6
 refine ab.seq (ab.seq (ab.aa ?_))
 refine Oc om (Oc om (Oc (oJ nB rfl rfl (List.length_map _)) (Oc (bt rfl rfl) (ae.ag ⟨[(0,_),(3,_),(4,_),(9,B (decide (a<(c.length:Int))))],[(101,_)]⟩ rfl (ab.ite h5 rfl (fun _ h5=>?_) (fun _ h5=>?_))))))
 refine ab.skip (Fin.af ⟨[(0,_),(3,_),(4,_)],[(101,_)]⟩ rfl (Fin.then (ab.seq (ab.block (ab.seq (ab.aa ?_))))))
 refine Oc om (Oc om ?_)
 obtain⟨d,e7,h5⟩:=aH h5
 refine Oc (fO dX (aR e7) (mK e7) rfl rfl rfl rfl) (Oc (jX (i:=(a:Int).toNat) (f:=0) b7 rfl rfl rfl (cu (e:=eS) e7) rfl) (Oc om (Oc (iU rfl rfl) (ae.ag ⟨[(0,_),(3,_),(4,_),(17,B (decide (d=s0)))],[(101,_)]⟩ rfl (ab.ite h5 rfl (fun _ h5=>?_) (fun _ h5=>?_))))))
 refine ab.seq (ab.aa ?_)
 refine Oc oa (ae.ag ⟨[(2,B true)],[]⟩ rfl (ab.ret (Fin.bc (Fin.ay ?_))))
 obtain rfl:=hy6 _ (zaa h5).symm
 refine Fin.ay (Fin.bc (Fin.ay ?_))
 obtain rfl:=zaa h
 refine Fin.af ⟨[(2,_)],[]⟩ rfl (Fin.au [.one (.bool true)] (.inl rfl) rfl (.cons (.tmp rfl) .nil) ⟨rfl,rfl⟩)
 refine ab.skip (Fin.aA (Fin.af ⟨[(0,_),(3,_),(4,_)],[(101,_)]⟩ rfl (Fin.then (ab.aa ?_))))
 refine Oc om (Oc (aL rfl rfl) (Oc oa (ae.nil ?_)))
 exact Fin.bB [0,3,4] [101] (i64.wrap (a+1)) (zaa h5) rfl
 refine ab.exit (Fin.aw ?_)
 obtain rfl:=hy6 _ (zaa h5).symm
 refine Fin.aw (Fin.aJ ?_)
 exact Fin.join [] [] () rfl rfl
 rintro _ hv
 subst v2
 refine ab.seq (ab.aa ?_)
 refine Oc oa (ae.ag ⟨[(2,B false)],[]⟩ rfl (ab.ret ?_))
 obtain rfl:=zaa h
 refine Fin.af ⟨[(2,_)],[]⟩ rfl (Fin.au [.one (.bool false)] (.inl rfl) rfl (.cons (.tmp rfl) .nil) ⟨rfl,rfl⟩)
def fa (F:Nat) (s0:Str) (at0:Int):Option qk :=
 Option.bind (iter F (fun a=>(aT (decide (a<(s0.length:Int))) (aS s0 a)).bind fun m=>(aT (decide (a<(s0.length:Int))) (cT F (m.toNat:Int))).bind fun e=>(aT ((decide (a<(s0.length:Int))) && !e) (aS s0 a)).bind fun o=>(aT ((decide (a<(s0.length:Int))) && !e) (df F (o.toNat:Int))).bind fun f=>(aT ((decide (a<(s0.length:Int))) && !(e||f)) (aS s0 a)).bind fun q=>bA ((decide (a<(s0.length:Int)))&&((e||f)||(decide ((q.toNat:Int)=95)))) fun r=>if r=true then (some (.inl (i64.wrap (a+1)))) else (some (.inr a))) at0) (fun c=>if (decide (32<(i64.wrap (c-at0))))=true then (some (⟨(⟨0,0,[]⟩:Token),0,2⟩:qk)) else (Option.bind (Option.bind (vF s0 at0 c) (fun g=>(fb F g).bind fun h=>if h=true then (some 1) else (some 2))) (fun d=>Option.bind (vF s0 at0 c) (fun j=>bA (⟨(⟨d,at0,j⟩:Token),c,0⟩:qk) fun k=>some k))))
theorem oR {F:Nat} {s0:Str} {at0:Int} {r:qk} (h:fa F s0 at0=some r):ax prog (bd mx) 156 [] [.one (.str s0),.one (.i at0)] (Is [] (.b (.agg (lH r)))):=by
 unfold fa at h
 refine ax.intro 51 Tryz.func156 Tryz.ntmps156 rfl (by simp) fun E=>(ab.seq (ab.aa ?_))
 refine Oc (aF (k:=101) mw rfl) (ae.ag ⟨[(0,.b (.one (.str s0))),(1,I at0),(4,Pt 101 0)],[(101,.box 164 [.i 0,.i 0,.str [],.i 0,.i 0])]⟩ rfl (ab.seq (ab.aa ?_)))
 refine Oc om (Oc oa (ae.ag ⟨[(0,_),(1,_),(4,_),(5,I at0)],[(101,_)]⟩ rfl ?_))
 obtain⟨v1,h2,h⟩:=aH h
 refine ab.bR (v:=v1) (fun (f:Int)=>⟨[(0,.b (.one (.str s0))),(1,I at0),(4,Pt 101 0),(5,I f)],[(101,.box 164 [.i 0,.i 0,.str [],.i 0,.i 0])]⟩) (fun z=>z) ?_ ?_
 refine ab.block (ab.cx h2 (fun (a:Int)=>⟨[(0,.b (.one (.str s0))),(1,I at0),(4,Pt 101 0),(5,I a)],[(101,.box 164 [.i 0,.i 0,.str [],.i 0,.i 0])]⟩) [0,1,4,5] [101] rfl ?_)
 rintro a o3 h4 hy5
 refine ab.seq (ab.seq (ab.aa ?_))
 refine Oc om (Oc om (Oc (bh cb rfl) (Oc (bt rfl rfl) (Oc om ?_))))
 refine cH (decide (a<(s0.length:Int))) [] (fun g6=>trivial) (fun g6=>om) (ae.af ⟨[(0,_),(1,_),(4,_),(5,_),(12,B (decide (a<(s0.length:Int)))),(13,.opt (decide (a<(s0.length:Int))) (.one (.str s0)))],[(101,_)]⟩ rfl (cH (decide (a<(s0.length:Int))) [] (fun g7=>by exact trivial) (fun g7=>om) ?_))
 obtain⟨u,e9,h4⟩:=aH h4
 refine cH (decide (a<(s0.length:Int))) [13,14] (fun g8=>⟨g8,g8,trivial⟩) (fun g8=>aV cb rfl rfl (aR (gc e9 g8)) (cF (gc e9 g8))) ?_
 obtain⟨c,e11,h4⟩:=aH h4
 refine cH (decide (a<(s0.length:Int))) [15] (fun g10=>⟨g10,trivial⟩) (fun g10=>ah (gg (gc e11 g10)) y9 rfl rfl) (cH (decide (a<(s0.length:Int))) [16] (fun g12=>⟨g12,trivial⟩) (fun g12=>om) (ae.dQ ((decide (a<(s0.length:Int))) && !c) 99 [] (.under rfl) (ec _ _) rfl rfl (fun g13=>by exact trivial) (fun g13=>om) (ae.dQ ((decide (a<(s0.length:Int))) && !c) 99 [] (.under rfl) (ec _ _) rfl rfl (fun g14=>by exact trivial) (fun g14=>om) (ae.af ⟨[(0,_),(1,_),(4,_),(5,_),(12,_),(17,.opt (decide (a<(s0.length:Int))) (.one (.bool c))),(18,.opt ((decide (a<(s0.length:Int))) && !c) (.one (.str s0))),(19,.opt ((decide (a<(s0.length:Int))) && !c) (.one (.i a)))],[(101,_)]⟩ rfl ?_))))
 obtain⟨w,e16,h4⟩:=aH h4
 refine ae.dQ ((decide (a<(s0.length:Int))) && !c) 99 [18,19] (.under rfl) (ec _ _) rfl rfl (fun g15=>⟨g15,g15,trivial⟩) (fun g15=>aV cb rfl rfl (aR (gc e16 g15)) (cF (gc e16 g15))) ?_
 obtain⟨g,e18,h4⟩:=aH h4
 refine ae.dQ ((decide (a<(s0.length:Int))) && !c) 99 [20] (.under rfl) (ec _ _) rfl rfl (fun g17=>⟨g17,trivial⟩) (fun g17=>ah (eO (gc e18 g17)) vZ rfl rfl) (cH (decide (a<(s0.length:Int))) [17] (fun g19=>⟨g19,trivial⟩) (fun g19=>aW (fun e=>by rw[g19,e];rfl) rfl rfl rfl rfl) (cH (decide (a<(s0.length:Int))) [22] (fun g20=>⟨g20,trivial⟩) (fun g20=>om) (ae.dQ ((decide (a<(s0.length:Int))) && !(c||g)) 99 [] (.under rfl) (ec _ _) rfl rfl (fun g21=>by exact trivial) (fun g21=>om) (ae.dQ ((decide (a<(s0.length:Int))) && !(c||g)) 99 [] (.under rfl) (ec _ _) rfl rfl (fun g22=>by exact trivial) (fun g22=>om) (ae.af ⟨[(0,_),(1,_),(4,_),(5,_),(12,_),(23,.opt (decide (a<(s0.length:Int))) (.one (.bool (c||g)))),(24,.opt ((decide (a<(s0.length:Int))) && !(c||g)) (.one (.str s0))),(25,.opt ((decide (a<(s0.length:Int))) && !(c||g)) (.one (.i a)))],[(101,_)]⟩ rfl ?_)))))
 obtain⟨x,e24,h4⟩:=aH h4
 refine ae.dQ ((decide (a<(s0.length:Int))) && !(c||g)) 99 [24,25] (.under rfl) (ec _ _) rfl rfl (fun g23=>⟨g23,g23,trivial⟩) (fun g23=>aV cb rfl rfl (aR (gc e24 g23)) (cF (gc e24 g23))) (ae.dQ ((decide (a<(s0.length:Int))) && !(c||g)) 99 [26] (.under rfl) (ec _ _) rfl rfl (fun g25=>⟨g25,trivial⟩) (fun g25=>b8 rfl rfl) (cH (decide (a<(s0.length:Int))) [23] (fun g26=>⟨g26,trivial⟩) (fun g26=>aW (fun e=>by rw[g26,e];rfl) rfl rfl rfl rfl) (ae.il h4 rfl (aD (fun e=>e) rfl rfl rfl rfl) (fun q h4=>(ae.ag ⟨[(0,_),(1,_),(4,_),(5,_),(29,B q)],[(101,_)]⟩ rfl (ab.ite h4 rfl (fun _ h4=>?_) (fun _ h4=>?_)))))))
 refine ab.skip (Fin.af ⟨[(0,_),(1,_),(4,_),(5,_)],[(101,_)]⟩ rfl (Fin.then (ab.block (ab.aa ?_))))
 refine Oc om (Oc (aL rfl rfl) (Oc oa (ae.nil (Fin.aA ?_))))
 exact Fin.bB [0,1,4,5] [101] (i64.wrap (a+1)) (zaa h4) rfl
 refine ab.exit (Fin.aw ?_)
 obtain rfl:=hy5 _ (zaa h4).symm
 refine Fin.aw (Fin.aJ ?_)
 exact Fin.join [0,1,4,5] [101] a rfl rfl
 rintro f hv
 subst v1
 refine ab.seq (ab.seq (ab.aa ?_))
 refine Oc om (Oc om (Oc (bW rfl rfl) (Oc (dy rfl rfl) (ae.ag ⟨[(0,_),(1,_),(4,_),(5,_),(35,B (decide (32<(i64.wrap (f-at0)))))],[(101,_)]⟩ rfl (ab.ite h rfl (fun _ h=>?_) (fun _ h=>?_))))))
 refine ab.seq (ab.aa ?_)
 refine Oc (aU fi rfl rfl) (Oc (an ca rfl rfl rfl rfl (zab rfl) rfl) (ae.ag ⟨[(4,_)],[(101,.box 164 [.i 0,.i 0,.str [],.i 0,.i 2])]⟩ rfl (ab.ret (Fin.ay ?_))))
 obtain rfl:=zaa h
 refine Fin.af ⟨[(4,_)],[(101,_)]⟩ rfl (Fin.au [.agg [.i 0,.i 0,.str [],.i 0,.i 2]] (.inl rfl) rfl (.cons (.agg ca rfl rfl rfl rfl) .nil) ⟨rfl,rfl⟩)
 refine ab.skip (Fin.af ⟨[(0,_),(1,_),(4,_),(5,_)],[(101,_)]⟩ rfl (Fin.then (ab.seq (ab.aa ?_))))
 refine Oc oa (ae.ag ⟨[(0,_),(1,_),(4,_),(5,_),(6,I 2)],[(101,_)]⟩ rfl ?_)
 obtain⟨v27,h28,h⟩:=aH h
 refine ab.bR (v:=v27) (fun (d:Int)=>⟨[(0,.b (.one (.str s0))),(1,I at0),(4,Pt 101 0),(5,I f),(6,I d)],[(101,.box 164 [.i 0,.i 0,.str [],.i 0,.i 0])]⟩) (fun z=>z) ?_ ?_
 refine ab.seq (ab.aa ?_)
 refine Oc om (Oc om (Oc om ?_))
 obtain⟨t,e29,h28⟩:=aH h28
 refine Oc (gx cb e29 rfl rfl rfl) ?_
 obtain⟨m,e30,h28⟩:=aH h28
 refine Oc (ah (oS e30) goes177 rfl rfl) (ae.ag ⟨[(0,_),(1,_),(4,_),(5,_),(6,_),(41,B m)],[(101,_)]⟩ rfl (ab.ite h28 rfl (fun _ h28=>?_) (fun _ h28=>?_)))
 refine ab.aa (Oc oa (ae.nil ?_))
 exact Fin.join [0,1,4,5,6] [101] 1 (zaa h28) rfl
 refine ab.skip ?_
 exact Fin.join [0,1,4,5,6] [101] 2 (zaa h28) rfl
 rintro d hv
 subst v27
 refine ab.seq (ab.aa ?_)
 refine Oc om (Oc om (Oc om (Oc om (Oc om ?_))))
 obtain⟨o,e31,h⟩:=aH h
 refine Oc (gx cb e31 rfl rfl rfl) (Oc (aU cz rfl rfl) (ae.af ⟨[(4,_),(5,_),(48,.b (.agg [.i d,.i at0,.str o]))],[(101,_)]⟩ rfl (Oc om (ae.qd lH h rfl (aU fi rfl rfl) (fun j h=>?_)))))
 refine Oc (an ca rfl rfl rfl rfl (zab rfl) rfl) (ae.ag ⟨[(4,_)],[(101,.box 164 (lH j))]⟩ rfl (ab.ret ?_))
 obtain rfl:=zaa h
 refine Fin.af ⟨[(4,_)],[(101,_)]⟩ rfl (Fin.au [.agg (lH j)] (.inl rfl) rfl (.cons (.agg ca rfl rfl rfl rfl) .nil) ⟨rfl,rfl⟩)
def dB (F:Nat) (s0:Str) (at0:Int):Option Int :=
 Option.bind (iter F (fun a=>(aT (decide (a<(s0.length:Int))) (aS s0 a)).bind fun d=>(aT (decide (a<(s0.length:Int))) (df F (d.toNat:Int))).bind fun e=>if ((decide (a<(s0.length:Int)))&&e)=true then (some (.inl (i64.wrap (a+1)))) else (some (.inr a))) at0) (fun c=>some c)
theorem jA {F:Nat} {s0:Str} {at0 r:Int} (h:dB F s0 at0=some r):ax prog (bd mx) 178 [] [.one (.str s0),.one (.i at0)] (Is [] (.b (.one (.i r)))):=by
 unfold dB at h
 refine ax.intro 18 Tryz.func178 Tryz.ntmps178 rfl (by simp) fun E=>(ab.seq (ab.aa ?_))
 refine Oc oa (ae.ag ⟨[(0,.b (.one (.str s0))),(1,I at0)],[]⟩ rfl ?_)
 obtain⟨v1,h2,h⟩:=aH h
 refine ab.bR (v:=v1) (fun (c:Int)=>⟨[(1,I c)],[]⟩) (fun z=>z) ?_ ?_
 refine ab.block (ab.cx h2 (fun (a:Int)=>⟨[(0,.b (.one (.str s0))),(1,I a)],[]⟩) [0,1] [] rfl ?_)
 rintro a o3 h4 hy5
 refine ab.seq (ab.seq (ab.aa ?_))
 refine Oc om (Oc om (Oc (bh cb rfl) (Oc (bt rfl rfl) (Oc om ?_))))
 refine cH (decide (a<(s0.length:Int))) [] (fun g6=>trivial) (fun g6=>om) (ae.af ⟨[(0,_),(1,_),(9,B (decide (a<(s0.length:Int)))),(10,.opt (decide (a<(s0.length:Int))) (.one (.str s0)))],[]⟩ rfl (cH (decide (a<(s0.length:Int))) [] (fun g7=>by exact trivial) (fun g7=>om) ?_))
 obtain⟨f,e9,h4⟩:=aH h4
 refine cH (decide (a<(s0.length:Int))) [10,11] (fun g8=>⟨g8,g8,trivial⟩) (fun g8=>aV cb rfl rfl (aR (gc e9 g8)) (cF (gc e9 g8))) ?_
 obtain⟨d,e11,h4⟩:=aH h4
 refine cH (decide (a<(s0.length:Int))) [12] (fun g10=>⟨g10,trivial⟩) (fun g10=>ah (eO (gc e11 g10)) vZ rfl rfl) (Oc (aD (fun e=>e) rfl rfl rfl rfl) (ae.ag ⟨[(0,_),(1,_),(14,B ((decide (a<(s0.length:Int)))&&d))],[]⟩ rfl (ab.ite h4 rfl (fun _ h4=>?_) (fun _ h4=>?_))))
 refine ab.skip (Fin.af ⟨[(0,_),(1,_)],[]⟩ rfl (Fin.then (ab.block (ab.aa ?_))))
 refine Oc om (Oc (aL rfl rfl) (Oc oa (ae.nil (Fin.aA ?_))))
 exact Fin.bB [0,1] [] (i64.wrap (a+1)) (zaa h4) rfl
 refine ab.exit (Fin.aw ?_)
 obtain rfl:=hy5 _ (zaa h4).symm
 refine Fin.aw (Fin.aJ ?_)
 exact Fin.join [1] [] a rfl rfl
 rintro c hv
 subst v1
 refine ab.seq (ab.aa ?_)
 refine Oc om (Oc oa (ae.ag ⟨[(4,I c)],[]⟩ rfl (ab.ret ?_)))
 obtain rfl:=zaa h
 refine Fin.af ⟨[(4,_)],[]⟩ rfl (Fin.au [.one (.i c)] (.inl rfl) rfl (.cons (.tmp rfl) .nil) ⟨rfl,rfl⟩)
def ee (F:Nat) (s0:Str) (at0:Int):Option qk :=
 (dB F s0 at0).bind fun c=>Option.bind ((aT (decide ((i64.wrap (c+1))<(s0.length:Int))) (aS s0 c)).bind fun u=>bA ((decide ((i64.wrap (c+1))<(s0.length:Int)))&&(decide ((u.toNat:Int)=46))) fun g=>(aT g (aS s0 (i64.wrap (c+1)))).bind fun v=>(aT g (df F (v.toNat:Int))).bind fun w=>if (g&&w)=true then ((dB F s0 (i64.wrap (c+1))).bind fun h=>bA (i64.wrap ((i64.wrap (c-at0))+h)) fun x=>bA (i64.wrap ((i64.wrap (x-c))-1)) fun j=>some (h,j)) else (some (c,i64.wrap (c-at0)))) (bQ fun a e=>if (decide (40<e))=true then (some (⟨(⟨0,0,[]⟩:Token),0,2⟩:qk)) else ((aT (decide (1<(i64.wrap (c-at0)))) (aS s0 at0)).bind fun k=>bA ((decide (1<(i64.wrap (c-at0))))&&(decide ((k.toNat:Int)=48))) fun d=>(aT ((!d)&&(decide (a<(s0.length:Int)))) (aS s0 a)).bind fun m=>(aT ((!d)&&(decide (a<(s0.length:Int)))) (cT F (m.toNat:Int))).bind fun f=>(aT (((!d)&&(decide (a<(s0.length:Int)))) && !f) (aS s0 a)).bind fun o=>bA (d||((decide (a<(s0.length:Int)))&&(f||(decide ((o.toNat:Int)=95))))) fun q=>if q=true then (some (⟨(⟨0,0,[]⟩:Token),0,281⟩:qk)) else (Option.bind (vF s0 at0 a) (fun r=>bA (⟨(⟨3,at0,r⟩:Token),a,0⟩:qk) fun t=>some t))))
theorem nj {F:Nat} {s0:Str} {at0:Int} {r:qk} (h:ee F s0 at0=some r):ax prog (bd mx) 158 [] [.one (.str s0),.one (.i at0)] (Is [] (.b (.agg (lH r)))):=by
 unfold ee at h
 refine ax.intro 83 Tryz.func158 Tryz.ntmps158 rfl (by simp) fun E=>(ab.seq (ab.aa ?_))
 refine Oc (aF (k:=101) mw rfl) (ae.ag ⟨[(0,.b (.one (.str s0))),(1,I at0),(4,Pt 101 0)],[(101,.box 164 [.i 0,.i 0,.str [],.i 0,.i 0])]⟩ rfl (ab.seq (ab.aa ?_)))
 refine Oc om (Oc om ?_)
 obtain⟨d,e1,h⟩:=aH h
 refine Oc (ah (jA e1) C8 rfl rfl) (Oc oa (ae.ag ⟨[(0,_),(1,_),(4,_),(5,I d)],[(101,_)]⟩ rfl (ab.seq (ab.aa ?_))))
 refine Oc om (Oc oa (ae.ag ⟨[(0,_),(1,_),(4,_),(5,_),(6,I d)],[(101,_)]⟩ rfl (ab.seq (ab.aa ?_))))
 refine Oc om (Oc om (Oc (bW rfl rfl) (Oc oa (ae.ag ⟨[(0,_),(1,_),(4,_),(5,_),(6,_),(7,I (i64.wrap (d-at0)))],[(101,_)]⟩ rfl ?_))))
 obtain⟨v2,h3,h⟩:=aH h
 refine ab.bR (v:=v2) (bQ fun (c:Int) (f:Int)=>⟨[(0,.b (.one (.str s0))),(1,I at0),(4,Pt 101 0),(5,I d),(6,I c),(7,I f)],[(101,.box 164 [.i 0,.i 0,.str [],.i 0,.i 0])]⟩) (fun z=>z) ?_ ?_
 refine ab.seq (ab.aa ?_)
 refine Oc om (Oc (aL rfl rfl) (Oc om (Oc (bh cb rfl) (Oc (bt rfl rfl) (Oc om ?_)))))
 refine ae.af ⟨[(0,_),(1,_),(4,_),(5,_),(6,_),(7,_),(20,B (decide ((i64.wrap (d+1))<(s0.length:Int))))],[(101,_)]⟩ rfl (cH (decide ((i64.wrap (d+1))<(s0.length:Int))) [] (fun g4=>trivial) (fun g4=>om) (cH (decide ((i64.wrap (d+1))<(s0.length:Int))) [] (fun g5=>by exact trivial) (fun g5=>om) ?_))
 obtain⟨ad,e7,h3⟩:=aH h3
 refine cH (decide ((i64.wrap (d+1))<(s0.length:Int))) [21,22] (fun g6=>⟨g6,g6,trivial⟩) (fun g6=>aV cb rfl rfl (aR (gc e7 g6)) (cF (gc e7 g6))) (cH (decide ((i64.wrap (d+1))<(s0.length:Int))) [23] (fun g8=>⟨g8,trivial⟩) (fun g8=>b8 rfl rfl) (ae.il h3 rfl (aD (fun e=>e) rfl rfl rfl rfl) (fun g h3=>?_)))
 refine Oc om (cH g [] (fun g9=>by exact trivial) (fun g9=>om) (cH g [] (fun g10=>by exact trivial) (fun g10=>om) (ae.af ⟨[(0,_),(1,_),(4,_),(5,_),(6,_),(7,_),(26,B g),(27,.opt g (.one (.str s0))),(28,.opt g (.one (.i d)))],[(101,_)]⟩ rfl (cH g [28] (fun g11=>by exact⟨g11,trivial⟩) (fun g11=>aL rfl rfl) ?_))))
 obtain⟨ai,e13,h3⟩:=aH h3
 refine cH g [27,29] (fun g12=>⟨g12,g12,trivial⟩) (fun g12=>aV cb rfl rfl (aR (gc e13 g12)) (cF (gc e13 g12))) ?_
 obtain⟨u,e15,h3⟩:=aH h3
 refine cH g [30] (fun g14=>⟨g14,trivial⟩) (fun g14=>ah (eO (gc e15 g14)) vZ rfl rfl) (Oc (aD (fun e=>e) rfl rfl rfl rfl) (ae.ag ⟨[(0,_),(1,_),(4,_),(5,_),(6,_),(7,_),(32,B (g&&u))],[(101,_)]⟩ rfl (ab.ite h3 rfl (fun _ h3=>?_) (fun _ h3=>?_))))
 refine ab.seq (ab.aa ?_)
 refine Oc om (Oc om (Oc (aL rfl rfl) ?_))
 obtain⟨o,e16,h3⟩:=aH h3
 refine Oc (ah (jA e16) C8 rfl rfl) (Oc oa (ae.ag ⟨[(0,_),(1,_),(4,_),(5,_),(6,I o),(7,_)],[(101,_)]⟩ rfl (ab.aa (Oc om (Oc om ?_)))))
 refine ae.cJ .i64 h3 rfl (aL rfl rfl) (fun ak h3=>?_)
 refine Oc om (Oc (bW rfl rfl) ?_)
 refine ae.cJ .i64 h3 rfl (bW rfl rfl) (fun q h3=>?_)
 refine Oc oa (ae.nil ?_)
 exact Fin.join [0,1,4,5,6,7] [101] (o,q) (zaa h3) rfl
 refine ab.skip ?_
 exact Fin.join [0,1,4,5,6,7] [101] (d,i64.wrap (d-at0)) (zaa h3) rfl
 rintro⟨c,f⟩ hv
 subst v2
 refine ab.seq (ab.seq (ab.aa ?_))
 refine Oc om (Oc (dy rfl rfl) (ae.ag ⟨[(0,_),(1,_),(4,_),(5,_),(6,_),(44,B (decide (40<f)))],[(101,_)]⟩ rfl (ab.ite h rfl (fun _ h=>?_) (fun _ h=>?_))))
 refine ab.seq (ab.aa ?_)
 refine Oc (aU fi rfl rfl) (Oc (an ca rfl rfl rfl rfl (zab rfl) rfl) (ae.ag ⟨[(4,_)],[(101,.box 164 [.i 0,.i 0,.str [],.i 0,.i 2])]⟩ rfl (ab.ret (Fin.ay ?_))))
 obtain rfl:=zaa h
 refine Fin.af ⟨[(4,_)],[(101,_)]⟩ rfl (Fin.au [.agg [.i 0,.i 0,.str [],.i 0,.i 2]] (.inl rfl) rfl (.cons (.agg ca rfl rfl rfl rfl) .nil) ⟨rfl,rfl⟩)
 refine ab.skip (Fin.af ⟨[(0,_),(1,_),(4,_),(5,_),(6,_)],[(101,_)]⟩ rfl (Fin.then (ab.seq (ab.seq (ab.aa ?_)))))
 refine Oc om (Oc om (Oc (bW rfl rfl) (Oc (dy rfl rfl) (Oc om ?_))))
 refine cH (decide (1<(i64.wrap (d-at0)))) [] (fun g17=>trivial) (fun g17=>om) (cH (decide (1<(i64.wrap (d-at0)))) [] (fun g18=>by exact trivial) (fun g18=>om) (ae.af ⟨[(0,_),(1,_),(4,_),(6,_),(50,B (decide (1<(i64.wrap (d-at0))))),(51,.opt (decide (1<(i64.wrap (d-at0)))) (.one (.str s0))),(52,.opt (decide (1<(i64.wrap (d-at0)))) (.one (.i at0)))],[(101,_)]⟩ rfl ?_))
 obtain⟨w,e20,h⟩:=aH h
 refine cH (decide (1<(i64.wrap (d-at0)))) [51,52] (fun g19=>⟨g19,g19,trivial⟩) (fun g19=>aV cb rfl rfl (aR (gc e20 g19)) (cF (gc e20 g19))) (cH (decide (1<(i64.wrap (d-at0)))) [53] (fun g21=>⟨g21,trivial⟩) (fun g21=>b8 rfl rfl) (ae.il h rfl (aD (fun e=>e) rfl rfl rfl rfl) (fun a h=>?_)))
 refine Oc om (dD (!a) [] (fun g22=>by exact trivial) (fun g22=>om) (dD (!a) [] (fun g23=>by exact trivial) (fun g23=>om) (dD (!a) [58] (fun g24=>by exact⟨g24,trivial⟩) (fun g24=>bh cb rfl) (ae.af ⟨[(0,_),(1,_),(4,_),(6,_),(56,B a),(57,.opt (!a) (.one (.i c))),(59,.opt (!a) (.one (.i (s0.length:Int))))],[(101,_)]⟩ rfl (dD (!a) [57,59] (fun g25=>by exact⟨g25,g25,trivial⟩) (fun g25=>bt rfl rfl) ?_)))))
 refine dD (!a) [60] (fun g26=>⟨g26,trivial⟩) (fun g26=>om) (ae.dQ ((!a)&&(decide (c<(s0.length:Int)))) 99 [] (.under rfl) (j4 _ _) rfl rfl (fun g27=>by exact trivial) (fun g27=>om) (ae.dQ ((!a)&&(decide (c<(s0.length:Int)))) 99 [] (.under rfl) (j4 _ _) rfl rfl (fun g28=>by exact trivial) (fun g28=>om) ?_))
 obtain⟨x,e30,h⟩:=aH h
 refine ae.dQ ((!a)&&(decide (c<(s0.length:Int)))) 99 [62,63] (.under rfl) (j4 _ _) rfl rfl (fun g29=>⟨g29,g29,trivial⟩) (fun g29=>aV cb rfl rfl (aR (gc e30 g29)) (cF (gc e30 g29))) ?_
 obtain⟨j,e32,h⟩:=aH h
 refine ae.dQ ((!a)&&(decide (c<(s0.length:Int)))) 99 [64] (.under rfl) (j4 _ _) rfl rfl (fun g31=>⟨g31,trivial⟩) (fun g31=>ah (gg (gc e32 g31)) y9 rfl rfl) (ae.af ⟨[(0,_),(1,_),(4,_),(6,_),(56,_),(61,.opt (!a) (.one (.bool (decide (c<(s0.length:Int)))))),(65,.opt ((!a)&&(decide (c<(s0.length:Int)))) (.one (.bool j)))],[(101,_)]⟩ rfl (ae.dQ ((!a)&&(decide (c<(s0.length:Int)))) 99 [65] (.under rfl) (j4 _ _) rfl rfl (fun g33=>⟨g33,trivial⟩) (fun g33=>om) (ae.dQ (((!a)&&(decide (c<(s0.length:Int)))) && !j) 99 [] (.under rfl) (ec _ _) rfl rfl (fun g34=>trivial) (fun g34=>om) (ae.dQ (((!a)&&(decide (c<(s0.length:Int)))) && !j) 99 [] (.under rfl) (ec _ _) rfl rfl (fun g35=>trivial) (fun g35=>om) ?_))))
 obtain⟨y,e37,h⟩:=aH h
 refine ae.dQ (((!a)&&(decide (c<(s0.length:Int)))) && !j) 99 [67,68] (.under rfl) (ec _ _) rfl rfl (fun g36=>⟨g36,g36,trivial⟩) (fun g36=>aV cb rfl rfl (aR (gc e37 g36)) (cF (gc e37 g36))) (ae.dQ (((!a)&&(decide (c<(s0.length:Int)))) && !j) 99 [69] (.under rfl) (ec _ _) rfl rfl (fun g38=>⟨g38,trivial⟩) (fun g38=>b8 rfl rfl) (ae.dQ ((!a)&&(decide (c<(s0.length:Int)))) 99 [66] (.under rfl) (j4 _ _) rfl rfl (fun g39=>⟨g39,trivial⟩) (fun g39=>aW (fun e=>by rw[g39,e];rfl) rfl rfl rfl rfl) (dD (!a) [61] (fun g40=>⟨g40,trivial⟩) (fun g40=>aD (fun e=>by rw[g40,e];rfl) rfl rfl rfl rfl) (ae.il h rfl (aW (fun e=>by first|(rw[e];rfl)|(simp only at e;rw[e];rfl)) rfl rfl rfl rfl) (fun t h=>(ae.ag ⟨[(0,_),(1,_),(4,_),(6,_),(73,B t)],[(101,_)]⟩ rfl (ab.ite h rfl (fun _ h=>?_) (fun _ h=>?_))))))))
 refine ab.seq (ab.aa ?_)
 refine Oc (aU fi rfl rfl) (Oc (an ca rfl rfl rfl rfl (zab rfl) rfl) (ae.ag ⟨[(4,_)],[(101,.box 164 [.i 0,.i 0,.str [],.i 0,.i 281])]⟩ rfl (ab.ret (Fin.ay ?_))))
 obtain rfl:=zaa h
 refine Fin.af ⟨[(4,_)],[(101,_)]⟩ rfl (Fin.au [.agg [.i 0,.i 0,.str [],.i 0,.i 281]] (.inl rfl) rfl (.cons (.agg ca rfl rfl rfl rfl) .nil) ⟨rfl,rfl⟩)
 refine ab.skip (Fin.af ⟨[(0,_),(1,_),(4,_),(6,_)],[(101,_)]⟩ rfl (Fin.then (ab.seq (ab.aa ?_))))
 refine Oc om (Oc om (Oc om (Oc om ?_)))
 obtain⟨ac,e41,h⟩:=aH h
 refine Oc (gx cb e41 rfl rfl rfl) (Oc (aU cz rfl rfl) (Oc om (ae.qd lH h rfl (aU fi rfl rfl) (fun m h=>?_))))
 refine Oc (an ca rfl rfl rfl rfl (zab rfl) rfl) (ae.ag ⟨[(4,_)],[(101,.box 164 (lH m))]⟩ rfl (ab.ret ?_))
 obtain rfl:=zaa h
 refine Fin.af ⟨[(4,_)],[(101,_)]⟩ rfl (Fin.au [.agg (lH m)] (.inl rfl) rfl (.cons (.agg ca rfl rfl rfl rfl) .nil) ⟨rfl,rfl⟩)
def eY (F:Nat) (s0:Str) (at0:Int):Option qk :=
 Option.bind (iter F (bQ fun c a=>if (decide (a<(s0.length:Int)))=true then (Option.bind ((aS s0 a).bind fun d=>if (decide ((d.toNat:Int)=34))=true then (if (decide (80<(c.length:Int)))=true then (some (.inr (⟨(⟨0,0,[]⟩:Token),0,2⟩:qk))) else (bA (⟨(⟨4,at0,c⟩:Token),i64.wrap (a+1),0⟩:qk) fun m=>some (.inr m))) else (bA ((decide ((d.toNat:Int)<32))||(decide (126<(d.toNat:Int)))) fun o=>if o=true then (some (.inr (⟨(⟨0,0,[]⟩:Token),0,280⟩:qk))) else (Option.bind (if (decide ((d.toNat:Int)=92))=true then ((aT (!(decide ((s0.length:Int)<=(i64.wrap (a+1))))) (aS s0 (i64.wrap (a+1)))).bind fun e=>(aT ((!(decide ((s0.length:Int)<=(i64.wrap (a+1)))))&&(decide ((e.toNat:Int)≠34))) (aS s0 (i64.wrap (a+1)))).bind fun g=>bA ((decide ((s0.length:Int)<=(i64.wrap (a+1))))||((decide ((e.toNat:Int)≠34))&&(decide ((g.toNat:Int)≠92)))) fun h=>if h=true then (some (.inr (⟨(⟨0,0,[]⟩:Token),0,280⟩:qk))) else ((aS s0 (i64.wrap (a+1))).bind fun j=>some (.inl (i64.wrap (a+1),(j.toNat:Int))))) else (some (.inl (a,(d.toNat:Int))))) (cW (bQ fun q r=>(gU c (toStr [r])).bind fun k=>some (.inl (k,q))) (fun y=>some (.inr y)))))) (cW (bQ fun f t=>some (.inl (f,i64.wrap (t+1)))) (fun y=>some (.inr (.inr y))))) else (some (.inr (.inl ())))) ([],i64.wrap (at0+1))) (cW (fun _=>some (⟨(⟨0,0,[]⟩:Token),0,280⟩:qk)) (fun y=>some y))
theorem oP {F:Nat} {s0:Str} {at0:Int} {r:qk} (h:eY F s0 at0=some r):ax prog (bd mx) 159 [] [.one (.str s0),.one (.i at0)] (Is [] (.b (.agg (lH r)))):=by
 unfold eY at h
 refine ax.intro 68 Tryz.func159 Tryz.ntmps159 rfl (by simp) fun E=>(ab.seq (ab.aa ?_))
 refine Oc (aF (k:=101) mw rfl) (ae.ag ⟨[(0,.b (.one (.str s0))),(1,I at0),(4,Pt 101 0)],[(101,.box 164 [.i 0,.i 0,.str [],.i 0,.i 0])]⟩ rfl (ab.seq (ab.aa ?_)))
 refine Oc oa (ae.ag ⟨[(0,_),(1,_),(4,_),(5,.b (.one (.str [])))],[(101,_)]⟩ rfl ?_)
 obtain⟨v1,h2,h⟩:=aH h
 refine ab.bR (v:=v1) (fun (_:Unit)=>⟨[(4,Pt 101 0)],[(101,.box 164 [.i 0,.i 0,.str [],.i 0,.i 0])]⟩) (fun z=>.inl z) ?_ ?_
 refine ab.seq (ab.aa ?_)
 refine Oc om (Oc (aL rfl rfl) (Oc oa (ae.ag ⟨[(0,_),(1,_),(4,_),(5,_),(6,I (i64.wrap (at0+1)))],[(101,_)]⟩ rfl (ab.block (ab.cx h2 (bQ fun (c:Str) (a:Int)=>⟨[(0,.b (.one (.str s0))),(1,I at0),(4,Pt 101 0),(5,.b (.one (.str c))),(6,I a)],[(101,.box 164 [.i 0,.i 0,.str [],.i 0,.i 0])]⟩) [0,1,4,5,6] [101] rfl ?_)))))
 rintro⟨c,a⟩ o3 h4 hy5
 refine ab.seq (ab.seq (ab.aa ?_))
 refine Oc om (Oc om (Oc (bh cb rfl) (Oc (bt rfl rfl) (ae.ag ⟨[(0,_),(1,_),(4,_),(5,_),(6,_),(13,B (decide (a<(s0.length:Int))))],[(101,_)]⟩ rfl (ab.ite h4 rfl (fun _ h4=>?_) (fun _ h4=>?_))))))
 refine ab.skip (Fin.af ⟨[(0,_),(1,_),(4,_),(5,_),(6,_)],[(101,_)]⟩ rfl (Fin.then ?_))
 obtain⟨v6,h7,h4⟩:=aH h4
 refine ab.bR (v:=v6) (bQ fun (d:Str) (j:Int)=>⟨[(0,.b (.one (.str s0))),(1,I at0),(4,Pt 101 0),(5,.b (.one (.str d))),(6,I j)],[(101,.box 164 [.i 0,.i 0,.str [],.i 0,.i 0])]⟩) (fun z=>.inl z) ?_ ?_
 refine ab.block (ab.seq (ab.aa ?_))
 refine Oc om (Oc om ?_)
 obtain⟨g,e8,h7⟩:=aH h7
 refine Oc (aV cb rfl rfl (aR e8) (cF e8)) (Oc oa (ae.ag ⟨[(0,_),(1,_),(4,_),(5,_),(6,_),(7,.b (.one (.int .u8 (g.toNat:Int))))],[(101,_)]⟩ rfl (ab.seq (ab.seq (ab.aa ?_)))))
 refine Oc om (Oc (b8 rfl rfl) (ae.ag ⟨[(0,_),(1,_),(4,_),(5,_),(6,_),(7,_),(20,B (decide ((g.toNat:Int)=34)))],[(101,_)]⟩ rfl (ab.ite h7 rfl (fun _ h7=>?_) (fun _ h7=>?_))))
 refine ab.seq (ab.seq (ab.aa ?_))
 refine Oc om (Oc (bh cb rfl) (Oc (dy rfl rfl) (ae.ag ⟨[(1,_),(4,_),(5,_),(6,_),(23,B (decide (80<(c.length:Int))))],[(101,_)]⟩ rfl (ab.ite h7 rfl (fun _ h7=>?_) (fun _ h7=>?_)))))
 refine ab.seq (ab.aa ?_)
 refine Oc (aU fi rfl rfl) (Oc (an ca rfl rfl rfl rfl (zab rfl) rfl) (ae.ag ⟨[(4,_)],[(101,.box 164 [.i 0,.i 0,.str [],.i 0,.i 2])]⟩ rfl (ab.ret (Fin.ay (Fin.ay (Fin.bc ?_))))))
 obtain rfl:=zaa h7
 refine Fin.ay ?_
 obtain rfl:=hy5 _ (zaa h4).symm
 refine Fin.ay (Fin.bc (Fin.ay ?_))
 obtain rfl:=zaa h
 refine Fin.af ⟨[(4,_)],[(101,_)]⟩ rfl (Fin.au [.agg [.i 0,.i 0,.str [],.i 0,.i 2]] (.inl rfl) rfl (.cons (.agg ca rfl rfl rfl rfl) .nil) ⟨rfl,rfl⟩)
 refine ab.skip (Fin.af ⟨[(1,_),(4,_),(5,_),(6,_)],[(101,_)]⟩ rfl (Fin.then (ab.seq (ab.aa ?_))))
 refine Oc om (Oc om (Oc (aU cz rfl rfl) (Oc om (Oc (aL rfl rfl) (ae.qd lH h7 rfl (aU fi rfl rfl) (fun q h7=>?_))))))
 refine Oc (an ca rfl rfl rfl rfl (zab rfl) rfl) (ae.ag ⟨[(4,_)],[(101,.box 164 (lH q))]⟩ rfl (ab.ret (Fin.ay (Fin.bc ?_))))
 obtain rfl:=zaa h7
 refine Fin.ay ?_
 obtain rfl:=hy5 _ (zaa h4).symm
 refine Fin.ay (Fin.bc (Fin.ay ?_))
 obtain rfl:=zaa h
 refine Fin.af ⟨[(4,_)],[(101,_)]⟩ rfl (Fin.au [.agg (lH q)] (.inl rfl) rfl (.cons (.agg ca rfl rfl rfl rfl) .nil) ⟨rfl,rfl⟩)
 refine ab.skip (Fin.af ⟨[(0,_),(1,_),(4,_),(5,_),(6,_),(7,_)],[(101,_)]⟩ rfl (Fin.then (ab.seq (ab.seq (ab.aa ?_)))))
 refine Oc om (Oc (bt rfl rfl) (Oc om ?_))
 refine dD (!(decide ((g.toNat:Int)<32))) [] (fun g9=>trivial) (fun g9=>om) (dD (!(decide ((g.toNat:Int)<32))) [34] (fun g10=>by exact⟨g10,trivial⟩) (fun g10=>dy rfl rfl) (ae.il h7 rfl (aW (fun e=>by first|(rw[e];rfl)|(simp only at e;rw[e];rfl)) rfl rfl rfl rfl) (fun x h7=>(ae.ag ⟨[(0,_),(1,_),(4,_),(5,_),(6,_),(7,_),(36,B x)],[(101,_)]⟩ rfl (ab.ite h7 rfl (fun _ h7=>?_) (fun _ h7=>?_))))))
 refine ab.seq (ab.aa ?_)
 refine Oc (aU fi rfl rfl) (Oc (an ca rfl rfl rfl rfl (zab rfl) rfl) (ae.ag ⟨[(4,_)],[(101,.box 164 [.i 0,.i 0,.str [],.i 0,.i 280])]⟩ rfl (ab.ret (Fin.ay (Fin.bc ?_)))))
 obtain rfl:=zaa h7
 refine Fin.ay ?_
 obtain rfl:=hy5 _ (zaa h4).symm
 refine Fin.ay (Fin.bc (Fin.ay ?_))
 obtain rfl:=zaa h
 refine Fin.af ⟨[(4,_)],[(101,_)]⟩ rfl (Fin.au [.agg [.i 0,.i 0,.str [],.i 0,.i 280]] (.inl rfl) rfl (.cons (.agg ca rfl rfl rfl rfl) .nil) ⟨rfl,rfl⟩)
 refine ab.skip (Fin.af ⟨[(0,_),(1,_),(4,_),(5,_),(6,_),(7,_)],[(101,_)]⟩ rfl (Fin.then ?_))
 obtain⟨v11,h12,h7⟩:=aH h7
 refine ab.bR (v:=v11) (bQ fun (m:Int) (o:Int)=>⟨[(0,.b (.one (.str s0))),(1,I at0),(4,Pt 101 0),(5,.b (.one (.str c))),(6,I m),(7,.b (.one (.int .u8 o)))],[(101,.box 164 [.i 0,.i 0,.str [],.i 0,.i 0])]⟩) (fun z=>.inl z) ?_ ?_
 refine ab.seq (ab.aa ?_)
 refine Oc om (Oc (b8 rfl rfl) (ae.ag ⟨[(0,_),(1,_),(4,_),(5,_),(6,_),(7,_),(39,B (decide ((g.toNat:Int)=92)))],[(101,_)]⟩ rfl (ab.ite h12 rfl (fun _ h12=>?_) (fun _ h12=>?_))))
 refine ab.seq (ab.aa ?_)
 refine Oc om (Oc (aL rfl rfl) (Oc oa (ae.ag ⟨[(0,_),(1,_),(4,_),(5,_),(6,I (i64.wrap (a+1)))],[(101,_)]⟩ rfl (ab.seq (ab.seq (ab.aa ?_))))))
 refine Oc om (Oc om (Oc (bh cb rfl) (Oc (gf rfl rfl) (Oc om ?_))))
 refine dD (!(decide ((s0.length:Int)<=(i64.wrap (a+1))))) [] (fun g13=>trivial) (fun g13=>om) (ae.af ⟨[(0,_),(1,_),(4,_),(5,_),(6,_),(46,B (decide ((s0.length:Int)<=(i64.wrap (a+1))))),(47,.opt (!(decide ((s0.length:Int)<=(i64.wrap (a+1))))) (.one (.str s0)))],[(101,_)]⟩ rfl (dD (!(decide ((s0.length:Int)<=(i64.wrap (a+1))))) [] (fun g14=>by exact trivial) (fun g14=>om) ?_))
 obtain⟨f,e16,h12⟩:=aH h12
 refine dD (!(decide ((s0.length:Int)<=(i64.wrap (a+1))))) [47,48] (fun g15=>⟨g15,g15,trivial⟩) (fun g15=>aV cb rfl rfl (aR (gc e16 g15)) (cF (gc e16 g15))) (dD (!(decide ((s0.length:Int)<=(i64.wrap (a+1))))) [49] (fun g17=>⟨g17,trivial⟩) (fun g17=>dd rfl rfl) (dD (!(decide ((s0.length:Int)<=(i64.wrap (a+1))))) [50] (fun g18=>⟨g18,trivial⟩) (fun g18=>om) (ae.dQ ((!(decide ((s0.length:Int)<=(i64.wrap (a+1)))))&&(decide ((f.toNat:Int)≠34))) 99 [] (.under rfl) (j4 _ _) rfl rfl (fun g19=>by exact trivial) (fun g19=>om) (ae.dQ ((!(decide ((s0.length:Int)<=(i64.wrap (a+1)))))&&(decide ((f.toNat:Int)≠34))) 99 [] (.under rfl) (j4 _ _) rfl rfl (fun g20=>by exact trivial) (fun g20=>om) ?_))))
 obtain⟨y,e22,h12⟩:=aH h12
 refine ae.dQ ((!(decide ((s0.length:Int)<=(i64.wrap (a+1)))))&&(decide ((f.toNat:Int)≠34))) 99 [52,53] (.under rfl) (j4 _ _) rfl rfl (fun g21=>⟨g21,g21,trivial⟩) (fun g21=>aV cb rfl rfl (aR (gc e22 g21)) (cF (gc e22 g21))) (ae.dQ ((!(decide ((s0.length:Int)<=(i64.wrap (a+1)))))&&(decide ((f.toNat:Int)≠34))) 99 [54] (.under rfl) (j4 _ _) rfl rfl (fun g23=>⟨g23,trivial⟩) (fun g23=>dd rfl rfl) (dD (!(decide ((s0.length:Int)<=(i64.wrap (a+1))))) [51] (fun g24=>⟨g24,trivial⟩) (fun g24=>aD (fun e=>by rw[g24,e];rfl) rfl rfl rfl rfl) (ae.il h12 rfl (aW (fun e=>by first|(rw[e];rfl)|(simp only at e;rw[e];rfl)) rfl rfl rfl rfl) (fun t h12=>(ae.ag ⟨[(0,_),(1,_),(4,_),(5,_),(6,_),(57,B t)],[(101,_)]⟩ rfl (ab.ite h12 rfl (fun _ h12=>?_) (fun _ h12=>?_)))))))
 refine ab.seq (ab.aa ?_)
 refine Oc (aU fi rfl rfl) (Oc (an ca rfl rfl rfl rfl (zab rfl) rfl) (ae.ag ⟨[(4,_)],[(101,.box 164 [.i 0,.i 0,.str [],.i 0,.i 280])]⟩ rfl (ab.ret (Fin.ay ?_))))
 obtain rfl:=zaa h12
 refine Fin.ay (Fin.bc ?_)
 obtain rfl:=zaa h7
 refine Fin.ay ?_
 obtain rfl:=hy5 _ (zaa h4).symm
 refine Fin.ay (Fin.bc (Fin.ay ?_))
 obtain rfl:=zaa h
 refine Fin.af ⟨[(4,_)],[(101,_)]⟩ rfl (Fin.au [.agg [.i 0,.i 0,.str [],.i 0,.i 280]] (.inl rfl) rfl (.cons (.agg ca rfl rfl rfl rfl) .nil) ⟨rfl,rfl⟩)
 refine ab.skip (Fin.af ⟨[(0,_),(1,_),(4,_),(5,_),(6,_)],[(101,_)]⟩ rfl (Fin.then (ab.aa ?_)))
 refine Oc om (Oc om ?_)
 obtain⟨u,e25,h12⟩:=aH h12
 refine Oc (aV cb rfl rfl (aR e25) (cF e25)) (Oc oa (ae.nil ?_))
 exact Fin.join [0,1,4,5,6,7] [101] (i64.wrap (a+1),(u.toNat:Int)) (zaa h12) rfl
 refine ab.skip ?_
 exact Fin.join [0,1,4,5,6,7] [101] (a,(g.toNat:Int)) (zaa h12) rfl
 rintro⟨m,o⟩ hv
 subst v11
 refine ab.aa (Oc om (Oc om (Oc (aX (k:=102) (es:=[o].map (eK .u8)) mF rfl rfl (cg fun _=>rfl) rfl (by decide) (by decide) rfl) (ae.c5 102 rfl (Oc (jK kS oe cb rfl) ?_)))))
 obtain⟨w,e26,h7⟩:=aH h7
 refine Oc (fE e26 rfl rfl) (Oc oa (ae.nil (Fin.aA ?_)))
 exact Fin.join [0,1,4,5,6] [101] (w,m) (zaa h7) rfl
 rintro⟨d,j⟩ hv
 subst v6
 refine ab.aa (Oc om (Oc (aL rfl rfl) (Oc oa (ae.nil ?_))))
 exact Fin.bB [0,1,4,5,6] [101] (d,i64.wrap (j+1)) (zaa h4) rfl
 refine ab.exit (Fin.aw ?_)
 obtain rfl:=hy5 _ (zaa h4).symm
 refine Fin.aw (Fin.aJ ?_)
 exact Fin.join [4] [101] () rfl rfl
 rintro _ hv
 subst v1
 refine ab.seq (ab.aa ?_)
 refine Oc (aU fi rfl rfl) (Oc (an ca rfl rfl rfl rfl (zab rfl) rfl) (ae.ag ⟨[(4,_)],[(101,.box 164 [.i 0,.i 0,.str [],.i 0,.i 280])]⟩ rfl (ab.ret ?_)))
 obtain rfl:=zaa h
 refine Fin.af ⟨[(4,_)],[(101,_)]⟩ rfl (Fin.au [.agg [.i 0,.i 0,.str [],.i 0,.i 280]] (.inl rfl) rfl (.cons (.agg ca rfl rfl rfl rfl) .nil) ⟨rfl,rfl⟩)
def fV (F:Nat):Option (List Str) :=
 some [[46,46],[61,61],[33,61],[60,61],[62,61],[45,62],[40],[41],[123],[125],[91],[93],[44],[59],[58],[46],[61],[60],[62],[43],[45],[42],[47],[94],[64]]
theorem ob (kr0:Nat) {F:Nat} {r:(List Str)} (h:fV F=some r):ax prog (bd mx) 179 [] [] (Is [(kr0,.row 9 1 (r.map eS))] (.b (.row kr0))):=by
 unfold fV at h
 refine ax.intro 2 Tryz.func179 Tryz.ntmps179 rfl (by simp) fun E=>(ab.seq (ab.aa ?_))
 refine Oc oa (ae.ag ⟨[],[]⟩ rfl (ab.seq (ab.aa ?_)))
 refine Oc (aX (k:=101) (es:=[[46,46],[61,61],[33,61],[60,61],[62,61],[45,62],[40],[41],[123],[125],[91],[93],[44],[59],[58],[46],[61],[60],[62],[43],[45],[42],[47],[94],[64]].map eS) dX rfl rfl (cg fun _=>rfl) rfl (by decide) (by decide) rfl) (Oc oa (ae.ag ⟨[(0,.b (.row 101))],[(101,.row 9 1 ([[46,46],[61,61],[33,61],[60,61],[62,61],[45,62],[40],[41],[123],[125],[91],[93],[44],[59],[58],[46],[61],[60],[62],[43],[45],[42],[47],[94],[64]].map eS))]⟩ rfl (ab.ret ?_)))
 obtain rfl:=zaa h
 refine Fin.af ⟨[(0,_)],[(101,_)]⟩ rfl (Fin.CS 101 kr0 [.row 101] (.inl rfl) rfl (.cons (.tmp rfl) .nil) rfl rfl rfl rfl ⟨rfl,rfl⟩)
def eZ (F:Nat) (s0:Str) (at0:Int):Option qk :=
 (fV F).bind fun d=>Option.bind (iter F (fun a=>if (decide (a<(d.length:Int)))=true then ((aS d a).bind fun c=>(aT (decide ((i64.wrap (at0+(c.length:Int)))<=(s0.length:Int))) (vF s0 at0 (i64.wrap (at0+(c.length:Int))))).bind fun e=>(aT (decide ((i64.wrap (at0+(c.length:Int)))<=(s0.length:Int))) (aS d a)).bind fun f=>if ((decide ((i64.wrap (at0+(c.length:Int)))<=(s0.length:Int)))&&(decide (e=f)))=true then ((aS d a).bind fun g=>bA (i64.wrap (at0+(c.length:Int))) fun h=>bA (⟨(⟨5,at0,g⟩:Token),h,0⟩:qk) fun j=>some (.inr (.inr j))) else (some (.inl (i64.wrap (a+1))))) else (some (.inr (.inl ())))) 0) (cW (fun _=>some (⟨(⟨0,0,[]⟩:Token),0,280⟩:qk)) (fun y=>some y))
theorem oQ {F:Nat} {s0:Str} {at0:Int} {r:qk} (h:eZ F s0 at0=some r):ax prog (bd mx) 160 [] [.one (.str s0),.one (.i at0)] (Is [] (.b (.agg (lH r)))):=by
 unfold eZ at h
 refine ax.intro 50 Tryz.func160 Tryz.ntmps160 rfl (by simp) fun E=>(ab.seq (ab.aa ?_))
 refine Oc (aF (k:=101) mw rfl) (ae.ag ⟨[(0,.b (.one (.str s0))),(1,I at0),(4,Pt 101 0)],[(101,.box 164 [.i 0,.i 0,.str [],.i 0,.i 0])]⟩ rfl (ab.seq (ab.aa ?_)))
 obtain⟨j,e1,h⟩:=aH h
 refine Oc (cK (ob 102 e1) goes179 rfl trivial rfl rfl) (Oc oa (ae.ag ⟨[(0,_),(1,_),(4,_),(5,.b (.row 102))],[(101,_),(102,.row 9 1 (j.map eS))]⟩ rfl ?_))
 obtain⟨v2,h3,h⟩:=aH h
 refine ab.bR (v:=v2) (fun (_:Unit)=>⟨[(4,Pt 101 0)],[(101,.box 164 [.i 0,.i 0,.str [],.i 0,.i 0])]⟩) (fun z=>.inl z) ?_ ?_
 refine ab.seq (ab.aa ?_)
 refine Oc oa (ae.ag ⟨[(0,_),(1,_),(4,_),(5,_),(6,I 0)],[(101,_),(102,_)]⟩ rfl (ab.block (ab.cx h3 (fun (c:Int)=>⟨[(0,.b (.one (.str s0))),(1,I at0),(4,Pt 101 0),(5,.b (.row 102)),(6,I c)],[(101,.box 164 [.i 0,.i 0,.str [],.i 0,.i 0]),(102,.row 9 1 (j.map eS))]⟩) [0,1,4,5,6] [101,102] rfl ?_)))
 rintro c o4 h5 hy6
 refine ab.seq (ab.seq (ab.aa ?_))
 refine Oc om (Oc om (Oc (oJ nB rfl rfl (List.length_map _)) (Oc (bt rfl rfl) (ae.ag ⟨[(0,_),(1,_),(4,_),(5,_),(6,_),(12,B (decide (c<(j.length:Int))))],[(101,_),(102,_)]⟩ rfl (ab.ite h5 rfl (fun _ h5=>?_) (fun _ h5=>?_))))))
 refine ab.skip (Fin.af ⟨[(0,_),(1,_),(4,_),(5,_),(6,_)],[(101,_),(102,_)]⟩ rfl (Fin.then (ab.seq (ab.block (ab.seq (ab.aa ?_))))))
 refine Oc om (Oc om ?_)
 obtain⟨a,e7,h5⟩:=aH h5
 refine Oc (fO dX (aR e7) (mK e7) rfl rfl rfl rfl) (Oc (jX (i:=(c:Int).toNat) (f:=0) b7 rfl rfl rfl (cu (e:=eS) e7) rfl) (Oc (bh cb rfl) (Oc oa (ae.ag ⟨[(0,_),(1,_),(4,_),(5,_),(6,_),(7,I (a.length:Int))],[(101,_),(102,_)]⟩ rfl (ab.seq ?_)))))
 obtain⟨d,e14,h5⟩:=aH h5
 obtain⟨g,e18,h5⟩:=aH h5
 refine ab.bN mixed 19 ((fun z_=>[I at0,I (a.length:Int),I (i64.wrap (at0+(a.length:Int))),.b (.one (.str s0)),I (s0.length:Int),B (decide ((i64.wrap (at0+(a.length:Int)))<=(s0.length:Int))),B (decide ((i64.wrap (at0+(a.length:Int)))<=(s0.length:Int))),.opt z_ (.one (.str s0)),.opt z_ (.one (.i at0)),.opt z_ (.one (.i at0)),.opt z_ (.one (.i (a.length:Int))),.opt z_ (.one (.i (i64.wrap (at0+(a.length:Int))))),.opt z_ (.one (.str d)),.opt z_ (.row 102),.opt z_ (.one (.i c)),.opt z_ (.nh 102 ((c:Int).toNat*1)),.opt z_ (.one (.str g)),.opt z_ (.one (.bool (decide (d=g)))),B ((decide ((i64.wrap (at0+(a.length:Int)))<=(s0.length:Int)))&&(decide (d=g)))]) (decide ((i64.wrap (at0+(a.length:Int)))<=(s0.length:Int)))) [0,1,4,5,6,7,38] [101,102] (s':=⟨[(0,_),(1,_),(4,_),(5,_),(6,_),(7,_),(38,B ((decide ((i64.wrap (at0+(a.length:Int)))<=(s0.length:Int)))&&(decide (d=g))))],[(101,_),(102,_)]⟩) rfl ⟨fun _=>.p om,fun _=>.p om,fun _=>.p (aL rfl rfl),fun _=>.p om,fun _=>.p (bh cb rfl),fun _=>.p (nY rfl rfl),fun _=>.p om,fun _=>by exact .guard (decide ((i64.wrap (at0+(a.length:Int)))<=(s0.length:Int))) 1 [] (.plain rfl) (cy _) rfl rfl (fun g8=>trivial) (fun g8=>om),fun _=>by exact .guard (decide ((i64.wrap (at0+(a.length:Int)))<=(s0.length:Int))) 1 [] (.plain rfl) (cy _) rfl rfl (fun g9=>trivial) (fun g9=>om),fun _=>by exact .guard (decide ((i64.wrap (at0+(a.length:Int)))<=(s0.length:Int))) 1 [] (.plain rfl) (cy _) rfl rfl (fun g10=>trivial) (fun g10=>om),fun _=>by exact .guard (decide ((i64.wrap (at0+(a.length:Int)))<=(s0.length:Int))) 1 [] (.plain rfl) (cy _) rfl rfl (fun g11=>trivial) (fun g11=>om),fun _=>by exact .guard (decide ((i64.wrap (at0+(a.length:Int)))<=(s0.length:Int))) 3 [29,30] (.plain rfl) (cy _) rfl rfl (fun g12=>⟨g12,g12,trivial⟩) (fun g12=>aL rfl rfl),fun _=>by exact .guard (decide ((i64.wrap (at0+(a.length:Int)))<=(s0.length:Int))) 4 [27,28,31] (.plain rfl) (cy _) rfl rfl (fun g13=>⟨g13,g13,g13,trivial⟩) (fun g13=>gx cb (gc e14 g13) rfl rfl rfl),fun _=>by exact .guard (decide ((i64.wrap (at0+(a.length:Int)))<=(s0.length:Int))) 1 [] (.plain rfl) (cy _) rfl rfl (fun g15=>trivial) (fun g15=>om),fun _=>by exact .guard (decide ((i64.wrap (at0+(a.length:Int)))<=(s0.length:Int))) 1 [] (.plain rfl) (cy _) rfl rfl (fun g16=>trivial) (fun g16=>om),fun _=>by exact .guard (decide ((i64.wrap (at0+(a.length:Int)))<=(s0.length:Int))) 3 [33,34] (.plain rfl) (cy _) rfl rfl (fun g17=>⟨g17,g17,trivial⟩) (fun g17=>fO dX (aR (gc e18 g17)) (mK (gc e18 g17)) rfl rfl rfl rfl),fun _=>by exact .guard (decide ((i64.wrap (at0+(a.length:Int)))<=(s0.length:Int))) 2 [35] (.plain rfl) (cy _) rfl rfl (fun g19=>⟨g19,trivial⟩) (fun g19=>jX (i:=(c:Int).toNat) (f:=0) b7 rfl rfl rfl (cu (e:=eS) (gc e18 g19)) rfl),fun _=>by exact .guard (decide ((i64.wrap (at0+(a.length:Int)))<=(s0.length:Int))) 3 [32,36] (.plain rfl) (cy _) rfl rfl (fun g20=>⟨g20,g20,trivial⟩) (fun g20=>iU rfl rfl),fun _=>.p (aD (fun e=>e) rfl rfl rfl rfl),trivial⟩ rfl rfl ?_
 refine ab.ite h5 rfl (fun _ h5=>?_) (fun _ h5=>?_)
 refine ab.seq (ab.aa ?_)
 refine Oc om (Oc om (Oc om ?_))
 obtain⟨o,e21,h5⟩:=aH h5
 refine Oc (fO dX (aR e21) (mK e21) rfl rfl rfl rfl) (Oc (jX (i:=(c:Int).toNat) (f:=0) b7 rfl rfl rfl (cu (e:=eS) e21) rfl) (Oc (aU cz rfl rfl) (Oc om (ae.af ⟨[(4,_),(7,_),(44,.b (.agg [.i 5,.i at0,.str o])),(45,I at0)],[(101,_)]⟩ rfl (Oc om (ae.cJ .i64 h5 rfl (aL rfl rfl) (fun q h5=>(ae.qd lH h5 rfl (aU fi rfl rfl) (fun m h5=>?_)))))))))
 refine Oc (an ca rfl rfl rfl rfl (zab rfl) rfl) (ae.ag ⟨[(4,_)],[(101,.box 164 (lH m))]⟩ rfl (ab.ret (Fin.bc (Fin.ay ?_))))
 obtain rfl:=hy6 _ (zaa h5).symm
 refine Fin.ay (Fin.bc (Fin.ay ?_))
 obtain rfl:=zaa h
 refine Fin.af ⟨[(4,_)],[(101,_)]⟩ rfl (Fin.au [.agg (lH m)] (.inl rfl) rfl (.cons (.agg ca rfl rfl rfl rfl) .nil) ⟨rfl,rfl⟩)
 refine ab.skip (Fin.aA (Fin.af ⟨[(0,_),(1,_),(4,_),(5,_),(6,_)],[(101,_),(102,_)]⟩ rfl (Fin.then (ab.aa ?_))))
 refine Oc om (Oc (aL rfl rfl) (Oc oa (ae.nil ?_)))
 exact Fin.bB [0,1,4,5,6] [101,102] (i64.wrap (c+1)) (zaa h5) rfl
 refine ab.exit (Fin.aw ?_)
 obtain rfl:=hy6 _ (zaa h5).symm
 refine Fin.aw (Fin.aJ ?_)
 exact Fin.join [4] [101] () rfl rfl
 rintro _ hv
 subst v2
 refine ab.seq (ab.aa ?_)
 refine Oc (aU fi rfl rfl) (Oc (an ca rfl rfl rfl rfl (zab rfl) rfl) (ae.ag ⟨[(4,_)],[(101,.box 164 [.i 0,.i 0,.str [],.i 0,.i 280])]⟩ rfl (ab.ret ?_)))
 obtain rfl:=zaa h
 refine Fin.af ⟨[(4,_)],[(101,_)]⟩ rfl (Fin.au [.agg [.i 0,.i 0,.str [],.i 0,.i 280]] (.inl rfl) rfl (.cons (.agg ca rfl rfl rfl rfl) .nil) ⟨rfl,rfl⟩)
def eC (F:Nat) (s0:Str) (at0:Int):Option qk :=
 (aS s0 at0).bind fun a=>(cT F (a.toNat:Int)).bind fun c=>if c=true then ((fa F s0 at0).bind fun d=>some d) else ((aS s0 at0).bind fun e=>(df F (e.toNat:Int)).bind fun f=>if f=true then ((ee F s0 at0).bind fun g=>some g) else ((aS s0 at0).bind fun h=>if (decide ((h.toNat:Int)=34))=true then ((eY F s0 at0).bind fun j=>some j) else ((eZ F s0 at0).bind fun k=>some k)))
theorem n7 {F:Nat} {s0:Str} {at0:Int} {r:qk} (h:eC F s0 at0=some r):ax prog (bd mx) 122 [] [.one (.str s0),.one (.i at0)] (Is [] (.b (.agg (lH r)))):=by
 unfold eC at h
 refine ax.intro 32 Tryz.func122 Tryz.ntmps122 rfl (by simp) fun E=>(ab.seq (ab.aa ?_))
 refine Oc (aF (k:=101) mw rfl) (ae.ag ⟨[(0,.b (.one (.str s0))),(1,I at0),(4,Pt 101 0)],[(101,.box 164 [.i 0,.i 0,.str [],.i 0,.i 0])]⟩ rfl (ab.seq (ab.block (ab.seq (ab.aa ?_)))))
 refine Oc om (Oc om ?_)
 obtain⟨m,e1,h⟩:=aH h
 refine Oc (aV cb rfl rfl (aR e1) (cF e1)) ?_
 obtain⟨f,e2,h⟩:=aH h
 refine Oc (ah (gg e2) y9 rfl rfl) (Oc oa (ae.ag ⟨[(0,_),(1,_),(4,_),(5,B f)],[(101,_)]⟩ rfl (ab.ite h rfl (fun _ h=>?_) (fun _ h=>?_))))
 refine ab.seq (ab.aa ?_)
 refine Oc om (Oc om ?_)
 obtain⟨a,e3,h⟩:=aH h
 refine Oc (ah (oR e3) goes156 rfl rfl) (Oc (an ca rfl rfl rfl rfl (zab rfl) rfl) (ae.ag ⟨[(4,_)],[(101,.box 164 (lH a))]⟩ rfl (ab.ret (Fin.bc (Fin.ay ?_)))))
 obtain rfl:=zaa h
 refine Fin.af ⟨[(4,_)],[(101,_)]⟩ rfl (Fin.au [.agg (lH a)] (.inl rfl) rfl (.cons (.agg ca rfl rfl rfl rfl) .nil) ⟨rfl,rfl⟩)
 refine ab.seq (ab.aa ?_)
 refine Oc om (Oc om ?_)
 obtain⟨o,e4,h⟩:=aH h
 refine Oc (aV cb rfl rfl (aR e4) (cF e4)) ?_
 obtain⟨g,e5,h⟩:=aH h
 refine Oc (ah (eO e5) vZ rfl rfl) (Oc oa (ae.ag ⟨[(0,_),(1,_),(4,_),(13,B g)],[(101,_)]⟩ rfl (ab.ite h rfl (fun _ h=>?_) (fun _ h=>?_))))
 refine ab.seq (ab.aa ?_)
 refine Oc om (Oc om ?_)
 obtain⟨c,e6,h⟩:=aH h
 refine Oc (ah (nj e6) goes158 rfl rfl) (Oc (an ca rfl rfl rfl rfl (zab rfl) rfl) (ae.ag ⟨[(4,_)],[(101,.box 164 (lH c))]⟩ rfl (ab.ret (Fin.bc (Fin.ay ?_)))))
 obtain rfl:=zaa h
 refine Fin.af ⟨[(4,_)],[(101,_)]⟩ rfl (Fin.au [.agg (lH c)] (.inl rfl) rfl (.cons (.agg ca rfl rfl rfl rfl) .nil) ⟨rfl,rfl⟩)
 refine ab.seq (ab.aa ?_)
 refine Oc om (Oc om ?_)
 obtain⟨j,e7,h⟩:=aH h
 refine Oc (aV cb rfl rfl (aR e7) (cF e7)) (Oc (b8 rfl rfl) (Oc oa (ae.ag ⟨[(0,_),(1,_),(4,_),(21,B (decide ((j.toNat:Int)=34)))],[(101,_)]⟩ rfl (ab.ite h rfl (fun _ h=>?_) (fun _ h=>?_)))))
 refine ab.seq (ab.aa ?_)
 refine Oc om (Oc om ?_)
 obtain⟨d,e8,h⟩:=aH h
 refine Oc (ah (oP e8) goes159 rfl rfl) (Oc (an ca rfl rfl rfl rfl (zab rfl) rfl) (ae.ag ⟨[(4,_)],[(101,.box 164 (lH d))]⟩ rfl (ab.ret (Fin.bc (Fin.ay ?_)))))
 obtain rfl:=zaa h
 refine Fin.af ⟨[(4,_)],[(101,_)]⟩ rfl (Fin.au [.agg (lH d)] (.inl rfl) rfl (.cons (.agg ca rfl rfl rfl rfl) .nil) ⟨rfl,rfl⟩)
 refine ab.skip (Fin.aA (Fin.af ⟨[(0,_),(1,_),(4,_)],[(101,_)]⟩ rfl (Fin.then (ab.seq (ab.aa ?_)))))
 refine Oc om (Oc om ?_)
 obtain⟨e,e9,h⟩:=aH h
 refine Oc (ah (oQ e9) goes160 rfl rfl) (Oc (an ca rfl rfl rfl rfl (zab rfl) rfl) (ae.ag ⟨[(4,_)],[(101,.box 164 (lH e))]⟩ rfl (ab.ret ?_)))
 obtain rfl:=zaa h
 refine Fin.af ⟨[(4,_)],[(101,_)]⟩ rfl (Fin.au [.agg (lH e)] (.inl rfl) rfl (.cons (.agg ca rfl rfl rfl rfl) .nil) ⟨rfl,rfl⟩)
def ef (F:Nat) (s0:Str):Option ti :=
 if (decide (100000<(s0.length:Int)))=true then (some (⟨[],(⟨0,2⟩:Problem)⟩:ti)) else (Option.bind ((dU F s0 0).bind fun f=>iter F (bQ fun a c=>if (decide (c<(s0.length:Int)))=true then ((eC F s0 c).bind fun d=>if (decide (d.E≠0))=true then (some (.inr (.inr (⟨[],(⟨c,d.E⟩:Problem)⟩:ti)))) else ((gU a [d.T]).bind fun g=>(dU F s0 d.End).bind fun h=>some (.inl (g,h)))) else (some (.inr (.inl a)))) ([],f)) (cW (fun e=>some (⟨e,(⟨0,0⟩:Problem)⟩:ti)) (fun y=>some y)))
theorem nk {F:Nat} {s0:Str} {r:ti} (h:ef F s0=some r):ax prog (bd mx) 62 [] [.one (.str s0)] (Is [] (.b (.agg (FL r)))):=by
 unfold ef at h
 refine ax.intro 40 Tryz.func62 Tryz.ntmps62 rfl (by simp) fun E=>(ab.seq (ab.aa ?_))
 refine Oc (aF (k:=101) x5 rfl) (ae.ag ⟨[(0,.b (.one (.str s0))),(2,Pt 101 0)],[(101,.box 102 [.nil,.i 0,.i 0])]⟩ rfl (ab.seq (ab.seq (ab.aa ?_))))
 refine Oc om (Oc (bh cb rfl) (Oc (dy rfl rfl) (ae.ag ⟨[(0,_),(2,_),(8,B (decide (100000<(s0.length:Int))))],[(101,_)]⟩ rfl (ab.ite h rfl (fun _ h=>?_) (fun _ h=>?_)))))
 refine ab.seq (ab.aa ?_)
 refine Oc (aU gP rfl rfl) (Oc (aU sW rfl rfl) (Oc (an mN rfl rfl rfl rfl (zab rfl) rfl) (ae.ag ⟨[(2,_)],[(101,.box 102 [.nil,.i 0,.i 2])]⟩ rfl (ab.ret (Fin.ay ?_)))))
 obtain rfl:=zaa h
 refine Fin.af ⟨[(2,_)],[(101,_)]⟩ rfl (Fin.ku 101 0 3 rfl rfl (by decide) (Fin.au [.agg [.sl 3 ([].map aC),.i 0,.i 2]] (.inl rfl) rfl (.cons (.agg mN rfl rfl rfl rfl) .nil) ⟨rfl,rfl⟩))
 refine ab.skip (Fin.af ⟨[(0,_),(2,_)],[(101,_)]⟩ rfl (Fin.then (ab.seq (ab.aa ?_))))
 refine Oc oa (ae.ag ⟨[(0,_),(2,_),(3,.b (.one (.nil)))],[(101,_)]⟩ rfl ?_)
 obtain⟨v1,h2,h⟩:=aH h
 refine ab.bR (v:=v1) (fun (a:List Token)=>⟨[(2,Pt 101 0),(3,.b (.row 104))],[(101,.box 102 [.nil,.i 0,.i 0]),(104,.row 31 3 (a.map aC))]⟩) (fun z=>.inl z) ?_ ?_
 refine ab.seq (ab.aa ?_)
 refine Oc om ?_
 obtain⟨g,e3,h2⟩:=aH h2
 refine Oc (ah (kg e3) Dg rfl rfl) (Oc oa (ae.ag ⟨[(0,_),(2,_),(3,_),(4,I g)],[(101,_)]⟩ rfl (ab.block (ab.kr 3 104 3 31 rfl (by decide) rfl (ab.cx h2 (bQ fun (d:List Token) (c:Int)=>⟨[(0,.b (.one (.str s0))),(2,Pt 101 0),(3,.b (.row 104)),(4,I c)],[(101,.box 102 [.nil,.i 0,.i 0]),(104,.row 31 3 (d.map aC))]⟩) [0,2,3,4] [101,104] rfl ?_)))))
 rintro⟨d,c⟩ o4 h5 hy6
 refine ab.seq (ab.seq (ab.aa ?_))
 refine Oc om (Oc om (Oc (bh cb rfl) (Oc (bt rfl rfl) (ae.ag ⟨[(0,_),(2,_),(3,_),(4,_),(16,B (decide (c<(s0.length:Int))))],[(101,_),(104,_)]⟩ rfl (ab.ite h5 rfl (fun _ h5=>?_) (fun _ h5=>?_))))))
 refine ab.skip (Fin.af ⟨[(0,_),(2,_),(3,_),(4,_)],[(101,_),(104,_)]⟩ rfl (Fin.then (ab.seq (ab.block (ab.seq (ab.aa ?_))))))
 refine Oc om (Oc om ?_)
 obtain⟨e,e7,h5⟩:=aH h5
 refine Oc (ah (n7 e7) goes122 rfl rfl) (Oc (aF (k:=105) mw rfl) (Oc (an ca rfl rfl rfl rfl (zab rfl) rfl) (ae.ag ⟨[(0,_),(2,_),(3,_),(4,_),(5,Pt 105 0)],[(101,_),(104,_),(105,.box 164 (lH e))]⟩ rfl (ab.seq (ab.seq (ab.aa ?_))))))
 refine Oc (aj xf rfl rfl) (Oc (ao rB rfl rfl rfl) (Oc (dd rfl rfl) (ae.ag ⟨[(0,_),(2,_),(3,_),(4,_),(5,_),(25,B (decide (e.E≠0)))],[(101,_),(104,_),(105,_)]⟩ rfl (ab.ite h5 rfl (fun _ h5=>?_) (fun _ h5=>?_)))))
 refine ab.seq (ab.aa ?_)
 refine Oc om (Oc (aj xf rfl rfl) (Oc (ao rB rfl rfl rfl) (Oc (aU gP rfl rfl) (Oc (aU sW rfl rfl) (Oc (an mN rfl rfl rfl rfl (zab rfl) rfl) (ae.ag ⟨[(2,_)],[(101,.box 102 [.nil,.i c,.i e.E])]⟩ rfl (ab.ret (Fin.ay (Fin.bc (Fin.ay ?_))))))))))
 obtain rfl:=hy6 _ (zaa h5).symm
 refine Fin.ay (Fin.bc (Fin.ay ?_))
 obtain rfl:=zaa h
 refine Fin.af ⟨[(2,_)],[(101,_)]⟩ rfl (Fin.ku 101 0 3 rfl rfl (by decide) (Fin.au [.agg [.sl 3 ([].map aC),.i c,.i e.E]] (.inl rfl) rfl (.cons (.agg mN rfl rfl rfl rfl) .nil) ⟨rfl,rfl⟩))
 refine ab.skip (Fin.af ⟨[(0,_),(2,_),(3,_),(5,_)],[(101,_),(104,_),(105,_)]⟩ rfl (Fin.then (ab.seq (ab.aa ?_))))
 refine Oc om (Oc (aj BT rfl rfl) (Oc (lp bK) (Oc (aX (k:=106) (es:=[e.T].map aC) fh rfl rfl (cg fun _=>rfl) rfl (by decide) (by decide) rfl) ?_)))
 obtain⟨f,e8,h5⟩:=aH h5
 refine Oc (eV fh (oo e8) (oi e8) rfl rfl rfl rfl (jj e8) rfl) (Oc oa (ae.ag ⟨[(0,_),(2,_),(3,_),(5,_)],[(101,_),(104,.row 31 3 (f.map aC)),(105,_)]⟩ rfl (ab.aa (Oc (aj BS rfl rfl) (Oc (ao bI rfl rfl rfl) (Oc oa (ae.nil (Fin.aA (Fin.af ⟨[(0,_),(2,_),(3,_),(4,I e.End)],[(101,_),(104,_)]⟩ rfl (Fin.then (ab.aa ?_)))))))))))
 refine Oc om (Oc om ?_)
 obtain⟨j,e9,h5⟩:=aH h5
 refine Oc (ah (kg e9) Dg rfl rfl) (Oc oa (ae.nil ?_))
 exact Fin.bB [0,2,3,4] [101,104] (f,j) (zaa h5) rfl
 refine ab.exit (Fin.aw ?_)
 obtain rfl:=hy6 _ (zaa h5).symm
 refine Fin.aw (Fin.aJ ?_)
 exact Fin.join [2,3] [101,104] d rfl rfl
 rintro a hv
 subst v1
 refine ab.seq (ab.aa ?_)
 refine Oc om (ae.c5 104 rfl (Oc (aU sW rfl rfl) (Oc (an mN rfl rfl rfl rfl (zab rfl) rfl) (ae.ag ⟨[(2,Pt 101 0)],[(101,.box 102 [.sl 3 (a.map aC),.i 0,.i 0])]⟩ rfl (ab.ret ?_)))))
 obtain rfl:=zaa h
 refine Fin.af ⟨[(2,_)],[(101,_)]⟩ rfl (Fin.au [.agg [.sl 3 (a.map aC),.i 0,.i 0]] (.inl rfl) rfl (.cons (.agg mN rfl rfl rfl rfl) .nil) ⟨rfl,rfl⟩)
def c8 (F:Nat) (t0:Token):Option Bool :=
 if (decide (200<(t0.S.length:Int)))=true then (some false) else ((dq F t0).bind fun c=>(ef F c).bind fun a=>(aT ((decide (a.P.E=0))&&(decide ((a.L.length:Int)=1))) (aS a.L (min 0 (i64.wrap ((a.L.length:Int)-1))))).bind fun d=>some (((decide (a.P.E=0))&&(decide ((a.L.length:Int)=1)))&&(decide (d=(⟨t0.Kind,0,t0.S⟩:Token)))))
theorem iI {F:Nat} {t0:Token} {r:Bool} (h:c8 F t0=some r):ax prog (bd mx) 29 [] [.agg (aC t0)] (Is [] (.b (.one (.bool r)))):=by
 unfold c8 at h
 refine ax.intro 38 Tryz.func29 Tryz.ntmps29 rfl (by simp) fun E=>(ab.seq (ab.aa ?_))
 refine Oc (bE (k:=101) rfl rfl) (Oc oa (ae.ag ⟨[(1,Pt 101 0)],[(101,.box 31 (aC t0))]⟩ rfl (ab.seq (ab.seq (ab.aa ?_)))))
 refine Oc (aj dS rfl rfl) (Oc (ao b7 rfl rfl rfl) (Oc (bh cb rfl) (Oc (dy rfl rfl) (ae.ag ⟨[(1,_),(7,B (decide (200<(t0.S.length:Int))))],[(101,_)]⟩ rfl (ab.ite h rfl (fun _ h=>?_) (fun _ h=>?_))))))
 refine ab.seq (ab.aa ?_)
 refine Oc oa (ae.ag ⟨[(2,B false)],[]⟩ rfl (ab.ret (Fin.ay ?_)))
 obtain rfl:=zaa h
 refine Fin.af ⟨[(2,_)],[]⟩ rfl (Fin.au [.one (.bool false)] (.inl rfl) rfl (.cons (.tmp rfl) .nil) ⟨rfl,rfl⟩)
 refine ab.skip (Fin.af ⟨[(1,_)],[(101,_)]⟩ rfl (Fin.then (ab.seq (ab.aa ?_))))
 refine Oc (lp bK) ?_
 obtain⟨d,e1,h⟩:=aH h
 refine Oc (ah (jc e1) Fy rfl rfl) ?_
 obtain⟨a,e2,h⟩:=aH h
 refine Oc (ah (nk e2) goes62 rfl rfl) (Oc (aF (k:=102) x5 rfl) (Oc (an mN rfl rfl rfl rfl (zab rfl) rfl) (ae.ag ⟨[(1,_),(3,Pt 102 0)],[(101,_),(102,.box 102 (FL a))]⟩ rfl (ab.seq ?_))))
 obtain⟨c,e15,h⟩:=aH h
 refine ab.bN mixed 28 ((fun z_=>[Pt 102 1,Pt 102 2,I a.P.E,B (decide (a.P.E=0)),B (decide (a.P.E=0)),.opt (decide (a.P.E=0)) (.ptr 102 0),.opt (decide (a.P.E=0)) (.one (.sl 3 (a.L.map aC))),.opt (decide (a.P.E=0)) (.one (.i (a.L.length:Int))),.opt (decide (a.P.E=0)) (.one (.bool (decide ((a.L.length:Int)=1)))),B ((decide (a.P.E=0))&&(decide ((a.L.length:Int)=1))),B ((decide (a.P.E=0))&&(decide ((a.L.length:Int)=1))),.opt z_ (.ptr 102 0),.opt z_ (.one (.sl 3 (a.L.map aC))),.opt z_ (.ptr 102 0),.opt z_ (.one (.sl 3 (a.L.map aC))),.opt z_ (.one (.i (a.L.length:Int))),.opt z_ (.one (.i (i64.wrap ((a.L.length:Int)-1)))),.opt z_ (.one (.i (min 0 (i64.wrap ((a.L.length:Int)-1))))),.opt z_ (.dc (aC c)),.opt z_ (.agg (aC c)),.opt z_ (.ptr 101 0),.opt z_ (.one (.i t0.Kind)),.opt z_ (.ptr 101 2),.opt z_ (.one (.str t0.S)),.opt z_ (.agg [.i t0.Kind,.i 0,.str t0.S]),.opt z_ (.one (.bool (decide (c=(⟨t0.Kind,0,t0.S⟩:Token))))),B (((decide (a.P.E=0))&&(decide ((a.L.length:Int)=1)))&&(decide (c=(⟨t0.Kind,0,t0.S⟩:Token)))),B (((decide (a.P.E=0))&&(decide ((a.L.length:Int)=1)))&&(decide (c=(⟨t0.Kind,0,t0.S⟩:Token))))]) ((decide (a.P.E=0))&&(decide ((a.L.length:Int)=1)))) [2] [] (s':=⟨[(2,B (((decide (a.P.E=0))&&(decide ((a.L.length:Int)=1)))&&(decide (c=(⟨t0.Kind,0,t0.S⟩:Token)))))],[]⟩) rfl ⟨fun _=>.p (aj BW rfl rfl),fun _=>.p (aj DM rfl rfl),fun _=>.p (ao rB rfl rfl rfl),fun _=>.p (b8 rfl rfl),fun _=>.p om,fun _=>by exact .guard (decide (a.P.E=0)) 1 [] (.plain rfl) (cy _) rfl rfl (fun g3=>trivial) (fun g3=>aj sV rfl rfl),fun _=>by exact .guard (decide (a.P.E=0)) 2 [16] (.plain rfl) (cy _) rfl rfl (fun g4=>⟨g4,trivial⟩) (fun g4=>ao eH rfl rfl rfl),fun _=>by exact .guard (decide (a.P.E=0)) 2 [17] (.plain rfl) (cy _) rfl rfl (fun g5=>⟨g5,trivial⟩) (fun g5=>ba qa rfl (List.length_map _)),fun _=>by exact .guard (decide (a.P.E=0)) 2 [18] (.plain rfl) (cy _) rfl rfl (fun g6=>⟨g6,trivial⟩) (fun g6=>b8 rfl rfl),fun _=>.p (aD (fun e=>e) rfl rfl rfl rfl),fun _=>.p om,fun _=>by exact .guard ((decide (a.P.E=0))&&(decide ((a.L.length:Int)=1))) 1 [] (.plain rfl) (cy _) rfl rfl (fun g7=>trivial) (fun g7=>aj sV rfl rfl),fun _=>by exact .guard ((decide (a.P.E=0))&&(decide ((a.L.length:Int)=1))) 2 [22] (.plain rfl) (cy _) rfl rfl (fun g8=>⟨g8,trivial⟩) (fun g8=>ao eH rfl rfl rfl),fun _=>by exact .guard ((decide (a.P.E=0))&&(decide ((a.L.length:Int)=1))) 1 [] (.plain rfl) (cy _) rfl rfl (fun g9=>trivial) (fun g9=>aj sV rfl rfl),fun _=>by exact .guard ((decide (a.P.E=0))&&(decide ((a.L.length:Int)=1))) 2 [24] (.plain rfl) (cy _) rfl rfl (fun g10=>⟨g10,trivial⟩) (fun g10=>ao eH rfl rfl rfl),fun _=>by exact .guard ((decide (a.P.E=0))&&(decide ((a.L.length:Int)=1))) 2 [25] (.plain rfl) (cy _) rfl rfl (fun g11=>⟨g11,trivial⟩) (fun g11=>ba qa rfl (List.length_map _)),fun _=>by exact .guard ((decide (a.P.E=0))&&(decide ((a.L.length:Int)=1))) 2 [26] (.plain rfl) (cy _) rfl rfl (fun g12=>⟨g12,trivial⟩) (fun g12=>bW rfl rfl),fun _=>by exact .guard ((decide (a.P.E=0))&&(decide ((a.L.length:Int)=1))) 2 [27] (.plain rfl) (cy _) rfl rfl (fun g13=>⟨g13,trivial⟩) (fun g13=>E0 rfl rfl),fun _=>by exact .guard ((decide (a.P.E=0))&&(decide ((a.L.length:Int)=1))) 3 [23,28] (.plain rfl) (cy _) rfl rfl (fun g14=>⟨g14,g14,trivial⟩) (fun g14=>bm fh (aR (gc e15 g14)) (cu (e:=aC) (gc e15 g14)) rfl rfl),fun _=>by exact .guard ((decide (a.P.E=0))&&(decide ((a.L.length:Int)=1))) 2 [29] (.plain rfl) (cy _) rfl rfl (fun g16=>⟨g16,trivial⟩) (fun g16=>j8 bK rfl rfl rfl),fun _=>by exact .guard ((decide (a.P.E=0))&&(decide ((a.L.length:Int)=1))) 1 [] (.plain rfl) (cy _) rfl rfl (fun g17=>trivial) (fun g17=>aj j7 rfl rfl),fun _=>by exact .guard ((decide (a.P.E=0))&&(decide ((a.L.length:Int)=1))) 2 [31] (.plain rfl) (cy _) rfl rfl (fun g18=>⟨g18,trivial⟩) (fun g18=>ao bI rfl rfl rfl),fun _=>by exact .guard ((decide (a.P.E=0))&&(decide ((a.L.length:Int)=1))) 1 [] (.plain rfl) (cy _) rfl rfl (fun g19=>trivial) (fun g19=>aj dS rfl rfl),fun _=>by exact .guard ((decide (a.P.E=0))&&(decide ((a.L.length:Int)=1))) 2 [33] (.plain rfl) (cy _) rfl rfl (fun g20=>⟨g20,trivial⟩) (fun g20=>ao b7 rfl rfl rfl),fun _=>by exact .guard ((decide (a.P.E=0))&&(decide ((a.L.length:Int)=1))) 3 [32,34] (.plain rfl) (cy _) rfl rfl (fun g21=>⟨g21,g21,trivial⟩) (fun g21=>aU cz rfl rfl),fun _=>by exact .guard ((decide (a.P.E=0))&&(decide ((a.L.length:Int)=1))) 3 [30,35] (.plain rfl) (cy _) rfl rfl (fun g22=>⟨g22,g22,trivial⟩) (fun g22=>fP (Dr c (⟨t0.Kind,0,t0.S⟩:Token)) rfl rfl),fun _=>.p (aD (fun e=>e) rfl rfl rfl rfl),fun _=>.p oa,trivial⟩ rfl rfl ?_
 refine ab.ret ?_
 obtain rfl:=zaa h
 refine Fin.af ⟨[(2,_)],[]⟩ rfl (Fin.au [.one (.bool (((decide (a.P.E=0))&&(decide ((a.L.length:Int)=1)))&&(decide (c=(⟨t0.Kind,0,t0.S⟩:Token)))))] (.inl rfl) rfl (.cons (.tmp rfl) .nil) ⟨rfl,rfl⟩)
end Go.Proofs.YtbcdabflmkgkiaaGreatDoor

