/- printed walks -/
import Derived.Test.YtcbbilehdaaffaaGreatDoorW1
namespace Go.Proofs.YtcbbilehdaaffaaGreatDoor
open Go.Sk
set_option maxHeartbeats 1000000
set_option maxRecDepth 4000
set_option linter.unusedSimpArgs false
set_option linter.unusedVariables false
variable {mx : Int}
def ng (F:Nat) (x0:bz) (y0:bz):Option bz :=
 (dx F y0).bind fun x_1=>if (!x_1) = true then ((iT F).bind fun x_2=>some x_2) else ((jn F y0.D y0.N).bind fun x_3=>(lO F x0 x_3).bind fun x_4=>some x_4)
theorem oZ {F:Nat} {x0:bz} {y0:bz} {r:bz} (h:ng F x0 y0 = some r):aA Tryz.prog (bd mx) 21 [] [.agg (aE x0),.agg (aE y0)] (Is [] (.b (.agg (aE r)))):=by
 unfold ng at h
 refine aA.intro 16 Tryz.func21 Tryz.ntmps21 rfl (by simp) fun E=>?_
 show ab _ E ⟨16,[],[]⟩ _ ⟨[(0,.b (.agg (aE x0))),(1,.b (.agg (aE y0)))],[]⟩ _
 refine ab.seq (ab.aa ?_)
 refine Oc (aL (k:=101) rfl rfl) (Oc (aL (k:=102) rfl rfl) (Oc (aB (k:=103) bQ rfl) ?_))
 refine ae.an ⟨[(2,Pt 101 0),(3,Pt 102 0),(4,Pt 103 0)],[(101,.box 27 (aE x0)),(102,.box 27 (aE y0)),(103,.box 27 dM)]⟩ rfl (ab.seq (ab.seq (ab.aa ?_)))
 refine Oc (lp aC) ?_
 obtain ⟨x_1,e1,h⟩:=aD h
 refine Oc (ad (dp e1) j3 rfl rfl) (Oc (aT rfl) ?_)
 refine ae.an ⟨[(2,_),(3,_),(4,_),(7,B (!x_1))],[(101,_),(102,_),(103,_)]⟩ rfl (ab.ite h rfl (fun _ h=>?_) (fun _ h=>?_))
 ·refine ab.seq (ab.aa ?_)
  obtain ⟨x_2,e2,h⟩:=aD h
  refine Oc (ad (gV e2) ow rfl rfl) (Oc (ah aC rfl rfl rfl rfl (Nat.le_of_ble_eq_true rfl) rfl) ?_)
  refine ae.an ⟨[(4,_)],[(103,.box 27 (aE x_2))]⟩ rfl (ab.ret (Fin.aw ?_))
  obtain rfl:=Option.some.inj h
  refine Fin.ag ⟨[(4,_)],[(103,_)]⟩ rfl (Fin.aq [.agg (aE x_2)] (.inl rfl) rfl (.cons (.agg aC rfl rfl rfl rfl) .nil) ⟨rfl,rfl⟩)
 ·refine ab.skip (Fin.ag ⟨[(2,_),(3,_),(4,_)],[(101,_),(102,_),(103,_)]⟩ rfl (Fin.then (ab.seq ?_)))
  refine ab.ag ⟨[(2,_),(3,_),(4,_)],[(101,_),(102,_),(103,_)]⟩ rfl ?_
  obtain ⟨x_3,e3,h⟩:=aD h
  obtain ⟨x_4,e4,h⟩:=aD h
  refine ab.bm mixed 7 [.b (.agg (aE x0)),Pt 102 18,.b (.agg (ar y0.D)),Pt 102 0,.b (.agg (ar y0.N)),.b (.agg (aE x_3)),.b (.agg (aE x_4))] [4] [103] (s':=⟨[(4,_)],[(103,.box 27 (aE x_4))]⟩) rfl ⟨fun _=>.p (lp aC),fun _=>.p (af aV rfl rfl),fun _=>.p (lp aj),fun _=>.p (af bq rfl rfl),fun _=>.p (lp aj),fun _=>.p (ad (eg e3) lE rfl rfl),fun _=>.p (ad (mH e4) vK rfl rfl),trivial⟩ ⟨_,by exact .p (ah aC rfl rfl rfl rfl (Nat.le_of_ble_eq_true rfl) rfl),rfl⟩ rfl (ab.ret ?_)
  obtain rfl:=Option.some.inj h
  refine Fin.ag ⟨[(4,_)],[(103,_)]⟩ rfl (Fin.aq [.agg (aE x_4)] (.inl rfl) rfl (.cons (.agg aC rfl rfl rfl rfl) .nil) ⟨rfl,rfl⟩)
def jF (F:Nat) (fn0:Nat) (x0:bz) (y0:bz):Option bz :=
 if fn0 = 22 then oF F x0 y0 else if fn0 = 94 then sL F x0 y0 else if fn0 = 25 then lO F x0 y0 else if fn0 = 21 then ng F x0 y0 else none
theorem rT {F:Nat} {fn0:Nat} {x0:bz} {y0:bz} {r:bz} (h:jF F fn0 x0 y0 = some r):aA Tryz.prog (bd mx) fn0 [] [.agg (aE x0),.agg (aE y0)] (Is [] (.b (.agg (aE r)))):=by
 unfold jF at h
 split at h
 ·next e=>subst e; exact sr h
 ·next=>
  split at h
  ·next e=>subst e; exact AY h
  ·next=>
   split at h
   ·next e=>subst e; exact mH h
   ·next=>
    split at h
    ·next e=>subst e; exact oZ h
    ·next=>
     simp at h
theorem rU {F:Nat} {fn0:Nat} {x0:bz} {y0:bz} {r:bz} (h:jF F fn0 x0 y0 = some r):bh Tryz.prog fn0:=by
 unfold jF at h
 split at h
 ·next e=>subst e; exact AA
 ·next=>
  split at h
  ·next e=>subst e; exact goes94
  ·next=>
   split at h
   ·next e=>subst e; exact vK
   ·next=>
    split at h
    ·next e=>subst e; exact xX
    ·next=>
     simp at h
def ko (F:Nat) (u0:aO) (v0:aO):Option (aO × Int) :=
 if (decide (u0 ≠ v0)) = true then (some ((⟨0,0,0⟩:aO),110)) else (some (u0,0))
theorem uO {F:Nat} {u0:aO} {v0:aO} {r:aO × Int} (h:ko F u0 v0 = some r):aA Tryz.prog (bd mx) 87 [] [.agg (aP u0),.agg (aP v0)] (Is [] (.eY [.agg (aP r.1),.one (.i r.2)])):=by
 unfold ko at h
 refine aA.intro 11 Tryz.func87 Tryz.ntmps87 rfl (by simp) fun E=>?_
 show ab _ E ⟨11,[],[]⟩ _ ⟨[(0,.b (.agg (aP u0))),(1,.b (.agg (aP v0)))],[]⟩ _
 refine ab.seq (ab.aa ?_)
 refine Oc (aL (k:=101) rfl rfl) (Oc (aL (k:=102) rfl rfl) (Oc (aB (k:=103) k7 rfl) (Oc oa ?_)))
 refine ae.an ⟨[(2,Pt 101 0),(3,Pt 102 0),(4,Pt 103 0)],[(101,.box 29 (aP u0)),(102,.box 29 (aP v0)),(103,.box 29 [.i 0,.i 0,.i 0])]⟩ rfl (ab.seq (ab.seq (ab.aa ?_)))
 refine Oc (lp aY) (Oc (lp aY) (Oc (dG (oM u0 v0) rfl rfl gR) ?_))
 refine ae.an ⟨[(2,_),(4,_),(8,B (decide (u0 ≠ v0)))],[(101,_),(103,_)]⟩ rfl (ab.ite h rfl (fun _ h=>?_) (fun _ h=>?_))
 ·refine ab.seq (ab.aa ?_)
  refine Oc (aS dV rfl rfl) (Oc (ah aY rfl rfl rfl rfl (Nat.le_of_ble_eq_true rfl) rfl) (Oc oa ?_))
  refine ae.an ⟨[(4,_),(5,I 110)],[(103,_)]⟩ rfl (ab.ret (Fin.aw ?_))
  obtain rfl:=Option.some.inj h
  refine Fin.ag ⟨[(4,_),(5,_)],[(103,_)]⟩ rfl (Fin.aq [.agg [.i 0,.i 0,.i 0],.one (.i 110)] (.inl rfl) rfl (.cons (.agg aY rfl rfl rfl rfl) (.cons (.tmp rfl) .nil)) ⟨rfl,rfl⟩)
 ·refine ab.skip (Fin.ag ⟨[(2,_),(4,_)],[(101,_),(103,_)]⟩ rfl (Fin.then (ab.seq (ab.aa ?_))))
  refine Oc (lp aY) (Oc (ah aY rfl rfl rfl rfl (Nat.le_of_ble_eq_true rfl) rfl) (Oc oa ?_))
  refine ae.an ⟨[(4,_),(5,I 0)],[(103,.box 29 (aP u0))]⟩ rfl (ab.ret ?_)
  obtain rfl:=Option.some.inj h
  refine Fin.ag ⟨[(4,_),(5,_)],[(103,_)]⟩ rfl (Fin.aq [.agg (aP u0),.one (.i 0)] (.inl rfl) rfl (.cons (.agg aY rfl rfl rfl rfl) (.cons (.tmp rfl) .nil)) ⟨rfl,rfl⟩)
def fP (F:Nat) (u0:aO):Option A3 :=
 some (⟨u0.M,u0.Kg,u0.S⟩:A3)
theorem lK {F:Nat} {u0:aO} {r:A3} (h:fP F u0 = some r):aA Tryz.prog (bd mx) 71 [] [.agg (aP u0)] (Is [] (.b (.agg ((eA3 .i64) r)))):=by
 unfold fP at h
 refine aA.intro 10 Tryz.func71 Tryz.ntmps71 rfl (by simp) fun E=>?_
 show ab _ E ⟨10,[],[]⟩ _ ⟨[(0,.b (.agg (aP u0)))],[]⟩ _
 refine ab.seq (ab.aa ?_)
 refine Oc (aL (k:=101) rfl rfl) (Oc (aB (k:=102) Er rfl) ?_)
 refine ae.an ⟨[(1,Pt 101 0),(2,Pt 102 0)],[(101,.box 29 (aP u0)),(102,.box 97 ((eA3 .i64) A3.zero))]⟩ rfl (ab.seq (ab.aa ?_))
 refine Oc (af iz rfl rfl) (Oc (au bG rfl rfl rfl) (Oc (af iy rfl rfl) (Oc (au bG rfl rfl rfl) (Oc (af iw rfl rfl) (Oc (au bG rfl rfl rfl) ?_)))))
 refine Oc (dI CA rfl rfl) (Oc (ah Bu rfl rfl rfl rfl (Nat.le_of_ble_eq_true rfl) rfl) ?_)
 refine ae.an ⟨[(2,_)],[(102,.box 97 (aP u0))]⟩ rfl (ab.ret ?_)
 obtain rfl:=Option.some.inj h
 refine Fin.ag ⟨[(2,_)],[(102,_)]⟩ rfl (Fin.aq [.agg (aP u0)] (.inl rfl) rfl (.cons (.agg Bu rfl rfl rfl rfl) .nil) ⟨rfl,rfl⟩)
def iX (F:Nat) (n0:Int):Option Bool :=
 some ((decide ((-16) ≤ n0)) && (decide (n0 ≤ 16)))
theorem pH {F:Nat} {n0:Int} {r:Bool} (h:iX F n0 = some r):aA Tryz.prog (bd mx) 85 [] [.one (.i n0)] (Is [] (.b (.one (.bool r)))):=by
 unfold iX at h
 refine aA.intro 9 Tryz.func85 Tryz.ntmps85 rfl (by simp) fun E=>?_
 show ab _ E ⟨9,[],[]⟩ _ ⟨[(0,I n0)],[]⟩ _
 refine ab.seq (ab.aa ?_)
 refine Oc oa (ae.an ⟨[(0,I n0)],[]⟩ rfl (ab.seq (ab.aa ?_)))
 refine Oc om (Oc (gC rfl rfl) (Oc om ?_))
 refine cG (decide ((-16) ≤ n0)) [] (fun g1=>trivial) (fun g1=>om) (cG (decide ((-16) ≤ n0)) [6] (fun g2=>by exact ⟨g2,trivial⟩) (fun g2=>pZ rfl rfl) (Oc (aG (fun e=>e) rfl rfl rfl rfl) (Oc oa ?_)))
 refine ae.an ⟨[(2,B ((decide ((-16) ≤ n0)) && (decide (n0 ≤ 16))))],[]⟩ rfl (ab.ret ?_)
 obtain rfl:=Option.some.inj h
 refine Fin.ag ⟨[(2,_)],[]⟩ rfl (Fin.aq [.one (.bool ((decide ((-16) ≤ n0)) && (decide (n0 ≤ 16))))] (.inl rfl) rfl (.cons (.tmp rfl) .nil) ⟨rfl,rfl⟩)
def dC (F:Nat) (u0:aO):Option Bool :=
 Option.bind ((fP F u0).bind fun x_1=>iter F (fun x_2=>if (decide (x_2 < 3)) = true then ((bI x_1.l x_2).bind fun x_3=>(iX F x_3).bind fun x_4=>if (!x_4) = true then (some (.inr (.inr false))) else (some (.inl (IntKind.i64.wrap (x_2 + 1))))) else (some (.inr (.inl ())))) 0) (ls (fun _=>some true) (fun y=>some y))
theorem ij {F:Nat} {u0:aO} {r:Bool} (h:dC F u0 = some r):aA Tryz.prog (bd mx) 32 [] [.agg (aP u0)] (Is [] (.b (.one (.bool r)))):=by
 unfold dC at h
 refine aA.intro 14 Tryz.func32 Tryz.ntmps32 rfl (by simp) fun E=>?_
 show ab _ E ⟨14,[],[]⟩ _ ⟨[(0,.b (.agg (aP u0)))],[]⟩ _
 refine ab.seq (ab.aa ?_)
 refine Oc (aL (k:=101) rfl rfl) (Oc oa ?_)
 refine ae.an ⟨[(1,Pt 101 0)],[(101,.box 29 (aP u0))]⟩ rfl ?_
 obtain ⟨v1,h2,h⟩:=aD h
 refine ab.cB (v:=v1) (fun (_:Unit)=>⟨[],[]⟩) (fun z=>.inl z) ?_ ?_
 ·refine ab.seq (ab.aa ?_)
  refine Oc (lp aY) ?_
  obtain ⟨x_1,e3,h2⟩:=aD h2
  refine Oc (ad (lK e3) D0 rfl rfl) (Oc om ?_)
  refine ae.an ⟨[(6,.b (.agg ((eA3 .i64) x_1))),(7,I 0)],[]⟩ rfl (ab.block (ab.cW h2 (fun (x_2:Int)=>⟨[(6,.b (.agg ((eA3 .i64) x_1))),(7,I x_2)],[]⟩) [6,7] [] rfl ?_))
  rintro x_2 o4 h5 hy6
  refine ab.seq (ab.aa ?_)
  refine Oc (bP rfl rfl) (ae.an ⟨[(6,_),(7,_),(8,B (decide (x_2 < 3)))],[]⟩ rfl (ab.seq (ab.ite h5 rfl (fun _ h5=>?_) (fun _ h5=>?_))))
  ·refine ab.skip (Fin.ag ⟨[(6,_),(7,_)],[]⟩ rfl (Fin.then (ab.seq (ab.block (ab.seq (ab.aa ?_))))))
   obtain ⟨x_3,e7,h5⟩:=aD h5
   refine Oc (qI (m:=3) Bt bG rfl rfl (bx e7) (cC e7) (eE (e:=CP.int .i64) e7)) (Oc oa ?_)
   refine ae.an ⟨[(4,I x_3),(6,_),(7,_)],[]⟩ rfl (ab.seq (ab.aa ?_))
   refine Oc om ?_
   obtain ⟨x_4,e8,h5⟩:=aD h5
   refine Oc (ad (pH e8) DY rfl rfl) (Oc (aT rfl) ?_)
   refine ae.an ⟨[(6,_),(7,_),(12,B (!x_4))],[]⟩ rfl (ab.ite h5 rfl (fun _ h5=>?_) (fun _ h5=>?_))
   ·refine ab.seq (ab.aa ?_)
    refine Oc oa (ae.an ⟨[(2,B false)],[]⟩ rfl (ab.ret (Fin.bb (Fin.aw ?_))))
    obtain rfl:=hy6 _ (Option.some.inj h5).symm
    refine Fin.aw (Fin.bb (Fin.aw ?_))
    obtain rfl:=Option.some.inj h
    refine Fin.ag ⟨[(2,_)],[]⟩ rfl (Fin.aq [.one (.bool false)] (.inl rfl) rfl (.cons (.tmp rfl) .nil) ⟨rfl,rfl⟩)
   ·refine ab.skip (Fin.aI (Fin.ag ⟨[(6,_),(7,_)],[]⟩ rfl (Fin.then (ab.aa ?_))))
    refine Oc (bg rfl rfl) (Oc om ?_)
    refine ae.nil ?_
    exact Fin.b6 [6,7] [] (IntKind.i64.wrap (x_2 + 1)) (Option.some.inj h5) rfl
  ·refine ab.exit (Fin.aF ?_)
   obtain rfl:=hy6 _ (Option.some.inj h5).symm
   refine Fin.aF (Fin.aX ?_)
   exact Fin.join [] [] () rfl rfl
 ·rintro _ hv
  subst v1
  refine ab.seq (ab.aa ?_)
  refine Oc oa (ae.an ⟨[(2,B true)],[]⟩ rfl (ab.ret ?_))
  obtain rfl:=Option.some.inj h
  refine Fin.ag ⟨[(2,_)],[]⟩ rfl (Fin.aq [.one (.bool true)] (.inl rfl) rfl (.cons (.tmp rfl) .nil) ⟨rfl,rfl⟩)
def eU (F:Nat) (u0:aO) (v0:aO) (n0:Int):Option (aO × Int) :=
 (dC F u0).bind fun x_1=>(bE (!(!x_1)) (dC F v0)).bind fun x_2=>(bE (!((!x_1) || (!x_2))) (iX F n0)).bind fun x_3=>if (((!x_1) || (!x_2)) || (!x_3)) = true then (some ((⟨0,0,0⟩:aO),1)) else (bN (IntKind.i64.wrap (u0.M + (IntKind.i64.wrap (n0 * v0.M)))) fun x_4=>bN (IntKind.i64.wrap (u0.Kg + (IntKind.i64.wrap (n0 * v0.Kg)))) fun x_5=>bN (IntKind.i64.wrap (u0.S + (IntKind.i64.wrap (n0 * v0.S)))) fun x_6=>(dC F (⟨x_4,x_5,x_6⟩:aO)).bind fun x_7=>if (!x_7) = true then (some ((⟨0,0,0⟩:aO),2)) else (some ((⟨x_4,x_5,x_6⟩:aO),0)))
theorem iE {F:Nat} {u0:aO} {v0:aO} {n0:Int} {r:aO × Int} (h:eU F u0 v0 n0 = some r):aA Tryz.prog (bd mx) 82 [] [.agg (aP u0),.agg (aP v0),.one (.i n0)] (Is [] (.eY [.agg (aP r.1),.one (.i r.2)])):=by
 unfold eU at h
 refine aA.intro 50 Tryz.func82 Tryz.ntmps82 rfl (by simp) fun E=>?_
 show ab _ E ⟨50,[],[]⟩ _ ⟨[(0,.b (.agg (aP u0))),(1,.b (.agg (aP v0))),(2,I n0)],[]⟩ _
 refine ab.seq (ab.aa ?_)
 refine Oc (aL (k:=101) rfl rfl) (Oc (aL (k:=102) rfl rfl) (Oc (aB (k:=103) k7 rfl) (Oc oa ?_)))
 refine ae.an ⟨[(2,I n0),(3,Pt 101 0),(4,Pt 102 0),(6,Pt 103 0)],[(101,.box 29 (aP u0)),(102,.box 29 (aP v0)),(103,.box 29 [.i 0,.i 0,.i 0])]⟩ rfl (ab.seq (ab.seq (ab.aa ?_)))
 refine Oc (lp aY) ?_
 obtain ⟨x_1,e1,h⟩:=aD h
 refine Oc (ad (ij e1) vJ rfl rfl) (Oc (aT rfl) (Oc om ?_))
 refine cx (!(!x_1)) [] (fun g2=>trivial) (fun g2=>lp aY) (ae.ag ⟨[(2,_),(3,_),(4,_),(6,_),(12,B (!x_1)),(13,.dh (!(!x_1)) (.agg (aP v0)))],[(101,_),(102,_),(103,_)]⟩ rfl ?_)
 obtain ⟨x_2,e4,h⟩:=aD h
 refine cx (!(!x_1)) [13] (fun g3=>⟨g3,trivial⟩) (fun g3=>ad (ij (gc e4 g3)) vJ rfl rfl) (cx (!(!x_1)) [14] (fun g5=>⟨g5,trivial⟩) (fun g5=>aT rfl) (Oc (aQ (fun e=>by rw [e]; rfl) rfl rfl rfl rfl) (Oc om ?_)))
 refine cx (!((!x_1) || (!x_2))) [] (fun g6=>trivial) (fun g6=>om) ?_
 obtain ⟨x_3,e8,h⟩:=aD h
 refine cx (!((!x_1) || (!x_2))) [18] (fun g7=>⟨g7,trivial⟩) (fun g7=>ad (pH (gc e8 g7)) DY rfl rfl) (cx (!((!x_1) || (!x_2))) [19] (fun g9=>⟨g9,trivial⟩) (fun g9=>aT rfl) (Oc (aQ (fun e=>by rw [e]; rfl) rfl rfl rfl rfl) (ae.an ⟨[(2,_),(3,_),(4,_),(6,_),(21,B (((!x_1) || (!x_2)) || (!x_3)))],[(101,_),(102,_),(103,_)]⟩ rfl (ab.ite h rfl (fun _ h=>?_) (fun _ h=>?_)))))
 ·refine ab.seq (ab.aa ?_)
  refine Oc (aS dV rfl rfl) (Oc (ah aY rfl rfl rfl rfl (Nat.le_of_ble_eq_true rfl) rfl) (Oc oa ?_))
  refine ae.an ⟨[(6,_),(7,I 1)],[(103,_)]⟩ rfl (ab.ret (Fin.aw ?_))
  obtain rfl:=Option.some.inj h
  refine Fin.ag ⟨[(6,_),(7,_)],[(103,_)]⟩ rfl (Fin.aq [.agg [.i 0,.i 0,.i 0],.one (.i 1)] (.inl rfl) rfl (.cons (.agg aY rfl rfl rfl rfl) (.cons (.tmp rfl) .nil)) ⟨rfl,rfl⟩)
 ·refine ab.skip (Fin.ag ⟨[(2,_),(3,_),(4,_),(6,_)],[(101,_),(102,_),(103,_)]⟩ rfl (Fin.then (ab.seq (ab.aa ?_))))
  refine Oc (af iz rfl rfl) (Oc (au bG rfl rfl rfl) (Oc om (Oc (af iz rfl rfl) (Oc (au bG rfl rfl rfl) (Oc (eP rfl rfl) ?_)))))
  refine ae.cD .i64 h rfl (bg rfl rfl) (fun x_4 h=>?_)
  refine ae.ag ⟨[(2,_),(3,_),(4,_),(6,_),(29,I x_4)],[(101,_),(102,_),(103,_)]⟩ rfl (Oc (af iy rfl rfl) (Oc (au bG rfl rfl rfl) (Oc om (Oc (af iy rfl rfl) (Oc (au bG rfl rfl rfl) (Oc (eP rfl rfl) ?_))))))
  refine ae.cD .i64 h rfl (bg rfl rfl) (fun x_5 h=>?_)
  refine Oc (af iw rfl rfl) (ae.ag ⟨[(2,_),(4,_),(6,_),(29,_),(36,I x_5),(37,Pt 101 2)],[(101,_),(102,_),(103,_)]⟩ rfl (Oc (au bG rfl rfl rfl) (Oc om (Oc (af iw rfl rfl) (Oc (au bG rfl rfl rfl) (Oc (eP rfl rfl) ?_))))))
  refine ae.cD .i64 h rfl (bg rfl rfl) (fun x_6 h=>?_)
  refine Oc (aS dV rfl rfl) (Oc (aB (k:=104) k7 rfl) (Oc (ah aY rfl rfl rfl rfl (Nat.le_of_ble_eq_true rfl) rfl) ?_))
  refine ae.an ⟨[(6,_),(8,Pt 104 0)],[(103,_),(104,.box 29 [.i x_4,.i x_5,.i x_6])]⟩ rfl (ab.seq (ab.seq (ab.aa ?_)))
  refine Oc (lp aY) ?_
  obtain ⟨x_7,e10,h⟩:=aD h
  refine Oc (ad (ij e10) vJ rfl rfl) (Oc (aT rfl) ?_)
  refine ae.an ⟨[(6,_),(8,_),(47,B (!x_7))],[(103,_),(104,_)]⟩ rfl (ab.ite h rfl (fun _ h=>?_) (fun _ h=>?_))
  ·refine ab.seq (ab.aa ?_)
   refine Oc (aS dV rfl rfl) (Oc (ah aY rfl rfl rfl rfl (Nat.le_of_ble_eq_true rfl) rfl) (Oc oa ?_))
   refine ae.an ⟨[(6,_),(7,I 2)],[(103,_)]⟩ rfl (ab.ret (Fin.aw ?_))
   obtain rfl:=Option.some.inj h
   refine Fin.ag ⟨[(6,_),(7,_)],[(103,_)]⟩ rfl (Fin.aq [.agg [.i 0,.i 0,.i 0],.one (.i 2)] (.inl rfl) rfl (.cons (.agg aY rfl rfl rfl rfl) (.cons (.tmp rfl) .nil)) ⟨rfl,rfl⟩)
  ·refine ab.skip (Fin.ag ⟨[(6,_),(8,_)],[(103,_),(104,_)]⟩ rfl (Fin.then (ab.seq (ab.aa ?_))))
   refine Oc (lp aY) (Oc (ah aY rfl rfl rfl rfl (Nat.le_of_ble_eq_true rfl) rfl) (Oc oa ?_))
   refine ae.an ⟨[(6,_),(7,I 0)],[(103,.box 29 [.i x_4,.i x_5,.i x_6])]⟩ rfl (ab.ret ?_)
   obtain rfl:=Option.some.inj h
   refine Fin.ag ⟨[(6,_),(7,_)],[(103,_)]⟩ rfl (Fin.aq [.agg [.i x_4,.i x_5,.i x_6],.one (.i 0)] (.inl rfl) rfl (.cons (.agg aY rfl rfl rfl rfl) (.cons (.tmp rfl) .nil)) ⟨rfl,rfl⟩)
def mC (F:Nat) (u0:aO) (v0:aO):Option (aO × Int) :=
 Option.bind (eU F u0 v0 1) (b9 fun x_1 x_2=>some (x_1,x_2))
theorem wW {F:Nat} {u0:aO} {v0:aO} {r:aO × Int} (h:mC F u0 v0 = some r):aA Tryz.prog (bd mx) 26 [] [.agg (aP u0),.agg (aP v0)] (Is [] (.eY [.agg (aP r.1),.one (.i r.2)])):=by
 unfold mC at h
 refine aA.intro 11 Tryz.func26 Tryz.ntmps26 rfl (by simp) fun E=>?_
 show ab _ E ⟨11,[],[]⟩ _ ⟨[(0,.b (.agg (aP u0))),(1,.b (.agg (aP v0)))],[]⟩ _
 refine ab.seq (ab.aa ?_)
 refine Oc (aL (k:=101) rfl rfl) (Oc (aL (k:=102) rfl rfl) (Oc (aB (k:=103) k7 rfl) (Oc oa ?_)))
 refine ae.an ⟨[(2,Pt 101 0),(3,Pt 102 0),(4,Pt 103 0)],[(101,.box 29 (aP u0)),(102,.box 29 (aP v0)),(103,.box 29 [.i 0,.i 0,.i 0])]⟩ rfl (ab.seq (ab.aa ?_))
 refine Oc (lp aY) (Oc (lp aY) ?_)
 obtain ⟨⟨x_1,x_2⟩,e1,h⟩:=aD h
 refine Oc (ad (iE e1) xV rfl rfl) (Oc (ay rfl rfl) (Oc (ay rfl rfl) (Oc (ah aY rfl rfl rfl rfl (Nat.le_of_ble_eq_true rfl) rfl) (Oc oa ?_))))
 refine ae.an ⟨[(4,_),(5,I x_2)],[(103,.box 29 (aP x_1))]⟩ rfl (ab.ret ?_)
 obtain rfl:=Option.some.inj h
 refine Fin.ag ⟨[(4,_),(5,_)],[(103,_)]⟩ rfl (Fin.aq [.agg (aP x_1),.one (.i x_2)] (.inl rfl) rfl (.cons (.agg aY rfl rfl rfl rfl) (.cons (.tmp rfl) .nil)) ⟨rfl,rfl⟩)
def mD (F:Nat) (u0:aO) (v0:aO):Option (aO × Int) :=
 Option.bind (eU F u0 v0 (-1)) (b9 fun x_1 x_2=>some (x_1,x_2))
theorem wX {F:Nat} {u0:aO} {v0:aO} {r:aO × Int} (h:mD F u0 v0 = some r):aA Tryz.prog (bd mx) 27 [] [.agg (aP u0),.agg (aP v0)] (Is [] (.eY [.agg (aP r.1),.one (.i r.2)])):=by
 unfold mD at h
 refine aA.intro 11 Tryz.func27 Tryz.ntmps27 rfl (by simp) fun E=>?_
 show ab _ E ⟨11,[],[]⟩ _ ⟨[(0,.b (.agg (aP u0))),(1,.b (.agg (aP v0)))],[]⟩ _
 refine ab.seq (ab.aa ?_)
 refine Oc (aL (k:=101) rfl rfl) (Oc (aL (k:=102) rfl rfl) (Oc (aB (k:=103) k7 rfl) (Oc oa ?_)))
 refine ae.an ⟨[(2,Pt 101 0),(3,Pt 102 0),(4,Pt 103 0)],[(101,.box 29 (aP u0)),(102,.box 29 (aP v0)),(103,.box 29 [.i 0,.i 0,.i 0])]⟩ rfl (ab.seq (ab.aa ?_))
 refine Oc (lp aY) (Oc (lp aY) ?_)
 obtain ⟨⟨x_1,x_2⟩,e1,h⟩:=aD h
 refine Oc (ad (iE e1) xV rfl rfl) (Oc (ay rfl rfl) (Oc (ay rfl rfl) (Oc (ah aY rfl rfl rfl rfl (Nat.le_of_ble_eq_true rfl) rfl) (Oc oa ?_))))
 refine ae.an ⟨[(4,_),(5,I x_2)],[(103,.box 29 (aP x_1))]⟩ rfl (ab.ret ?_)
 obtain rfl:=Option.some.inj h
 refine Fin.ag ⟨[(4,_),(5,_)],[(103,_)]⟩ rfl (Fin.aq [.agg (aP x_1),.one (.i x_2)] (.inl rfl) rfl (.cons (.agg aY rfl rfl rfl rfl) (.cons (.tmp rfl) .nil)) ⟨rfl,rfl⟩)
def nW (F:Nat) (fn0:Nat) (u0:aO) (v0:aO):Option (aO × Int) :=
 if fn0 = 87 then ko F u0 v0 else if fn0 = 26 then mC F u0 v0 else if fn0 = 27 then mD F u0 v0 else none
theorem zC {F:Nat} {fn0:Nat} {u0:aO} {v0:aO} {r:aO × Int} (h:nW F fn0 u0 v0 = some r):aA Tryz.prog (bd mx) fn0 [] [.agg (aP u0),.agg (aP v0)] (Is [] (.eY [.agg (aP r.1),.one (.i r.2)])):=by
 unfold nW at h
 split at h
 ·next e=>subst e; exact uO h
 ·next=>
  split at h
  ·next e=>subst e; exact wW h
  ·next=>
   split at h
   ·next e=>subst e; exact wX h
   ·next=>
    simp at h
theorem zD {F:Nat} {fn0:Nat} {u0:aO} {v0:aO} {r:aO × Int} (h:nW F fn0 u0 v0 = some r):bh Tryz.prog fn0:=by
 unfold nW at h
 split at h
 ·next e=>subst e; exact goes87
 ·next=>
  split at h
  ·next e=>subst e; exact goes26
  ·next=>
   split at h
   ·next e=>subst e; exact goes27
   ·next=>
    simp at h
def lH (F:Nat) (c0:Int):Option Bool :=
 bN (((decide (97 ≤ c0)) && (decide (c0 ≤ 122))) || ((decide (65 ≤ c0)) && (decide (c0 ≤ 90)))) fun x_1=>some x_1
theorem sy {F:Nat} {c0:Int} {r:Bool} (h:lH F c0 = some r):aA Tryz.prog (bd mx) 173 [] [.one (.int .i32 c0)] (Is [] (.b (.one (.bool r)))):=by
 unfold lH at h
 refine aA.intro 17 Tryz.func173 Tryz.ntmps173 rfl (by simp) fun E=>?_
 show ab _ E ⟨17,[],[]⟩ _ ⟨[(0,.b (.one (.int .i32 c0)))],[]⟩ _
 refine ab.seq (ab.aa ?_)
 refine Oc oa (ae.an ⟨[(0,.b (.one (.int .i32 c0)))],[]⟩ rfl (ab.seq (ab.aa ?_)))
 refine Oc om (Oc (gC rfl rfl) (Oc om ?_))
 refine cG (decide (97 ≤ c0)) [] (fun g1=>trivial) (fun g1=>om) (cG (decide (97 ≤ c0)) [6] (fun g2=>by exact ⟨g2,trivial⟩) (fun g2=>pZ rfl rfl) (Oc (aG (fun e=>e) rfl rfl rfl rfl) (Oc om ?_)))
 refine ae.ag ⟨[(0,_),(9,B ((decide (97 ≤ c0)) && (decide (c0 ≤ 122))))],[]⟩ rfl (cx (!((decide (97 ≤ c0)) && (decide (c0 ≤ 122)))) [] (fun g3=>trivial) (fun g3=>om) (cx (!((decide (97 ≤ c0)) && (decide (c0 ≤ 122)))) [10] (fun g4=>by exact ⟨g4,trivial⟩) (fun g4=>gC rfl rfl) (cx (!((decide (97 ≤ c0)) && (decide (c0 ≤ 122)))) [11] (fun g5=>by exact ⟨g5,trivial⟩) (fun g5=>om) (ae.jj ((!((decide (97 ≤ c0)) && (decide (c0 ≤ 122)))) && (decide (65 ≤ c0))) 99 [] (.under rfl) (ma _ _) rfl rfl (fun g6=>by exact trivial) (fun g6=>om) (ae.jj ((!((decide (97 ≤ c0)) && (decide (c0 ≤ 122)))) && (decide (65 ≤ c0))) 99 [13] (.under rfl) (ma _ _) rfl rfl (fun g7=>by exact ⟨g7,trivial⟩) (fun g7=>pZ rfl rfl) ?_)))))
 refine cx (!((decide (97 ≤ c0)) && (decide (c0 ≤ 122)))) [12] (fun g8=>⟨g8,trivial⟩) (fun g8=>aG (fun e=>by rw [g8,e]; rfl) rfl rfl rfl rfl) (ae.mX h rfl (aQ (fun e=>by rw [e]; rfl) rfl rfl rfl rfl) (fun x_1 h=>?_))
 refine Oc oa (ae.an ⟨[(2,B x_1)],[]⟩ rfl (ab.ret ?_))
 obtain rfl:=Option.some.inj h
 refine Fin.ag ⟨[(2,_)],[]⟩ rfl (Fin.aq [.one (.bool x_1)] (.inl rfl) rfl (.cons (.tmp rfl) .nil) ⟨rfl,rfl⟩)
def ku (F:Nat) (c0:Int):Option Bool :=
 some ((decide (48 ≤ c0)) && (decide (c0 ≤ 57)))
theorem nF {F:Nat} {c0:Int} {r:Bool} (h:ku F c0 = some r):aA Tryz.prog (bd mx) 120 [] [.one (.int .i32 c0)] (Is [] (.b (.one (.bool r)))):=by
 unfold ku at h
 refine aA.intro 9 Tryz.func120 Tryz.ntmps120 rfl (by simp) fun E=>?_
 show ab _ E ⟨9,[],[]⟩ _ ⟨[(0,.b (.one (.int .i32 c0)))],[]⟩ _
 refine ab.seq (ab.aa ?_)
 refine Oc oa (ae.an ⟨[(0,.b (.one (.int .i32 c0)))],[]⟩ rfl (ab.seq (ab.aa ?_)))
 refine Oc om (Oc (gC rfl rfl) (Oc om ?_))
 refine cG (decide (48 ≤ c0)) [] (fun g1=>trivial) (fun g1=>om) (cG (decide (48 ≤ c0)) [6] (fun g2=>by exact ⟨g2,trivial⟩) (fun g2=>pZ rfl rfl) (Oc (aG (fun e=>e) rfl rfl rfl rfl) (Oc oa ?_)))
 refine ae.an ⟨[(2,B ((decide (48 ≤ c0)) && (decide (c0 ≤ 57))))],[]⟩ rfl (ab.ret ?_)
 obtain rfl:=Option.some.inj h
 refine Fin.ag ⟨[(2,_)],[]⟩ rfl (Fin.aq [.one (.bool ((decide (48 ≤ c0)) && (decide (c0 ≤ 57))))] (.inl rfl) rfl (.cons (.tmp rfl) .nil) ⟨rfl,rfl⟩)
def kL (F:Nat) (c0:Int):Option Bool :=
 (ku F c0).bind fun x_1=>some (!x_1)
theorem rF {F:Nat} {c0:Int} {r:Bool} (h:kL F c0 = some r):aA Tryz.prog (bd mx) 119 [] [.one (.int .i32 c0)] (Is [] (.b (.one (.bool r)))):=by
 unfold kL at h
 refine aA.intro 6 Tryz.func119 Tryz.ntmps119 rfl (by simp) fun E=>?_
 show ab _ E ⟨6,[],[]⟩ _ ⟨[(0,.b (.one (.int .i32 c0)))],[]⟩ _
 refine ab.seq (ab.aa ?_)
 refine Oc oa (ae.an ⟨[(0,.b (.one (.int .i32 c0)))],[]⟩ rfl (ab.seq (ab.aa ?_)))
 refine Oc om ?_
 obtain ⟨x_1,e1,h⟩:=aD h
 refine Oc (ad (nF e1) Cb rfl rfl) (Oc (aT rfl) (Oc oa ?_))
 refine ae.an ⟨[(2,B (!x_1))],[]⟩ rfl (ab.ret ?_)
 obtain rfl:=Option.some.inj h
 refine Fin.ag ⟨[(2,_)],[]⟩ rfl (Fin.aq [.one (.bool (!x_1))] (.inl rfl) rfl (.cons (.tmp rfl) .nil) ⟨rfl,rfl⟩)
def qe (F:Nat) (fn0:Nat) (c0:Int):Option Bool :=
 if fn0 = 173 then lH F c0 else if fn0 = 120 then ku F c0 else if fn0 = 119 then kL F c0 else none
theorem zE {F:Nat} {fn0:Nat} {c0:Int} {r:Bool} (h:qe F fn0 c0 = some r):aA Tryz.prog (bd mx) fn0 [] [.one (.int .i32 c0)] (Is [] (.b (.one (.bool r)))):=by
 unfold qe at h
 split at h
 ·next e=>subst e; exact sy h
 ·next=>
  split at h
  ·next e=>subst e; exact nF h
  ·next=>
   split at h
   ·next e=>subst e; exact rF h
   ·next=>
    simp at h
theorem zF {F:Nat} {fn0:Nat} {c0:Int} {r:Bool} (h:qe F fn0 c0 = some r):bh Tryz.prog fn0:=by
 unfold qe at h
 split at h
 ·next e=>subst e; exact goes173
 ·next=>
  split at h
  ·next e=>subst e; exact Cb
  ·next=>
   split at h
   ·next e=>subst e; exact goes119
   ·next=>
    simp at h
def cY (F:Nat) (l0:List az):Option Bool :=
 Option.bind (iter F (fun x_1=>if (decide (x_1 < (l0.length:Int))) = true then ((bI l0 x_1).bind fun x_2=>(dx F x_2.V).bind fun x_3=>(bE (!(!x_3)) (dC F x_2.U)).bind fun x_4=>if ((!x_3) || (!x_4)) = true then (some (.inr (.inr false))) else (some (.inl (IntKind.i64.wrap (x_1 + 1))))) else (some (.inr (.inl ())))) 0) (ls (fun _=>some true) (fun y=>some y))
theorem fh {F:Nat} {l0:List az} {r:Bool} (h:cY F l0 = some r):aA Tryz.prog (bd mx) 54 [] [.one (.sl 39 (l0.map ao))] (Is [] (.b (.one (.bool r)))):=by
 unfold cY at h
 refine aA.intro 22 Tryz.func54 Tryz.ntmps54 rfl (by simp) fun E=>?_
 show ab _ E ⟨22,[],[]⟩ _ ⟨[(0,.b (.one (.sl 39 (l0.map ao))))],[]⟩ _
 refine ab.seq (ab.aa ?_)
 refine Oc oa (ae.an ⟨[(0,.b (.one (.sl 39 (l0.map ao))))],[]⟩ rfl ?_)
 obtain ⟨v1,h2,h⟩:=aD h
 refine ab.cB (v:=v1) (fun (_:Unit)=>⟨[],[]⟩) (fun z=>.inl z) ?_ ?_
 ·refine ab.seq (ab.aa ?_)
  refine Oc om (Oc (bV und120 rfl (List.length_map _)) (Oc om ?_))
  refine ae.an ⟨[(5,.b (.one (.sl 39 (l0.map ao)))),(6,I (l0.length:Int)),(7,I 0)],[]⟩ rfl (ab.block (ab.cW h2 (fun (x_1:Int)=>⟨[(5,.b (.one (.sl 39 (l0.map ao)))),(6,I (l0.length:Int)),(7,I x_1)],[]⟩) [5,6,7] [] rfl ?_))
  rintro x_1 o3 h4 hy5
  refine ab.seq (ab.aa ?_)
  refine Oc (bP rfl rfl) (ae.an ⟨[(5,_),(6,_),(7,_),(8,B (decide (x_1 < (l0.length:Int))))],[]⟩ rfl (ab.seq (ab.ite h4 rfl (fun _ h4=>?_) (fun _ h4=>?_))))
  ·refine ab.skip (Fin.ag ⟨[(5,_),(6,_),(7,_)],[]⟩ rfl (Fin.then (ab.seq (ab.block (ab.seq (ab.aa ?_))))))
   obtain ⟨x_2,e6,h4⟩:=aD h4
   refine Oc (dS oC (bx e6) (eE (e:=ao) e6) rfl rfl) (Oc (xl aJ rfl rfl rfl) (Oc (aB (k:=101) dw rfl) (Oc (ah aJ rfl rfl rfl rfl (Nat.le_of_ble_eq_true rfl) rfl) ?_)))
   refine ae.an ⟨[(4,Pt 101 0),(5,_),(6,_),(7,_)],[(101,.box 31 (ao x_2))]⟩ rfl (ab.seq (ab.aa ?_))
   refine Oc (af bU rfl rfl) (Oc (lp aC) ?_)
   obtain ⟨x_3,e7,h4⟩:=aD h4
   refine Oc (ad (dp e7) j3 rfl rfl) (Oc (aT rfl) (Oc om ?_))
   refine ae.ag ⟨[(4,_),(5,_),(6,_),(7,_),(15,B (!x_3))],[(101,_)]⟩ rfl (cx (!(!x_3)) [] (fun g8=>trivial) (fun g8=>af cy rfl rfl) (cx (!(!x_3)) [16] (fun g9=>⟨g9,trivial⟩) (fun g9=>lp aY) ?_))
   obtain ⟨x_4,e11,h4⟩:=aD h4
   refine cx (!(!x_3)) [17] (fun g10=>⟨g10,trivial⟩) (fun g10=>ad (ij (gc e11 g10)) vJ rfl rfl) (cx (!(!x_3)) [18] (fun g12=>⟨g12,trivial⟩) (fun g12=>aT rfl) (Oc (aQ (fun e=>by rw [e]; rfl) rfl rfl rfl rfl) (ae.an ⟨[(5,_),(6,_),(7,_),(20,B ((!x_3) || (!x_4)))],[]⟩ rfl (ab.ite h4 rfl (fun _ h4=>?_) (fun _ h4=>?_)))))
   ·refine ab.seq (ab.aa ?_)
    refine Oc oa (ae.an ⟨[(2,B false)],[]⟩ rfl (ab.ret (Fin.bb (Fin.aw ?_))))
    obtain rfl:=hy5 _ (Option.some.inj h4).symm
    refine Fin.aw (Fin.bb (Fin.aw ?_))
    obtain rfl:=Option.some.inj h
    refine Fin.ag ⟨[(2,_)],[]⟩ rfl (Fin.aq [.one (.bool false)] (.inl rfl) rfl (.cons (.tmp rfl) .nil) ⟨rfl,rfl⟩)
   ·refine ab.skip (Fin.aI (Fin.ag ⟨[(5,_),(6,_),(7,_)],[]⟩ rfl (Fin.then (ab.aa ?_))))
    refine Oc (bg rfl rfl) (Oc om ?_)
    refine ae.nil ?_
    exact Fin.b6 [5,6,7] [] (IntKind.i64.wrap (x_1 + 1)) (Option.some.inj h4) rfl
  ·refine ab.exit (Fin.aF ?_)
   obtain rfl:=hy5 _ (Option.some.inj h4).symm
   refine Fin.aF (Fin.aX ?_)
   exact Fin.join [] [] () rfl rfl
 ·rintro _ hv
  subst v1
  refine ab.seq (ab.aa ?_)
  refine Oc oa (ae.an ⟨[(2,B true)],[]⟩ rfl (ab.ret ?_))
  obtain rfl:=Option.some.inj h
  refine Fin.ag ⟨[(2,_)],[]⟩ rfl (Fin.aq [.one (.bool true)] (.inl rfl) rfl (.cons (.tmp rfl) .nil) ⟨rfl,rfl⟩)
def fu (F:Nat) (v0:bz) (u0:aO):Option (az × Int) :=
 (dx F v0).bind fun x_1=>if (!x_1) = true then (bN (⟨(⟨(⟨false,false,aU.zero⟩:br),(⟨false,false,aU.zero⟩:br)⟩:bz),(⟨0,0,0⟩:aO)⟩:az) fun x_2=>some (x_2,30)) else (some ((⟨v0,u0⟩:az),0))
theorem jI {F:Nat} {v0:bz} {u0:aO} {r:az × Int} (h:fu F v0 u0 = some r):aA Tryz.prog (bd mx) 55 [] [.agg (aE v0),.agg (aP u0)] (Is [] (.eY [.agg (ao r.1),.one (.i r.2)])):=by
 unfold fu at h
 refine aA.intro 13 Tryz.func55 Tryz.ntmps55 rfl (by simp) fun E=>?_
 show ab _ E ⟨13,[],[]⟩ _ ⟨[(0,.b (.agg (aE v0))),(1,.b (.agg (aP u0)))],[]⟩ _
 refine ab.seq (ab.aa ?_)
 refine Oc (aL (k:=101) rfl rfl) (Oc (aL (k:=102) rfl rfl) (Oc (aB (k:=103) dw rfl) (Oc oa ?_)))
 refine ae.an ⟨[(2,Pt 101 0),(3,Pt 102 0),(4,Pt 103 0)],[(101,.box 27 (aE v0)),(102,.box 29 (aP u0)),(103,.box 31 (.bool false :: .bool false :: (eW aU.zero ++ (.bool false :: .bool false :: (eW aU.zero ++ ([.i 0,.i 0,.i 0]))))))]⟩ rfl (ab.seq (ab.seq (ab.aa ?_)))
 refine Oc (lp aC) ?_
 obtain ⟨x_1,e1,h⟩:=aD h
 refine Oc (ad (dp e1) j3 rfl rfl) (Oc (aT rfl) ?_)
 refine ae.an ⟨[(2,_),(3,_),(4,_),(8,B (!x_1))],[(101,_),(102,_),(103,_)]⟩ rfl (ab.ite h rfl (fun _ h=>?_) (fun _ h=>?_))
 ·refine ab.seq (ab.aa ?_)
  refine ae.dO ao h rfl (aS dr rfl rfl) (fun x_2 h=>?_)
  refine Oc (ah aJ rfl rfl rfl rfl (Nat.le_of_ble_eq_true rfl) rfl) (Oc oa ?_)
  refine ae.an ⟨[(4,_),(5,I 30)],[(103,.box 31 (ao x_2))]⟩ rfl (ab.ret (Fin.aw ?_))
  obtain rfl:=Option.some.inj h
  refine Fin.ag ⟨[(4,_),(5,_)],[(103,_)]⟩ rfl (Fin.aq [.agg (ao x_2),.one (.i 30)] (.inl rfl) rfl (.cons (.agg aJ rfl rfl rfl rfl) (.cons (.tmp rfl) .nil)) ⟨rfl,rfl⟩)
 ·refine ab.skip (Fin.ag ⟨[(2,_),(3,_),(4,_)],[(101,_),(102,_),(103,_)]⟩ rfl (Fin.then (ab.seq (ab.aa ?_))))
  refine Oc (lp aC) (Oc (lp aY) (Oc (aS dr rfl rfl) (Oc (ah aJ rfl rfl rfl rfl (Nat.le_of_ble_eq_true rfl) rfl) (Oc oa ?_))))
  refine ae.an ⟨[(4,_),(5,I 0)],[(103,.box 31 (aE v0 ++ (aP u0)))]⟩ rfl (ab.ret ?_)
  obtain rfl:=Option.some.inj h
  refine Fin.ag ⟨[(4,_),(5,_)],[(103,_)]⟩ rfl (Fin.aq [.agg (aE v0 ++ (aP u0)),.one (.i 0)] (.inl rfl) rfl (.cons (.agg aJ rfl rfl rfl rfl) (.cons (.tmp rfl) .nil)) ⟨rfl,rfl⟩)
def cL (F:Nat) (o0:yQ) (a0:az) (b0:az):Option (az × Int) :=
 (cY F [a0,b0]).bind fun x_1=>if (!x_1) = true then (bN (⟨(⟨(⟨false,false,aU.zero⟩:br),(⟨false,false,aU.zero⟩:br)⟩:bz),(⟨0,0,0⟩:aO)⟩:az) fun x_2=>some (x_2,1)) else (Option.bind (nW F o0.units a0.U b0.U) (b9 fun x_3 x_4=>if (decide (x_4 ≠ 0)) = true then (bN (⟨(⟨(⟨false,false,aU.zero⟩:br),(⟨false,false,aU.zero⟩:br)⟩:bz),(⟨0,0,0⟩:aO)⟩:az) fun x_5=>some (x_5,x_4)) else ((jF F o0.numbers a0.V b0.V).bind fun x_6=>Option.bind (fu F x_6 x_3) (b9 fun x_7 x_8=>some (x_7,x_8)))))
theorem fK {F:Nat} {o0:yQ} {a0:az} {b0:az} {r:az × Int} (h:cL F o0 a0 b0 = some r):aA Tryz.prog (bd mx) 88 [] [.agg (Dj o0),.agg (ao a0),.agg (ao b0)] (Is [] (.eY [.agg (ao r.1),.one (.i r.2)])):=by
 unfold cL at h
 refine aA.intro 41 Tryz.func88 Tryz.ntmps88 rfl (by simp) fun E=>?_
 show ab _ E ⟨41,[],[]⟩ _ ⟨[(0,.b (.agg (Dj o0))),(1,.b (.agg (ao a0))),(2,.b (.agg (ao b0)))],[]⟩ _
 refine ab.seq (ab.aa ?_)
 refine Oc (aL (k:=101) rfl rfl) (Oc (aL (k:=102) rfl rfl) (Oc (aL (k:=103) rfl rfl) (Oc (aB (k:=104) dw rfl) (Oc oa ?_))))
 refine ae.an ⟨[(3,Pt 101 0),(4,Pt 102 0),(5,Pt 103 0),(6,Pt 104 0)],[(101,.box 113 (Dj o0)),(102,.box 31 (ao a0)),(103,.box 31 (ao b0)),(104,.box 31 (.bool false :: .bool false :: (eW aU.zero ++ (.bool false :: .bool false :: (eW aU.zero ++ ([.i 0,.i 0,.i 0]))))))]⟩ rfl (ab.seq (ab.seq (ab.aa ?_)))
 refine Oc (lp aJ) (Oc (lp aJ) (Oc (bc (k:=105) (es:=[a0,b0].map ao) oC rfl rfl (cE fun _=>rfl) rfl (by decide) (by decide) rfl) ?_))
 obtain ⟨x_1,e1,h⟩:=aD h
 refine Oc (ep (fh e1) tL rfl CP.du) (Oc (aT rfl) ?_)
 refine ae.an ⟨[(3,_),(4,_),(5,_),(6,_),(14,B (!x_1))],[(101,_),(102,_),(103,_),(104,_)]⟩ rfl (ab.ite h rfl (fun _ h=>?_) (fun _ h=>?_))
 ·refine ab.seq (ab.aa ?_)
  refine ae.dO ao h rfl (aS dr rfl rfl) (fun x_2 h=>?_)
  refine Oc (ah aJ rfl rfl rfl rfl (Nat.le_of_ble_eq_true rfl) rfl) (Oc oa ?_)
  refine ae.an ⟨[(6,_),(7,I 1)],[(104,.box 31 (ao x_2))]⟩ rfl (ab.ret (Fin.aw ?_))
  obtain rfl:=Option.some.inj h
  refine Fin.ag ⟨[(6,_),(7,_)],[(104,_)]⟩ rfl (Fin.aq [.agg (ao x_2),.one (.i 1)] (.inl rfl) rfl (.cons (.agg aJ rfl rfl rfl rfl) (.cons (.tmp rfl) .nil)) ⟨rfl,rfl⟩)
 ·refine ab.skip (Fin.ag ⟨[(3,_),(4,_),(5,_),(6,_)],[(101,_),(102,_),(103,_),(104,_)]⟩ rfl (Fin.then (ab.seq (ab.aa ?_))))
  refine Oc (af AS rfl rfl) (Oc (au tyOne54 rfl rfl rfl) (Oc (af cy rfl rfl) (Oc (lp aY) (Oc (af cy rfl rfl) (Oc (lp aY) ?_)))))
  refine ae.ag ⟨[(3,_),(4,_),(5,_),(6,_),(18,.b (.one (.raw (.func (.func o0.units) #[] #[])))),(20,.b (.agg (aP a0.U))),(22,.b (.agg (aP b0.U)))],[(101,_),(102,_),(103,_),(104,_)]⟩ rfl ?_
  obtain ⟨⟨x_3,x_4⟩,e2,h⟩:=aD h
  refine Oc (rz (zC e2) (zD e2) rfl rfl rfl) (Oc om (Oc (ay rfl rfl) (Oc (ay rfl rfl) (Oc (aB (k:=106) k7 rfl) (Oc (ah aY rfl rfl rfl rfl (Nat.le_of_ble_eq_true rfl) rfl) ?_)))))
  refine Oc oa (ae.an ⟨[(3,_),(4,_),(5,_),(6,_),(8,Pt 106 0),(9,I x_4)],[(101,_),(102,_),(103,_),(104,_),(106,.box 29 (aP x_3))]⟩ rfl (ab.seq (ab.seq (ab.aa ?_))))
  refine Oc om (Oc (di rfl rfl) ?_)
  refine ae.an ⟨[(3,_),(4,_),(5,_),(6,_),(8,_),(9,_),(27,B (decide (x_4 ≠ 0)))],[(101,_),(102,_),(103,_),(104,_),(106,_)]⟩ rfl (ab.ite h rfl (fun _ h=>?_) (fun _ h=>?_))
  ·refine ab.seq (ab.aa ?_)
   refine ae.dO ao h rfl (aS dr rfl rfl) (fun x_5 h=>?_)
   refine Oc om (Oc (ah aJ rfl rfl rfl rfl (Nat.le_of_ble_eq_true rfl) rfl) (Oc oa ?_))
   refine ae.an ⟨[(6,_),(7,I x_4)],[(104,.box 31 (ao x_5))]⟩ rfl (ab.ret (Fin.aw ?_))
   obtain rfl:=Option.some.inj h
   refine Fin.ag ⟨[(6,_),(7,_)],[(104,_)]⟩ rfl (Fin.aq [.agg (ao x_5),.one (.i x_4)] (.inl rfl) rfl (.cons (.agg aJ rfl rfl rfl rfl) (.cons (.tmp rfl) .nil)) ⟨rfl,rfl⟩)
  ·refine ab.skip (Fin.ag ⟨[(3,_),(4,_),(5,_),(6,_),(8,_)],[(101,_),(102,_),(103,_),(104,_),(106,_)]⟩ rfl (Fin.then (ab.seq ?_)))
   refine ab.ag ⟨[(3,_),(4,_),(5,_),(6,_),(8,_)],[(101,_),(102,_),(103,_),(104,_),(106,_)]⟩ rfl ?_
   obtain ⟨x_6,e3,h⟩:=aD h
   obtain ⟨⟨x_7,x_8⟩,e4,h⟩:=aD h
   refine ab.bm mixed 11 [Pt 101 0,.b (.one (.raw (.func (.func o0.numbers) #[] #[]))),Pt 102 0,.b (.agg (aE a0.V)),Pt 103 0,.b (.agg (aE b0.V)),.b (.agg (aE x_6)),.b (.agg (aP x_3)),.eY [.agg (ao x_7),.one (.i x_8)],.b (.agg (ao x_7)),I x_8] [6,7] [104] (s':=⟨[(6,_),(7,I x_8)],[(104,.box 31 (ao x_7))]⟩) rfl ⟨fun _=>.p (af AT rfl rfl),fun _=>.p (au tyOne49 rfl rfl rfl),fun _=>.p (af bU rfl rfl),fun _=>.p (lp aC),fun _=>.p (af bU rfl rfl),fun _=>.p (lp aC),fun _=>.p (rz (rT e3) (rU e3) rfl rfl rfl),fun _=>.p (lp aY),fun _=>.p (ad (jI e4) Ax rfl rfl),fun _=>.p (ay rfl rfl),fun _=>.p (ay rfl rfl),trivial⟩ ⟨_,by exact .p (ah aJ rfl rfl rfl rfl (Nat.le_of_ble_eq_true rfl) rfl),⟨_,by exact .p oa,rfl⟩⟩ rfl (ab.ret ?_)
   obtain rfl:=Option.some.inj h
   refine Fin.ag ⟨[(6,_),(7,_)],[(104,_)]⟩ rfl (Fin.aq [.agg (ao x_7),.one (.i x_8)] (.inl rfl) rfl (.cons (.agg aJ rfl rfl rfl rfl) (.cons (.tmp rfl) .nil)) ⟨rfl,rfl⟩)
def kH (F:Nat) (a0:az) (b0:az):Option (az × Int) :=
 Option.bind (cL F (⟨22,87⟩:yQ) a0 b0) (b9 fun x_1 x_2=>some (x_1,x_2))
theorem rO {F:Nat} {a0:az} {b0:az} {r:az × Int} (h:kH F a0 b0 = some r):aA Tryz.prog (bd mx) 36 [] [.agg (ao a0),.agg (ao b0)] (Is [] (.eY [.agg (ao r.1),.one (.i r.2)])):=by
 unfold kH at h
 refine aA.intro 12 Tryz.func36 Tryz.ntmps36 rfl (by simp) fun E=>?_
 show ab _ E ⟨12,[],[]⟩ _ ⟨[(0,.b (.agg (ao a0))),(1,.b (.agg (ao b0)))],[]⟩ _
 refine ab.seq (ab.aa ?_)
 refine Oc (aL (k:=101) rfl rfl) (Oc (aL (k:=102) rfl rfl) (Oc (aB (k:=103) dw rfl) (Oc oa ?_)))
 refine ae.an ⟨[(2,Pt 101 0),(3,Pt 102 0),(4,Pt 103 0)],[(101,.box 31 (ao a0)),(102,.box 31 (ao b0)),(103,.box 31 (.bool false :: .bool false :: (eW aU.zero ++ (.bool false :: .bool false :: (eW aU.zero ++ ([.i 0,.i 0,.i 0]))))))]⟩ rfl (ab.seq (ab.aa ?_))
 refine Oc (aS oX rfl rfl) (Oc (lp aJ) (Oc (lp aJ) ?_))
 obtain ⟨⟨x_1,x_2⟩,e1,h⟩:=aD h
 refine Oc (ad (fK e1) xT rfl rfl) (Oc (ay rfl rfl) ?_)
 refine ae.ag ⟨[(4,_),(9,.eY [.agg (ao x_1),.one (.i x_2)]),(10,.b (.agg (ao x_1)))],[(103,_)]⟩ rfl (Oc (ay rfl rfl) (Oc (ah aJ rfl rfl rfl rfl (Nat.le_of_ble_eq_true rfl) rfl) (Oc oa ?_)))
 refine ae.an ⟨[(4,_),(5,I x_2)],[(103,.box 31 (ao x_1))]⟩ rfl (ab.ret ?_)
 obtain rfl:=Option.some.inj h
 refine Fin.ag ⟨[(4,_),(5,_)],[(103,_)]⟩ rfl (Fin.aq [.agg (ao x_1),.one (.i x_2)] (.inl rfl) rfl (.cons (.agg aJ rfl rfl rfl rfl) (.cons (.tmp rfl) .nil)) ⟨rfl,rfl⟩)
def mF (F:Nat) (x0:br):Option Bool :=
 Option.bind (iter F (b9 fun zero_2 k_3=>if (decide (k_3 < 16)) = true then ((bE zero_2 (bI x0.W.l k_3)).bind fun x_5=>some (.inl (zero_2 && (decide (x_5 = 0)),IntKind.i64.wrap (k_3 + 1)))) else (some (.inr zero_2))) (true,0)) (fun zero_1=>if x0.Bad = true then (some (zero_1 && (!x0.Neg))) else (some ((!zero_1) || (!x0.Neg))))
theorem wZ {F:Nat} {x0:br} {r:Bool} (h:mF F x0 = some r):aA Tryz.prog (bd mx) 129 [] [.agg (ar x0)] (Is [] (.b (.one (.bool r)))):=by
 unfold mF at h
 refine aA.intro 32 Tryz.func129 Tryz.ntmps129 rfl (by simp) fun E=>?_
 show ab _ E ⟨32,[],[]⟩ _ ⟨[(0,.b (.agg (ar x0)))],[]⟩ _
 refine ab.seq (ab.aa ?_)
 refine Oc (aL (k:=101) rfl rfl) (Oc oa ?_)
 refine ae.an ⟨[(1,Pt 101 0)],[(101,.box 25 (ar x0))]⟩ rfl (ab.seq (ab.aa ?_))
 refine Oc oa (ae.an ⟨[(1,_),(3,B true)],[(101,_)]⟩ rfl ?_)
 obtain ⟨v1,h2,h⟩:=aD h
 refine ab.cB (v:=v1) (fun (zero_1:Bool)=>⟨[(1,Pt 101 0),(3,B zero_1)],[(101,.box 25 (ar x0))]⟩) (fun z=>z) ?_ ?_
 ·refine ab.seq (ab.aa ?_)
  refine Oc oa (ae.an ⟨[(1,_),(3,_),(4,I 0)],[(101,_)]⟩ rfl (ab.block (ab.cW h2 (b9 fun (zero_2:Bool) (k_3:Int)=>⟨[(1,Pt 101 0),(3,B zero_2),(4,I k_3)],[(101,.box 25 (ar x0))]⟩) [1,3,4] [101] rfl ?_)))
  rintro ⟨zero_2,k_3⟩ o3 h4 hy5
  refine ab.seq (ab.seq (ab.aa ?_))
  refine Oc om (Oc (bP rfl rfl) ?_)
  refine ae.an ⟨[(1,_),(3,_),(4,_),(6,B (decide (k_3 < 16)))],[(101,_)]⟩ rfl (ab.ite h4 rfl (fun _ h4=>?_) (fun _ h4=>?_))
  ·refine ab.skip (Fin.ag ⟨[(1,_),(3,_),(4,_)],[(101,_)]⟩ rfl (Fin.then (ab.seq (ab.block (ab.aa ?_)))))
   refine Oc om (Oc om ?_)
   refine cG zero_2 [] (fun g6=>trivial) (fun g6=>om) (cG zero_2 [] (fun g7=>by exact trivial) (fun g7=>af aZ rfl rfl) ?_)
   obtain ⟨x_5,e9,h4⟩:=aD h4
   refine cG zero_2 [11,12] (fun g8=>⟨g8,g8,trivial⟩) (fun g8=>aM bF (bx (gc e9 g8)) (cC (gc e9 g8)) rfl rfl rfl) (cG zero_2 [13] (fun g10=>⟨g10,trivial⟩) (fun g10=>au bt rfl rfl (cF (post:=[]) (k:=.u32) [.bool x0.Bad,.bool x0.Neg] (gc e9 g10) rfl rfl rfl)) (cG zero_2 [14] (fun g11=>⟨g11,trivial⟩) (fun g11=>cR rfl rfl) (Oc (aG (fun e=>e) rfl rfl rfl rfl) (Oc oa ?_))))
   refine ae.nil (Fin.aI (Fin.ag ⟨[(1,_),(3,B (zero_2 && (decide (x_5 = 0)))),(4,_)],[(101,_)]⟩ rfl (Fin.then (ab.aa ?_))))
   refine Oc om (Oc (bg rfl rfl) (Oc oa ?_))
   refine ae.nil ?_
   exact Fin.b6 [1,3,4] [101] (zero_2 && (decide (x_5 = 0)),IntKind.i64.wrap (k_3 + 1)) (Option.some.inj h4) rfl
  ·refine ab.exit (Fin.aF ?_)
   obtain rfl:=hy5 _ (Option.some.inj h4).symm
   refine Fin.aF (Fin.aX ?_)
   exact Fin.join [1,3] [101] zero_2 rfl rfl
 ·rintro zero_1 hv
  subst v1
  refine ab.seq (ab.seq (ab.aa ?_))
  refine Oc (af jM rfl rfl) (Oc (au bS rfl rfl rfl) ?_)
  refine ae.an ⟨[(1,_),(3,_),(18,B x0.Bad)],[(101,_)]⟩ rfl (ab.ite h rfl (fun _ h=>?_) (fun _ h=>?_))
  ·refine ab.seq (ab.aa ?_)
   refine Oc om (Oc om ?_)
   refine cG zero_1 [] (fun g12=>trivial) (fun g12=>af bj rfl rfl) (cG zero_1 [21] (fun g13=>⟨g13,trivial⟩) (fun g13=>au bS rfl rfl rfl) (cG zero_1 [22] (fun g14=>⟨g14,trivial⟩) (fun g14=>aT rfl) (Oc (aG (fun e=>e) rfl rfl rfl rfl) (Oc oa ?_))))
   refine ae.an ⟨[(2,B (zero_1 && (!x0.Neg)))],[]⟩ rfl (ab.ret (Fin.aw ?_))
   obtain rfl:=Option.some.inj h
   refine Fin.ag ⟨[(2,_)],[]⟩ rfl (Fin.aq [.one (.bool (zero_1 && (!x0.Neg)))] (.inl rfl) rfl (.cons (.tmp rfl) .nil) ⟨rfl,rfl⟩)
  ·refine ab.skip (Fin.ag ⟨[(1,_),(3,_)],[(101,_)]⟩ rfl (Fin.then (ab.seq (ab.aa ?_))))
   refine Oc om (Oc (aT rfl) (Oc om ?_))
   refine cx (!(!zero_1)) [] (fun g15=>trivial) (fun g15=>af bj rfl rfl) (cx (!(!zero_1)) [28] (fun g16=>⟨g16,trivial⟩) (fun g16=>au bS rfl rfl rfl) (cx (!(!zero_1)) [29] (fun g17=>⟨g17,trivial⟩) (fun g17=>aT rfl) (Oc (aQ (fun e=>by rw [e]; rfl) rfl rfl rfl rfl) (Oc oa ?_))))
   refine ae.an ⟨[(2,B ((!zero_1) || (!x0.Neg)))],[]⟩ rfl (ab.ret ?_)
   obtain rfl:=Option.some.inj h
   refine Fin.ag ⟨[(2,_)],[]⟩ rfl (Fin.aq [.one (.bool ((!zero_1) || (!x0.Neg)))] (.inl rfl) rfl (.cons (.tmp rfl) .nil) ⟨rfl,rfl⟩)
def cj (F:Nat) (x0:br):Option Bool :=
 (mF F x0).bind fun x_1=>some (x_1 && (!x0.Bad))
theorem bO {F:Nat} {x0:br} {r:Bool} (h:cj F x0 = some r):aA Tryz.prog (bd mx) 65 [] [.agg (ar x0)] (Is [] (.b (.one (.bool r)))):=by
 unfold cj at h
 refine aA.intro 12 Tryz.func65 Tryz.ntmps65 rfl (by simp) fun E=>?_
 show ab _ E ⟨12,[],[]⟩ _ ⟨[(0,.b (.agg (ar x0)))],[]⟩ _
 refine ab.seq (ab.aa ?_)
 refine Oc (aL (k:=101) rfl rfl) (Oc oa ?_)
 refine ae.an ⟨[(1,Pt 101 0)],[(101,.box 25 (ar x0))]⟩ rfl (ab.seq (ab.aa ?_))
 refine Oc (lp aj) ?_
 obtain ⟨x_1,e1,h⟩:=aD h
 refine Oc (ad (wZ e1) goes129 rfl rfl) (Oc oa ?_)
 refine ae.an ⟨[(1,_),(3,B x_1)],[(101,_)]⟩ rfl (ab.seq (ab.aa ?_))
 refine Oc om (Oc om ?_)
 refine cG x_1 [] (fun g2=>trivial) (fun g2=>af jM rfl rfl) (cG x_1 [8] (fun g3=>⟨g3,trivial⟩) (fun g3=>au bS rfl rfl rfl) (cG x_1 [9] (fun g4=>⟨g4,trivial⟩) (fun g4=>aT rfl) (Oc (aG (fun e=>e) rfl rfl rfl rfl) (Oc oa ?_))))
 refine ae.an ⟨[(2,B (x_1 && (!x0.Bad)))],[]⟩ rfl (ab.ret ?_)
 obtain rfl:=Option.some.inj h
 refine Fin.ag ⟨[(2,_)],[]⟩ rfl (Fin.aq [.one (.bool (x_1 && (!x0.Bad)))] (.inl rfl) rfl (.cons (.tmp rfl) .nil) ⟨rfl,rfl⟩)
def fW (F:Nat) (l0:List Int):Option (List Int) :=
 Option.bind (iter F (fun n_2=>(bE (decide (0 < n_2)) (bI l0 (IntKind.i64.wrap (n_2 - 1)))).bind fun x_4=>if ((decide (0 < n_2)) && (decide (x_4 = 0))) = true then (some (.inl (IntKind.i64.wrap (n_2 - 1)))) else (some (.inr n_2))) (l0.length:Int)) (fun n_1=>(rJ l0 n_1).bind fun x_5=>some x_5)
theorem gj {F:Nat} {l0:List Int} {r:(List Int)} (h:fW F l0 = some r):aA Tryz.prog (bd mx) 130 [] [.one (.sl 1 (l0.map eI))] (Is [] (.b (.one (.sl 1 (r.map eI))))):=by
 unfold fW at h
 refine aA.intro 21 Tryz.func130 Tryz.ntmps130 rfl (by simp) fun E=>?_
 show ab _ E ⟨21,[],[]⟩ _ ⟨[(0,.b (.one (.sl 1 (l0.map eI))))],[]⟩ _
 refine ab.seq (ab.aa ?_)
 refine Oc oa (ae.an ⟨[(0,.b (.one (.sl 1 (l0.map eI))))],[]⟩ rfl (ab.seq (ab.aa ?_)))
 refine Oc om (Oc (bV gw rfl (List.length_map _)) (Oc oa ?_))
 refine ae.an ⟨[(0,_),(3,I (l0.length:Int))],[]⟩ rfl ?_
 obtain ⟨v1,h2,h⟩:=aD h
 refine ab.cB (v:=v1) (fun (n_1:Int)=>⟨[(0,.b (.one (.sl 1 (l0.map eI)))),(3,I n_1)],[]⟩) (fun z=>z) ?_ ?_
 ·refine ab.block (ab.cW h2 (fun (n_2:Int)=>⟨[(0,.b (.one (.sl 1 (l0.map eI)))),(3,I n_2)],[]⟩) [0,3] [] rfl ?_)
  rintro n_2 o3 h4 hy5
  refine ab.seq (ab.seq (ab.aa ?_))
  refine Oc om (Oc (fj rfl rfl) (Oc om ?_))
  refine cG (decide (0 < n_2)) [] (fun g6=>trivial) (fun g6=>om) (cG (decide (0 < n_2)) [] (fun g7=>by exact trivial) (fun g7=>om) (cG (decide (0 < n_2)) [10] (fun g8=>by exact ⟨g8,trivial⟩) (fun g8=>b7 rfl rfl) ?_))
  obtain ⟨x_4,e10,h4⟩:=aD h4
  refine cG (decide (0 < n_2)) [9,11] (fun g9=>⟨g9,g9,trivial⟩) (fun g9=>dS cX (bx (gc e10 g9)) (eE (e:=eI) (gc e10 g9)) rfl rfl) (ae.ag ⟨[(0,_),(3,_),(8,B (decide (0 < n_2))),(12,.dh (decide (0 < n_2)) (.r5 [.i x_4]))],[]⟩ rfl (cG (decide (0 < n_2)) [12] (fun g11=>⟨g11,trivial⟩) (fun g11=>fo bG rfl rfl) (cG (decide (0 < n_2)) [13] (fun g12=>⟨g12,trivial⟩) (fun g12=>cR rfl rfl) (Oc (aG (fun e=>e) rfl rfl rfl rfl) (ae.an ⟨[(0,_),(3,_),(15,B ((decide (0 < n_2)) && (decide (x_4 = 0))))],[]⟩ rfl ?_)))))
  refine ab.ite h4 rfl (fun _ h4=>?_) (fun _ h4=>?_)
  ·refine ab.skip (Fin.ag ⟨[(0,_),(3,_)],[]⟩ rfl (Fin.then (ab.block (ab.aa ?_))))
   refine Oc om (Oc (b7 rfl rfl) (Oc oa ?_))
   refine ae.nil (Fin.aI ?_)
   exact Fin.b6 [0,3] [] (IntKind.i64.wrap (n_2 - 1)) (Option.some.inj h4) rfl
  ·refine ab.exit (Fin.aF ?_)
   obtain rfl:=hy5 _ (Option.some.inj h4).symm
   refine Fin.aF (Fin.aX ?_)
   exact Fin.join [0,3] [] n_2 rfl rfl
 ·rintro n_1 hv
  subst v1
  refine ab.seq (ab.aa ?_)
  refine Oc om (Oc om ?_)
  obtain ⟨x_5,e13,h⟩:=aD h
  refine Oc (zR cX e13 rfl rfl) (Oc oa ?_)
  refine ae.an ⟨[(2,.b (.one (.sl 1 (x_5.map eI))))],[]⟩ rfl (ab.ret ?_)
  obtain rfl:=Option.some.inj h
  refine Fin.ag ⟨[(2,_)],[]⟩ rfl (Fin.aq [.one (.sl 1 (x_5.map eI))] (.inl rfl) rfl (.cons (.tmp rfl) .nil) ⟨rfl,rfl⟩)
def bJ (F:Nat) (x0:br):Option (List Int) :=
 Option.bind (iter F (b9 fun out_2 k_3=>if (decide (k_3 < 16)) = true then ((bI x0.W.l k_3).bind fun x_5=>(bI x0.W.l k_3).bind fun x_6=>(lq .u32 x_6 65536).bind fun x_7=>(eJ out_2 [IntKind.i64.wrap (Int.tmod x_5 65536),IntKind.i64.wrap x_7]).bind fun x_8=>some (.inl (x_8,IntKind.i64.wrap (k_3 + 1)))) else (some (.inr out_2))) ([],0)) (fun out_1=>(fW F out_1).bind fun x_9=>some x_9)
theorem bC {F:Nat} {x0:br} {r:(List Int)} (h:bJ F x0 = some r):aA Tryz.prog (bd mx) 66 [] [.agg (ar x0)] (Is [] (.b (.one (.sl 1 (r.map eI))))):=by
 unfold bJ at h
 refine aA.intro 26 Tryz.func66 Tryz.ntmps66 rfl (by simp) fun E=>?_
 show ab _ E ⟨26,[],[]⟩ _ ⟨[(0,.b (.agg (ar x0)))],[]⟩ _
 refine ab.seq (ab.aa ?_)
 refine Oc (aL (k:=101) rfl rfl) (Oc oa ?_)
 refine ae.an ⟨[(1,Pt 101 0)],[(101,.box 25 (ar x0))]⟩ rfl (ab.seq (ab.aa ?_))
 refine Oc oa (ae.an ⟨[(1,_),(3,.b (.one (.nil)))],[(101,_)]⟩ rfl ?_)
 obtain ⟨v1,h2,h⟩:=aD h
 refine ab.cB (v:=v1) (fun (out_1:List Int)=>⟨[(3,.b (.row 103))],[(103,.row 3 1 (out_1.map eI))]⟩) (fun z=>z) ?_ ?_
 ·refine ab.seq (ab.aa ?_)
  refine Oc oa (ae.an ⟨[(1,_),(3,_),(4,I 0)],[(101,_)]⟩ rfl (ab.block (ab.lB 3 103 1 3 rfl (by decide) rfl (ab.cW h2 (b9 fun (out_2:List Int) (k_3:Int)=>⟨[(1,Pt 101 0),(3,.b (.row 103)),(4,I k_3)],[(101,.box 25 (ar x0)),(103,.row 3 1 (out_2.map eI))]⟩) [1,3,4] [101,103] rfl ?_))))
  rintro ⟨out_2,k_3⟩ o3 h4 hy5
  refine ab.seq (ab.seq (ab.aa ?_))
  refine Oc om (Oc (bP rfl rfl) ?_)
  refine ae.an ⟨[(1,_),(3,_),(4,_),(6,B (decide (k_3 < 16)))],[(101,_),(103,_)]⟩ rfl (ab.ite h4 rfl (fun _ h4=>?_) (fun _ h4=>?_))
  ·refine ab.skip (Fin.ag ⟨[(1,_),(3,_),(4,_)],[(101,_),(103,_)]⟩ rfl (Fin.then (ab.seq (ab.block ?_))))
   refine ab.ag ⟨[(1,_),(3,_),(4,_)],[(101,_),(103,_)]⟩ rfl ?_
   obtain ⟨x_5,e6,h4⟩:=aD h4
   obtain ⟨x_6,e7,h4⟩:=aD h4
   obtain ⟨x_7,e8,h4⟩:=aD h4
   obtain ⟨x_8,e9,h4⟩:=aD h4
   refine ab.hS mixed 14 [.b (.row 103),I k_3,Pt 101 2,.b (.ptr 101 (2 + (k_3:Int).toNat * 1)),.b (.one (.int .u32 x_5)),.b (.one (.int .u32 (Int.tmod x_5 65536))),I (IntKind.i64.wrap (Int.tmod x_5 65536)),I k_3,Pt 101 2,.b (.ptr 101 (2 + (k_3:Int).toNat * 1)),.b (.one (.int .u32 x_6)),.b (.one (.int .u32 x_7)),I (IntKind.i64.wrap x_7),.b (.one (.sl 1 ([IntKind.i64.wrap (Int.tmod x_5 65536),IntKind.i64.wrap x_7].map eI)))] [1,3,4] [101,103] (s':=⟨[(1,_),(3,_),(4,_)],[(101,_),(103,.row 3 1 (x_8.map eI))]⟩) rfl ⟨fun _=>.p om,fun _=>.p om,fun _=>.p (af aZ rfl rfl),fun _=>.p (aM bF (bx e6) (cC e6) rfl rfl rfl),fun _=>.p (au bt rfl rfl (cF (post:=[]) (k:=.u32) [.bool x0.Bad,.bool x0.Neg] e6 rfl rfl rfl)),fun _=>.p (kC (by decide) rfl rfl),fun _=>.p (aH bR kz rfl),fun _=>.p om,fun _=>.p (af aZ rfl rfl),fun _=>.p (aM bF (bx e7) (cC e7) rfl rfl rfl),fun _=>.p (au bt rfl rfl (cF (post:=[]) (k:=.u32) [.bool x0.Bad,.bool x0.Neg] e7 rfl rfl rfl)),fun _=>.p (fc e8 rfl rfl),fun _=>.p (aH bR kz rfl),fun _=>.p (mL (es:=[IntKind.i64.wrap (Int.tmod x_5 65536),IntKind.i64.wrap x_7].map eI) cX rfl rfl (cE fun _=>rfl) rfl (by decide) (by decide)),trivial⟩ ⟨_,by exact .p (xp cX (vu e9) (vt e9) rfl rfl rfl (oR e9) rfl),⟨_,by exact .p oa,rfl⟩⟩ rfl (Fin.aI (Fin.ag ⟨[(1,_),(3,_),(4,_)],[(101,_),(103,_)]⟩ rfl (Fin.then (ab.aa ?_))))
   refine Oc om (Oc (bg rfl rfl) (Oc oa ?_))
   refine ae.nil ?_
   exact Fin.b6 [1,3,4] [101,103] (x_8,IntKind.i64.wrap (k_3 + 1)) (Option.some.inj h4) rfl
  ·refine ab.exit (Fin.aF ?_)
   obtain rfl:=hy5 _ (Option.some.inj h4).symm
   refine Fin.aF (Fin.aX ?_)
   exact Fin.join [3] [103] out_2 rfl rfl
 ·rintro out_1 hv
  subst v1
  refine ab.seq (ab.aa ?_)
  refine Oc om (ae.dQ 103 rfl ?_)
  obtain ⟨x_9,e10,h⟩:=aD h
  refine Oc (ad (gj e10) ni rfl rfl) (Oc oa ?_)
  refine ae.an ⟨[(2,.b (.one (.sl 1 (x_9.map eI))))],[]⟩ rfl (ab.ret ?_)
  obtain rfl:=Option.some.inj h
  refine Fin.ag ⟨[(2,_)],[]⟩ rfl (Fin.aq [.one (.sl 1 (x_9.map eI))] (.inl rfl) rfl (.cons (.tmp rfl) .nil) ⟨rfl,rfl⟩)
def fO (F:Nat) (x0:br):Option Int :=
 (cj F x0).bind fun x_1=>(bE (!(!x_1)) (bJ F x0)).bind fun x_2=>if ((!x_1) || (decide ((x_2.length:Int) = 0))) = true then (some 0) else (if x0.Neg = true then (some (-1)) else (some 1))
theorem gk {F:Nat} {x0:br} {r:Int} (h:fO F x0 = some r):aA Tryz.prog (bd mx) 103 [] [.agg (ar x0)] (Is [] (.b (.one (.i r)))):=by
 unfold fO at h
 refine aA.intro 14 Tryz.func103 Tryz.ntmps103 rfl (by simp) fun E=>?_
 show ab _ E ⟨14,[],[]⟩ _ ⟨[(0,.b (.agg (ar x0)))],[]⟩ _
 refine ab.seq (ab.aa ?_)
 refine Oc (aL (k:=101) rfl rfl) (Oc oa ?_)
 refine ae.an ⟨[(1,Pt 101 0)],[(101,.box 25 (ar x0))]⟩ rfl (ab.seq (ab.seq (ab.aa ?_)))
 refine Oc (lp aj) ?_
 obtain ⟨x_1,e1,h⟩:=aD h
 refine Oc (ad (bO e1) fR rfl rfl) (Oc (aT rfl) (Oc om ?_))
 refine cx (!(!x_1)) [] (fun g2=>trivial) (fun g2=>lp aj) (ae.ag ⟨[(1,_),(6,B (!x_1)),(7,.dh (!(!x_1)) (.agg (ar x0)))],[(101,_)]⟩ rfl ?_)
 obtain ⟨x_2,e4,h⟩:=aD h
 refine cx (!(!x_1)) [7] (fun g3=>⟨g3,trivial⟩) (fun g3=>ad (bC (gc e4 g3)) gl rfl rfl) (cx (!(!x_1)) [8] (fun g5=>⟨g5,trivial⟩) (fun g5=>bV gw rfl (List.length_map _)) (cx (!(!x_1)) [9] (fun g6=>⟨g6,trivial⟩) (fun g6=>cR rfl rfl) (Oc (aQ (fun e=>by rw [e]; rfl) rfl rfl rfl rfl) (ae.an ⟨[(1,_),(11,B ((!x_1) || (decide ((x_2.length:Int) = 0))))],[(101,_)]⟩ rfl (ab.ite h rfl (fun _ h=>?_) (fun _ h=>?_))))))
 ·refine ab.seq (ab.aa ?_)
  refine Oc oa (ae.an ⟨[(2,I 0)],[]⟩ rfl (ab.ret (Fin.aw ?_)))
  obtain rfl:=Option.some.inj h
  refine Fin.ag ⟨[(2,_)],[]⟩ rfl (Fin.aq [.one (.i 0)] (.inl rfl) rfl (.cons (.tmp rfl) .nil) ⟨rfl,rfl⟩)
 ·refine ab.skip (Fin.ag ⟨[(1,_)],[(101,_)]⟩ rfl (Fin.then (ab.seq (ab.seq (ab.aa ?_)))))
  refine Oc (af bj rfl rfl) (Oc (au bS rfl rfl rfl) ?_)
  refine ae.an ⟨[(13,B x0.Neg)],[]⟩ rfl (ab.ite h rfl (fun _ h=>?_) (fun _ h=>?_))
  ·refine ab.seq (ab.aa ?_)
   refine Oc oa (ae.an ⟨[(2,I (-1))],[]⟩ rfl (ab.ret (Fin.aw ?_)))
   obtain rfl:=Option.some.inj h
   refine Fin.ag ⟨[(2,_)],[]⟩ rfl (Fin.aq [.one (.i (-1))] (.inl rfl) rfl (.cons (.tmp rfl) .nil) ⟨rfl,rfl⟩)
  ·refine ab.skip (Fin.ag ⟨[],[]⟩ rfl (Fin.then (ab.seq (ab.aa ?_))))
   refine Oc oa (ae.an ⟨[(2,I 1)],[]⟩ rfl (ab.ret ?_))
   obtain rfl:=Option.some.inj h
   refine Fin.ag ⟨[(2,_)],[]⟩ rfl (Fin.aq [.one (.i 1)] (.inl rfl) rfl (.cons (.tmp rfl) .nil) ⟨rfl,rfl⟩)
def eF (F:Nat) (x0:br):Option (Int × Bool) :=
 (cj F x0).bind fun x_1=>if ((!x_1) || (decide (1073741824 ≤ x0.W.a1))) = true then (some (0,false)) else (Option.bind (iter F (fun k_2=>if (decide (k_2 < 16)) = true then ((bI x0.W.l k_2).bind fun x_3=>if (decide (x_3 ≠ 0)) = true then (some (.inr (.inr (0,false)))) else (some (.inl (IntKind.i64.wrap (k_2 + 1))))) else (some (.inr (.inl ())))) 2) (ls (fun _=>bN (IntKind.i64.wrap ((IntKind.i64.wrap x0.W.a1) * 4294967296)) fun x_4=>bN (IntKind.i64.wrap (x_4 + (IntKind.i64.wrap x0.W.a0))) fun x_5=>if x0.Neg = true then (some (IntKind.i64.wrap (-x_5),true)) else (some (x_5,true))) (fun y=>some y)))
theorem eN {F:Nat} {x0:br} {r:Int × Bool} (h:eF F x0 = some r):aA Tryz.prog (bd mx) 152 [] [.agg (ar x0)] (Is [] (.eY [.one (.i r.1),.one (.bool r.2)])):=by
 unfold eF at h
 refine aA.intro 41 Tryz.func152 Tryz.ntmps152 rfl (by simp) fun E=>?_
 show ab _ E ⟨41,[],[]⟩ _ ⟨[(0,.b (.agg (ar x0)))],[]⟩ _
 refine ab.seq (ab.aa ?_)
 refine Oc (aL (k:=101) rfl rfl) (Oc oa (Oc oa ?_))
 refine ae.an ⟨[(1,Pt 101 0)],[(101,.box 25 (ar x0))]⟩ rfl (ab.seq (ab.aa ?_))
 refine Oc (lp aj) ?_
 obtain ⟨x_1,e1,h⟩:=aD h
 refine Oc (ad (bO e1) fR rfl rfl) (Oc oa ?_)
 refine ae.an ⟨[(1,_),(4,B x_1)],[(101,_)]⟩ rfl (ab.seq (ab.seq (ab.aa ?_)))
 refine Oc om (Oc (aT rfl) (Oc om ?_))
 refine cx (!(!x_1)) [] (fun g2=>trivial) (fun g2=>af aZ rfl rfl) (cx (!(!x_1)) [12] (fun g3=>⟨g3,trivial⟩) (fun g3=>aM bF (by decide) (by decide) rfl rfl rfl) (cx (!(!x_1)) [13] (fun g4=>⟨g4,trivial⟩) (fun g4=>au bt rfl rfl rfl) (cx (!(!x_1)) [14] (fun g5=>⟨g5,trivial⟩) (fun g5=>gC rfl rfl) (Oc (aQ (fun e=>by rw [e]; rfl) rfl rfl rfl rfl) (ae.an ⟨[(1,_),(16,B ((!x_1) || (decide (1073741824 ≤ x0.W.a1))))],[(101,_)]⟩ rfl ?_)))))
 refine ab.ite h rfl (fun _ h=>?_) (fun _ h=>?_)
 ·refine ab.seq (ab.aa ?_)
  refine Oc oa (Oc oa ?_)
  refine ae.an ⟨[(2,I 0),(3,B false)],[]⟩ rfl (ab.ret (Fin.aw ?_))
  obtain rfl:=Option.some.inj h
  refine Fin.ag ⟨[(2,_),(3,_)],[]⟩ rfl (Fin.aq [.one (.i 0),.one (.bool false)] (.inl rfl) rfl (.cons (.tmp rfl) (.cons (.tmp rfl) .nil)) ⟨rfl,rfl⟩)
 ·refine ab.skip (Fin.ag ⟨[(1,_)],[(101,_)]⟩ rfl (Fin.then ?_))
  obtain ⟨v6,h7,h⟩:=aD h
  refine ab.cB (v:=v6) (fun (_:Unit)=>⟨[(1,Pt 101 0)],[(101,.box 25 (ar x0))]⟩) (fun z=>.inl z) ?_ ?_
  ·refine ab.seq (ab.aa ?_)
   refine Oc oa (ae.an ⟨[(1,_),(5,I 2)],[(101,_)]⟩ rfl (ab.block (ab.cW h7 (fun (k_2:Int)=>⟨[(1,Pt 101 0),(5,I k_2)],[(101,.box 25 (ar x0))]⟩) [1,5] [101] rfl ?_)))
   rintro k_2 o8 h9 hy10
   refine ab.seq (ab.seq (ab.aa ?_))
   refine Oc om (Oc (bP rfl rfl) ?_)
   refine ae.an ⟨[(1,_),(5,_),(18,B (decide (k_2 < 16)))],[(101,_)]⟩ rfl (ab.ite h9 rfl (fun _ h9=>?_) (fun _ h9=>?_))
   ·refine ab.skip (Fin.ag ⟨[(1,_),(5,_)],[(101,_)]⟩ rfl (Fin.then (ab.seq (ab.block (ab.seq (ab.aa ?_))))))
    refine Oc om (Oc (af aZ rfl rfl) ?_)
    obtain ⟨x_3,e11,h9⟩:=aD h9
    refine Oc (aM bF (bx e11) (cC e11) rfl rfl rfl) (Oc (au bt rfl rfl (cF (post:=[]) (k:=.u32) [.bool x0.Bad,.bool x0.Neg] e11 rfl rfl rfl)) (Oc (di rfl rfl) ?_))
    refine ae.an ⟨[(1,_),(5,_),(25,B (decide (x_3 ≠ 0)))],[(101,_)]⟩ rfl (ab.ite h9 rfl (fun _ h9=>?_) (fun _ h9=>?_))
    ·refine ab.seq (ab.aa ?_)
     refine Oc oa (Oc oa ?_)
     refine ae.an ⟨[(2,I 0),(3,B false)],[]⟩ rfl (ab.ret (Fin.bb (Fin.aw ?_)))
     obtain rfl:=hy10 _ (Option.some.inj h9).symm
     refine Fin.aw (Fin.bb (Fin.aw ?_))
     obtain rfl:=Option.some.inj h
     refine Fin.ag ⟨[(2,_),(3,_)],[]⟩ rfl (Fin.aq [.one (.i 0),.one (.bool false)] (.inl rfl) rfl (.cons (.tmp rfl) (.cons (.tmp rfl) .nil)) ⟨rfl,rfl⟩)
    ·refine ab.skip (Fin.aI (Fin.ag ⟨[(1,_),(5,_)],[(101,_)]⟩ rfl (Fin.then (ab.aa ?_))))
     refine Oc om (Oc (bg rfl rfl) (Oc oa ?_))
     refine ae.nil ?_
     exact Fin.b6 [1,5] [101] (IntKind.i64.wrap (k_2 + 1)) (Option.some.inj h9) rfl
   ·refine ab.exit (Fin.aF ?_)
    obtain rfl:=hy10 _ (Option.some.inj h9).symm
    refine Fin.aF (Fin.aX ?_)
    exact Fin.join [1] [101] () rfl rfl
  ·rintro _ hv
   subst v6
   refine ab.seq (ab.aa ?_)
   refine Oc (af aZ rfl rfl) (Oc (aM bF (by decide) (by decide) rfl rfl rfl) (Oc (au bt rfl rfl rfl) (Oc (aH bR kz rfl) ?_)))
   refine ae.cD .i64 h rfl (eP rfl rfl) (fun x_4 h=>?_)
   refine Oc (af aZ rfl rfl) (Oc (aM bF (by decide) (by decide) rfl rfl rfl) ?_)
   refine ae.ag ⟨[(1,_),(30,I x_4),(32,Pt 101 2)],[(101,_)]⟩ rfl (Oc (au bt rfl rfl rfl) (Oc (aH bR kz rfl) ?_))
   refine ae.cD .i64 h rfl (bg rfl rfl) (fun x_5 h=>?_)
   refine Oc oa (ae.an ⟨[(1,_),(6,I x_5)],[(101,_)]⟩ rfl (ab.seq (ab.seq (ab.aa ?_))))
   refine Oc (af bj rfl rfl) (Oc (au bS rfl rfl rfl) ?_)
   refine ae.an ⟨[(6,_),(37,B x0.Neg)],[]⟩ rfl (ab.ite h rfl (fun _ h=>?_) (fun _ h=>?_))
   ·refine ab.seq (ab.aa ?_)
    refine Oc om (Oc (lz rfl) (Oc oa (Oc oa ?_)))
    refine ae.an ⟨[(2,I (IntKind.i64.wrap (-x_5))),(3,B true)],[]⟩ rfl (ab.ret (Fin.aw ?_))
    obtain rfl:=Option.some.inj h
    refine Fin.ag ⟨[(2,_),(3,_)],[]⟩ rfl (Fin.aq [.one (.i (IntKind.i64.wrap (-x_5))),.one (.bool true)] (.inl rfl) rfl (.cons (.tmp rfl) (.cons (.tmp rfl) .nil)) ⟨rfl,rfl⟩)
   ·refine ab.skip (Fin.ag ⟨[(6,_)],[]⟩ rfl (Fin.then (ab.seq (ab.aa ?_))))
    refine Oc om (Oc oa (Oc oa ?_))
    refine ae.an ⟨[(2,I x_5),(3,B true)],[]⟩ rfl (ab.ret ?_)
    obtain rfl:=Option.some.inj h
    refine Fin.ag ⟨[(2,_),(3,_)],[]⟩ rfl (Fin.aq [.one (.i x_5),.one (.bool true)] (.inl rfl) rfl (.cons (.tmp rfl) (.cons (.tmp rfl) .nil)) ⟨rfl,rfl⟩)
def gE (F:Nat):Option br :=
 some (⟨true,false,aU.zero⟩:br)
theorem fM {F:Nat} {r:br} (h:gE F = some r):aA Tryz.prog (bd mx) 151 [] [] (Is [] (.b (.agg (ar r)))):=by
 unfold gE at h
 refine aA.intro 2 Tryz.func151 Tryz.ntmps151 rfl (by simp) fun E=>?_
 show ab _ E ⟨2,[],[]⟩ _ ⟨[],[]⟩ _
 refine ab.seq (ab.aa ?_)
 refine Oc (aB (k:=101) bn rfl) (ae.an ⟨[(0,Pt 101 0)],[(101,.box 25 cU)]⟩ rfl (ab.seq (ab.aa ?_)))
 refine Oc (aS rr rfl rfl) (Oc (ah aj rfl rfl rfl rfl (Nat.le_of_ble_eq_true rfl) rfl) ?_)
 refine ae.an ⟨[(0,_)],[(101,.box 25 (.bool true :: .bool false :: (eW aU.zero)))]⟩ rfl (ab.ret ?_)
 obtain rfl:=Option.some.inj h
 refine Fin.ag ⟨[(0,_)],[(101,_)]⟩ rfl (Fin.aq [.agg (.bool true :: .bool false :: (eW aU.zero))] (.inl rfl) rfl (.cons (.agg aj rfl rfl rfl rfl) .nil) ⟨rfl,rfl⟩)
def c5 (F:Nat) (neg0:Bool) (l0:List Int):Option br :=
 (fW F l0).bind fun x_1=>if (decide (32 < (x_1.length:Int))) = true then ((gE F).bind fun x_2=>some x_2) else (bN (⟨false,neg0 && (decide (0 < (x_1.length:Int))),aU.zero⟩:br) fun x_3=>Option.bind (iter F (b9 fun out_5 k_6=>if (decide (k_6 < (x_1.length:Int))) = true then (Option.bind (if (decide ((Int.tmod k_6 2) = 0)) = true then ((lq .i64 k_6 2).bind fun x_9=>(lq .i64 k_6 2).bind fun x_10=>(bI out_5.W.l x_10).bind fun x_11=>(bI x_1 k_6).bind fun x_12=>(bI out_5.W.l x_9).bind fun x_13=>some (⟨out_5.Bad,out_5.Neg,out_5.W.set x_9 (IntKind.u32.wrap (x_11 + (IntKind.u32.wrap x_12)))⟩:br)) else ((lq .i64 k_6 2).bind fun x_14=>(lq .i64 k_6 2).bind fun x_15=>(bI out_5.W.l x_15).bind fun x_16=>(bI x_1 k_6).bind fun x_17=>(bI out_5.W.l x_14).bind fun x_18=>some (⟨out_5.Bad,out_5.Neg,out_5.W.set x_14 (IntKind.u32.wrap (x_16 + (IntKind.u32.wrap ((IntKind.u32.wrap x_17) * 65536))))⟩:br))) (fun out_8=>some (.inl (out_8,IntKind.i64.wrap (k_6 + 1))))) else (some (.inr out_5))) (x_3,0)) (fun out_4=>some out_4))
theorem dd {F:Nat} {neg0:Bool} {l0:List Int} {r:br} (h:c5 F neg0 l0 = some r):aA Tryz.prog (bd mx) 156 [] [.one (.bool neg0),.one (.sl 1 (l0.map eI))] (Is [] (.b (.agg (ar r)))):=by
 unfold c5 at h
 refine aA.intro 62 Tryz.func156 Tryz.ntmps156 rfl (by simp) fun E=>?_
 show ab _ E ⟨62,[],[]⟩ _ ⟨[(0,B neg0),(1,.b (.one (.sl 1 (l0.map eI))))],[]⟩ _
 refine ab.seq (ab.aa ?_)
 refine Oc (aB (k:=101) bn rfl) (ae.an ⟨[(0,B neg0),(1,.b (.one (.sl 1 (l0.map eI)))),(4,Pt 101 0)],[(101,.box 25 cU)]⟩ rfl (ab.seq (ab.aa ?_)))
 refine Oc om ?_
 obtain ⟨x_1,e1,h⟩:=aD h
 refine Oc (ad (gj e1) ni rfl rfl) (Oc oa ?_)
 refine ae.an ⟨[(0,_),(4,_),(5,.b (.one (.sl 1 (x_1.map eI))))],[(101,_)]⟩ rfl (ab.seq (ab.seq (ab.aa ?_)))
 refine Oc om (Oc (bV gw rfl (List.length_map _)) (Oc (fj rfl rfl) ?_))
 refine ae.an ⟨[(0,_),(4,_),(5,_),(12,B (decide (32 < (x_1.length:Int))))],[(101,_)]⟩ rfl (ab.ite h rfl (fun _ h=>?_) (fun _ h=>?_))
 ·refine ab.seq (ab.aa ?_)
  obtain ⟨x_2,e2,h⟩:=aD h
  refine Oc (ad (fM e2) kW rfl rfl) (Oc (ah aj rfl rfl rfl rfl (Nat.le_of_ble_eq_true rfl) rfl) ?_)
  refine ae.an ⟨[(4,_)],[(101,.box 25 (ar x_2))]⟩ rfl (ab.ret (Fin.aw ?_))
  obtain rfl:=Option.some.inj h
  refine Fin.ag ⟨[(4,_)],[(101,_)]⟩ rfl (Fin.aq [.agg (ar x_2)] (.inl rfl) rfl (.cons (.agg aj rfl rfl rfl rfl) .nil) ⟨rfl,rfl⟩)
 ·refine ab.skip (Fin.ag ⟨[(0,_),(4,_),(5,_)],[(101,_)]⟩ rfl (Fin.then (ab.seq (ab.aa ?_))))
  refine Oc om (Oc om ?_)
  refine cG neg0 [] (fun g3=>trivial) (fun g3=>om) (cG neg0 [16] (fun g4=>by exact ⟨g4,trivial⟩) (fun g4=>bV gw rfl (List.length_map _)) (cG neg0 [17] (fun g5=>by exact ⟨g5,trivial⟩) (fun g5=>fj rfl rfl) (Oc (aG (fun e=>e) rfl rfl rfl rfl) (ae.ag ⟨[(4,_),(5,_),(19,B (neg0 && (decide (0 < (x_1.length:Int)))))],[(101,_)]⟩ rfl (ae.dO ar h rfl (aS rr rfl rfl) (fun x_3 h=>?_))))))
  refine Oc (aB (k:=102) bn rfl) (Oc (ah aj rfl rfl rfl rfl (Nat.le_of_ble_eq_true rfl) rfl) ?_)
  refine ae.an ⟨[(4,_),(5,_),(6,Pt 102 0)],[(101,_),(102,.box 25 (ar x_3))]⟩ rfl ?_
  obtain ⟨v6,h7,h⟩:=aD h
  refine ab.cB (v:=v6) (fun (out_4:br)=>⟨[(4,Pt 101 0),(6,Pt 102 0)],[(101,.box 25 cU),(102,.box 25 (ar out_4))]⟩) (fun z=>z) ?_ ?_
  ·refine ab.seq (ab.aa ?_)
   refine Oc oa (ae.an ⟨[(4,_),(5,_),(6,_),(7,I 0)],[(101,_),(102,_)]⟩ rfl (ab.block (ab.cW h7 (b9 fun (out_5:br) (k_6:Int)=>⟨[(4,Pt 101 0),(5,.b (.one (.sl 1 (x_1.map eI)))),(6,Pt 102 0),(7,I k_6)],[(101,.box 25 cU),(102,.box 25 (ar out_5))]⟩) [4,5,6,7] [101,102] rfl ?_)))
   rintro ⟨out_5,k_6⟩ o8 h9 hy10
   refine ab.seq (ab.seq (ab.aa ?_))
   refine Oc om (Oc om (Oc (bV gw rfl (List.length_map _)) (Oc (bP rfl rfl) ?_)))
   refine ae.an ⟨[(4,_),(5,_),(6,_),(7,_),(24,B (decide (k_6 < (x_1.length:Int))))],[(101,_),(102,_)]⟩ rfl (ab.ite h9 rfl (fun _ h9=>?_) (fun _ h9=>?_))
   ·refine ab.skip (Fin.ag ⟨[(4,_),(5,_),(6,_),(7,_)],[(101,_),(102,_)]⟩ rfl (Fin.then ?_))
    obtain ⟨v11,h12,h9⟩:=aD h9
    refine ab.cB (v:=v11) (fun (out_8:br)=>⟨[(4,Pt 101 0),(5,.b (.one (.sl 1 (x_1.map eI)))),(6,Pt 102 0),(7,I k_6)],[(101,.box 25 cU),(102,.box 25 (ar out_8))]⟩) (fun z=>z) ?_ ?_
    ·refine ab.block (ab.seq (ab.aa ?_))
     refine Oc om (Oc (kC (by decide) rfl rfl) (Oc (cR rfl rfl) ?_))
     refine ae.an ⟨[(4,_),(5,_),(6,_),(7,_),(29,B (decide ((Int.tmod k_6 2) = 0)))],[(101,_),(102,_)]⟩ rfl (ab.ite h12 rfl (fun _ h12=>?_) (fun _ h12=>?_))
     ·refine ab.ag ⟨[(4,_),(5,_),(6,_),(7,_)],[(101,_),(102,_)]⟩ rfl ?_
      obtain ⟨x_9,e13,h12⟩:=aD h12
      obtain ⟨x_10,e14,h12⟩:=aD h12
      obtain ⟨x_11,e15,h12⟩:=aD h12
      obtain ⟨x_12,e16,h12⟩:=aD h12
      obtain ⟨x_13,e17,h12⟩:=aD h12
      refine ab.hS mixed 15 [I k_6,I x_9,I k_6,I x_10,Pt 102 2,.b (.ptr 102 (2 + (x_10:Int).toNat * 1)),.b (.one (.int .u32 x_11)),.b (.one (.sl 1 (x_1.map eI))),I k_6,.b (.r5 [.i x_12]),I x_12,.b (.one (.int .u32 (IntKind.u32.wrap x_12))),.b (.one (.int .u32 (IntKind.u32.wrap (x_11 + (IntKind.u32.wrap x_12))))),Pt 102 2,.b (.ptr 102 (2 + (x_9:Int).toNat * 1))] [4,5,6,7] [101,102] (s':=⟨[(4,_),(5,_),(6,_),(7,_)],[(101,_),(102,.box 25 (.bool out_5.Bad :: .bool out_5.Neg :: (eW (out_5.W.set x_9 (IntKind.u32.wrap (x_11 + (IntKind.u32.wrap x_12)))))))]⟩) rfl ⟨fun _=>.p om,fun _=>.p (fc e13 rfl rfl),fun _=>.p om,fun _=>.p (fc e14 rfl rfl),fun _=>.p (af aZ rfl rfl),fun _=>.p (aM bF (bx e15) (cC e15) rfl rfl rfl),fun _=>.p (au bt rfl rfl (cF (post:=[]) (k:=.u32) [.bool out_5.Bad,.bool out_5.Neg] e15 rfl rfl rfl)),fun _=>.p om,fun _=>.p om,fun _=>.p (dS cX (bx e16) (eE (e:=eI) e16) rfl rfl),fun _=>.p (fo bG rfl rfl),fun _=>.p (aH kz bR rfl),fun _=>.p (bg rfl rfl),fun _=>.p (af aZ rfl rfl),fun _=>.p (aM bF (bx e17) (cC e17) rfl rfl rfl),trivial⟩ ⟨_,by exact .p (cc bt rfl rfl rfl (j4 (post:=[]) (k:=.u32) [.bool out_5.Bad,.bool out_5.Neg] e17 rfl rfl rfl) (iD (post:=[]) (k:=.u32) [.bool out_5.Bad,.bool out_5.Neg] e17 rfl rfl (aU.jh out_5.W x_9 (IntKind.u32.wrap (x_11 + (IntKind.u32.wrap x_12)))) rfl rfl)),rfl⟩ rfl (Fin.aI ?_)
      exact Fin.join [4,5,6,7] [101,102] (⟨out_5.Bad,out_5.Neg,out_5.W.set x_9 (IntKind.u32.wrap (x_11 + (IntKind.u32.wrap x_12)))⟩:br) (Option.some.inj h12) rfl
     ·refine ab.ag ⟨[(4,_),(5,_),(6,_),(7,_)],[(101,_),(102,_)]⟩ rfl ?_
      obtain ⟨x_14,e18,h12⟩:=aD h12
      obtain ⟨x_15,e19,h12⟩:=aD h12
      obtain ⟨x_16,e20,h12⟩:=aD h12
      obtain ⟨x_17,e21,h12⟩:=aD h12
      obtain ⟨x_18,e22,h12⟩:=aD h12
      refine ab.hS mixed 16 [I k_6,I x_14,I k_6,I x_15,Pt 102 2,.b (.ptr 102 (2 + (x_15:Int).toNat * 1)),.b (.one (.int .u32 x_16)),.b (.one (.sl 1 (x_1.map eI))),I k_6,.b (.r5 [.i x_17]),I x_17,.b (.one (.int .u32 (IntKind.u32.wrap x_17))),.b (.one (.int .u32 (IntKind.u32.wrap ((IntKind.u32.wrap x_17) * 65536)))),.b (.one (.int .u32 (IntKind.u32.wrap (x_16 + (IntKind.u32.wrap ((IntKind.u32.wrap x_17) * 65536)))))),Pt 102 2,.b (.ptr 102 (2 + (x_14:Int).toNat * 1))] [4,5,6,7] [101,102] (s':=⟨[(4,_),(5,_),(6,_),(7,_)],[(101,_),(102,.box 25 (.bool out_5.Bad :: .bool out_5.Neg :: (eW (out_5.W.set x_14 (IntKind.u32.wrap (x_16 + (IntKind.u32.wrap ((IntKind.u32.wrap x_17) * 65536))))))))]⟩) rfl ⟨fun _=>.p om,fun _=>.p (fc e18 rfl rfl),fun _=>.p om,fun _=>.p (fc e19 rfl rfl),fun _=>.p (af aZ rfl rfl),fun _=>.p (aM bF (bx e20) (cC e20) rfl rfl rfl),fun _=>.p (au bt rfl rfl (cF (post:=[]) (k:=.u32) [.bool out_5.Bad,.bool out_5.Neg] e20 rfl rfl rfl)),fun _=>.p om,fun _=>.p om,fun _=>.p (dS cX (bx e21) (eE (e:=eI) e21) rfl rfl),fun _=>.p (fo bG rfl rfl),fun _=>.p (aH kz bR rfl),fun _=>.p (eP rfl rfl),fun _=>.p (bg rfl rfl),fun _=>.p (af aZ rfl rfl),fun _=>.p (aM bF (bx e22) (cC e22) rfl rfl rfl),trivial⟩ ⟨_,by exact .p (cc bt rfl rfl rfl (j4 (post:=[]) (k:=.u32) [.bool out_5.Bad,.bool out_5.Neg] e22 rfl rfl rfl) (iD (post:=[]) (k:=.u32) [.bool out_5.Bad,.bool out_5.Neg] e22 rfl rfl (aU.jh out_5.W x_14 (IntKind.u32.wrap (x_16 + (IntKind.u32.wrap ((IntKind.u32.wrap x_17) * 65536))))) rfl rfl)),rfl⟩ rfl (Fin.aI ?_)
      exact Fin.join [4,5,6,7] [101,102] (⟨out_5.Bad,out_5.Neg,out_5.W.set x_14 (IntKind.u32.wrap (x_16 + (IntKind.u32.wrap ((IntKind.u32.wrap x_17) * 65536))))⟩:br) (Option.some.inj h12) rfl
    ·rintro out_8 hv
     subst v11
     refine ab.aa (Oc om (Oc (bg rfl rfl) (Oc oa ?_)))
     refine ae.nil ?_
     exact Fin.b6 [4,5,6,7] [101,102] (out_8,IntKind.i64.wrap (k_6 + 1)) (Option.some.inj h9) rfl
   ·refine ab.exit (Fin.aF ?_)
    obtain rfl:=hy10 _ (Option.some.inj h9).symm
    refine Fin.aF (Fin.aX ?_)
    exact Fin.join [4,6] [101,102] out_5 rfl rfl
  ·rintro out_4 hv
   subst v6
   refine ab.seq (ab.aa ?_)
   refine Oc (lp aj) (Oc (ah aj rfl rfl rfl rfl (Nat.le_of_ble_eq_true rfl) rfl) ?_)
   refine ae.an ⟨[(4,_)],[(101,.box 25 (ar out_4))]⟩ rfl (ab.ret ?_)
   obtain rfl:=Option.some.inj h
   refine Fin.ag ⟨[(4,_)],[(101,_)]⟩ rfl (Fin.aq [.agg (ar out_4)] (.inl rfl) rfl (.cons (.agg aj rfl rfl rfl rfl) .nil) ⟨rfl,rfl⟩)
def fm (F:Nat) (l0:List Int) (k0:Int):Option Int :=
 if (decide (k0 < (l0.length:Int))) = true then ((bI l0 k0).bind fun x_1=>some x_1) else (some 0)
theorem fN {F:Nat} {l0:List Int} {k0:Int} {r:Int} (h:fm F l0 k0 = some r):aA Tryz.prog (bd mx) 131 [] [.one (.sl 1 (l0.map eI)),.one (.i k0)] (Is [] (.b (.one (.i r)))):=by
 unfold fm at h
 refine aA.intro 13 Tryz.func131 Tryz.ntmps131 rfl (by simp) fun E=>?_
 show ab _ E ⟨13,[],[]⟩ _ ⟨[(0,.b (.one (.sl 1 (l0.map eI)))),(1,I k0)],[]⟩ _
 refine ab.seq (ab.aa ?_)
 refine Oc oa (ae.an ⟨[(0,.b (.one (.sl 1 (l0.map eI)))),(1,I k0)],[]⟩ rfl (ab.seq (ab.seq (ab.aa ?_))))
 refine Oc om (Oc om (Oc (bV gw rfl (List.length_map _)) (Oc (bP rfl rfl) ?_)))
 refine ae.an ⟨[(0,_),(1,_),(8,B (decide (k0 < (l0.length:Int))))],[]⟩ rfl (ab.ite h rfl (fun _ h=>?_) (fun _ h=>?_))
 ·refine ab.seq (ab.aa ?_)
  refine Oc om (Oc om ?_)
  obtain ⟨x_1,e1,h⟩:=aD h
  refine Oc (dS cX (bx e1) (eE (e:=eI) e1) rfl rfl) (Oc (fo bG rfl rfl) (Oc oa ?_))
  refine ae.an ⟨[(4,I x_1)],[]⟩ rfl (ab.ret (Fin.aw ?_))
  obtain rfl:=Option.some.inj h
  refine Fin.ag ⟨[(4,_)],[]⟩ rfl (Fin.aq [.one (.i x_1)] (.inl rfl) rfl (.cons (.tmp rfl) .nil) ⟨rfl,rfl⟩)
 ·refine ab.skip (Fin.ag ⟨[],[]⟩ rfl (Fin.then (ab.seq (ab.aa ?_))))
  refine Oc oa (ae.an ⟨[(4,I 0)],[]⟩ rfl (ab.ret ?_))
  obtain rfl:=Option.some.inj h
  refine Fin.ag ⟨[(4,_)],[]⟩ rfl (Fin.aq [.one (.i 0)] (.inl rfl) rfl (.cons (.tmp rfl) .nil) ⟨rfl,rfl⟩)
def kE (F:Nat) (a0:List Int) (b0:List Int):Option (List Int) :=
 Option.bind (iter F (ky fun out_2 carry_3 k_4=>bN (max (a0.length:Int) (b0.length:Int)) fun x_6=>if (decide (k_4 < (IntKind.i64.wrap (x_6 + 1)))) = true then ((fm F a0 k_4).bind fun x_7=>(fm F b0 k_4).bind fun x_8=>bN (IntKind.i64.wrap ((IntKind.i64.wrap (x_7 + x_8)) + carry_3)) fun x_9=>(eJ out_2 [Int.tmod x_9 65536]).bind fun x_10=>(lq .i64 x_9 65536).bind fun x_11=>some (.inl (x_10,x_11,IntKind.i64.wrap (k_4 + 1)))) else (some (.inr out_2))) ([],0,0)) (fun out_1=>(fW F out_1).bind fun x_12=>some x_12)
theorem po {F:Nat} {a0:List Int} {b0:List Int} {r:(List Int)} (h:kE F a0 b0 = some r):aA Tryz.prog (bd mx) 155 [] [.one (.sl 1 (a0.map eI)),.one (.sl 1 (b0.map eI))] (Is [] (.b (.one (.sl 1 (r.map eI))))):=by
 unfold kE at h
 refine aA.intro 37 Tryz.func155 Tryz.ntmps155 rfl (by simp) fun E=>?_
 show ab _ E ⟨37,[],[]⟩ _ ⟨[(0,.b (.one (.sl 1 (a0.map eI)))),(1,.b (.one (.sl 1 (b0.map eI))))],[]⟩ _
 refine ab.seq (ab.aa ?_)
 refine Oc oa (ae.an ⟨[(0,.b (.one (.sl 1 (a0.map eI)))),(1,.b (.one (.sl 1 (b0.map eI))))],[]⟩ rfl (ab.seq (ab.aa ?_)))
 refine Oc oa (ae.an ⟨[(0,_),(1,_),(5,.b (.one (.nil)))],[]⟩ rfl (ab.seq (ab.aa ?_)))
 refine Oc oa (ae.an ⟨[(0,_),(1,_),(5,_),(6,I 0)],[]⟩ rfl ?_)
 obtain ⟨v1,h2,h⟩:=aD h
 refine ab.cB (v:=v1) (fun (out_1:List Int)=>⟨[(5,.b (.row 102))],[(102,.row 3 1 (out_1.map eI))]⟩) (fun z=>z) ?_ ?_
 ·refine ab.seq (ab.aa ?_)
  refine Oc oa (ae.an ⟨[(0,_),(1,_),(5,_),(6,_),(7,I 0)],[]⟩ rfl (ab.block (ab.lB 5 102 1 3 rfl (by decide) rfl (ab.cW h2 (ky fun (out_2:List Int) (carry_3:Int) (k_4:Int)=>⟨[(0,.b (.one (.sl 1 (a0.map eI)))),(1,.b (.one (.sl 1 (b0.map eI)))),(5,.b (.row 102)),(6,I carry_3),(7,I k_4)],[(102,.row 3 1 (out_2.map eI))]⟩) [0,1,5,6,7] [102] rfl ?_))))
  rintro ⟨out_2,carry_3,k_4⟩ o3 h4 hy5
  refine ab.seq (ab.seq (ab.aa ?_))
  refine Oc om (Oc om (Oc (bV gw rfl (List.length_map _)) (Oc om (Oc (bV gw rfl (List.length_map _)) ?_))))
  refine ae.ag ⟨[(0,_),(1,_),(5,_),(6,_),(7,_),(9,I k_4),(11,I (a0.length:Int)),(13,I (b0.length:Int))],[(102,_)]⟩ rfl (ae.cD .i64 h4 rfl (tG rfl rfl) (fun x_6 h4=>?_))
  refine Oc (bg rfl rfl) (Oc (bP rfl rfl) ?_)
  refine ae.an ⟨[(0,_),(1,_),(5,_),(6,_),(7,_),(16,B (decide (k_4 < (IntKind.i64.wrap (x_6 + 1)))))],[(102,_)]⟩ rfl (ab.ite h4 rfl (fun _ h4=>?_) (fun _ h4=>?_))
  ·refine ab.skip (Fin.ag ⟨[(0,_),(1,_),(5,_),(6,_),(7,_)],[(102,_)]⟩ rfl (Fin.then (ab.seq (ab.block (ab.seq (ab.aa ?_))))))
   refine Oc om (Oc om ?_)
   obtain ⟨x_7,e6,h4⟩:=aD h4
   refine Oc (ad (fN e6) nh rfl rfl) (Oc om (Oc om ?_))
   refine ae.ag ⟨[(0,_),(1,_),(5,_),(6,_),(7,_),(21,I x_7),(22,.b (.one (.sl 1 (b0.map eI)))),(23,I k_4)],[(102,_)]⟩ rfl ?_
   obtain ⟨x_8,e7,h4⟩:=aD h4
   refine Oc (ad (fN e7) nh rfl rfl) (Oc (bg rfl rfl) (Oc om ?_))
   refine ae.cD .i64 h4 rfl (bg rfl rfl) (fun x_9 h4=>?_)
   refine Oc oa (ae.an ⟨[(0,_),(1,_),(5,_),(7,_),(8,I x_9)],[(102,_)]⟩ rfl (ab.seq (ab.aa ?_)))
   refine Oc om (Oc om (Oc (kC (by decide) rfl rfl) (Oc (bc (k:=103) (es:=[Int.tmod x_9 65536].map eI) cX rfl rfl (cE fun _=>rfl) rfl (by decide) (by decide) rfl) ?_)))
   obtain ⟨x_10,e8,h4⟩:=aD h4
   refine Oc (lj cX (vu e8) (vt e8) rfl rfl rfl rfl (oR e8) rfl) (Oc oa ?_)
   refine ae.an ⟨[(0,_),(1,_),(5,_),(7,_),(8,_)],[(102,.row 3 1 (x_10.map eI))]⟩ rfl (ab.aa (Oc om ?_))
   obtain ⟨x_11,e9,h4⟩:=aD h4
   refine Oc (fc e9 rfl rfl) (Oc oa ?_)
   refine ae.nil (Fin.aI (Fin.ag ⟨[(0,_),(1,_),(5,_),(6,I x_11),(7,_)],[(102,_)]⟩ rfl (Fin.then (ab.aa ?_))))
   refine Oc om (Oc (bg rfl rfl) (Oc oa ?_))
   refine ae.nil ?_
   exact Fin.b6 [0,1,5,6,7] [102] (x_10,x_11,IntKind.i64.wrap (k_4 + 1)) (Option.some.inj h4) rfl
  ·refine ab.exit (Fin.aF ?_)
   obtain rfl:=hy5 _ (Option.some.inj h4).symm
   refine Fin.aF (Fin.aX ?_)
   exact Fin.join [5] [102] out_2 rfl rfl
 ·rintro out_1 hv
  subst v1
  refine ab.seq (ab.aa ?_)
  refine Oc om (ae.dQ 102 rfl ?_)
  obtain ⟨x_12,e10,h⟩:=aD h
  refine Oc (ad (gj e10) ni rfl rfl) (Oc oa ?_)
  refine ae.an ⟨[(4,.b (.one (.sl 1 (x_12.map eI))))],[]⟩ rfl (ab.ret ?_)
  obtain rfl:=Option.some.inj h
  refine Fin.ag ⟨[(4,_)],[]⟩ rfl (Fin.aq [.one (.sl 1 (x_12.map eI))] (.inl rfl) rfl (.cons (.tmp rfl) .nil) ⟨rfl,rfl⟩)
def gQ (F:Nat) (n0:Int):Option br :=
 if (decide (0 ≤ n0)) = true then ((lq .i64 n0 65536).bind fun x_1=>(lq .i64 n0 4294967296).bind fun x_2=>(lq .i64 n0 281474976710656).bind fun x_3=>(c5 F false [Int.tmod n0 65536,Int.tmod x_1 65536,Int.tmod x_2 65536,x_3]).bind fun x_4=>some x_4) else (bN (IntKind.i64.wrap (-(IntKind.i64.wrap (n0 + 1)))) fun x_5=>(lq .i64 x_5 65536).bind fun x_6=>(lq .i64 x_5 4294967296).bind fun x_7=>(lq .i64 x_5 281474976710656).bind fun x_8=>(kE F [Int.tmod x_5 65536,Int.tmod x_6 65536,Int.tmod x_7 65536,x_8] [1]).bind fun x_9=>(c5 F true x_9).bind fun x_10=>some x_10)
theorem gp {F:Nat} {n0:Int} {r:br} (h:gQ F n0 = some r):aA Tryz.prog (bd mx) 107 [] [.one (.i n0)] (Is [] (.b (.agg (ar r)))):=by
 unfold gQ at h
 refine aA.intro 35 Tryz.func107 Tryz.ntmps107 rfl (by simp) fun E=>?_
 show ab _ E ⟨35,[],[]⟩ _ ⟨[(0,I n0)],[]⟩ _
 refine ab.seq (ab.aa ?_)
 refine Oc (aB (k:=101) bn rfl) (ae.an ⟨[(0,I n0),(2,Pt 101 0)],[(101,.box 25 cU)]⟩ rfl (ab.seq (ab.seq (ab.aa ?_))))
 refine Oc om (Oc (gC rfl rfl) ?_)
 refine ae.an ⟨[(0,_),(2,_),(5,B (decide (0 ≤ n0)))],[(101,_)]⟩ rfl (ab.ite h rfl (fun _ h=>?_) (fun _ h=>?_))
 ·refine ab.seq (ab.aa ?_)
  refine Oc om (Oc (kC (by decide) rfl rfl) (Oc om ?_))
  obtain ⟨x_1,e1,h⟩:=aD h
  refine Oc (fc e1 rfl rfl) (Oc (kC (by decide) rfl rfl) (Oc om ?_))
  obtain ⟨x_2,e2,h⟩:=aD h
  refine Oc (fc e2 rfl rfl) (ae.ag ⟨[(0,_),(2,_),(7,I (Int.tmod n0 65536)),(10,I (Int.tmod x_1 65536)),(12,I x_2)],[(101,_)]⟩ rfl (Oc (kC (by decide) rfl rfl) (Oc om ?_)))
  obtain ⟨x_3,e3,h⟩:=aD h
  refine Oc (fc e3 rfl rfl) (Oc (bc (k:=102) (es:=[Int.tmod n0 65536,Int.tmod x_1 65536,Int.tmod x_2 65536,x_3].map eI) cX rfl rfl (cE fun _=>rfl) rfl (by decide) (by decide) rfl) ?_)
  obtain ⟨x_4,e4,h⟩:=aD h
  refine Oc (ep (dd e4) ka rfl (flat_agg ⟨CP.du,CP.du,CP.fy,CP.fy,CP.fy,CP.fy,CP.fy,CP.fy,CP.fy,CP.fy,CP.fy,CP.fy,CP.fy,CP.fy,CP.fy,CP.fy,CP.fy,CP.fy,trivial⟩)) (Oc (ah aj rfl rfl rfl rfl (Nat.le_of_ble_eq_true rfl) rfl) ?_)
  refine ae.an ⟨[(2,_)],[(101,.box 25 (ar x_4))]⟩ rfl (ab.ret (Fin.aw ?_))
  obtain rfl:=Option.some.inj h
  refine Fin.ag ⟨[(2,_)],[(101,_)]⟩ rfl (Fin.aq [.agg (ar x_4)] (.inl rfl) rfl (.cons (.agg aj rfl rfl rfl rfl) .nil) ⟨rfl,rfl⟩)
 ·refine ab.skip (Fin.ag ⟨[(0,_),(2,_)],[(101,_)]⟩ rfl (Fin.then (ab.seq (ab.aa ?_))))
  refine Oc om (Oc (bg rfl rfl) ?_)
  refine ae.cD .i64 h rfl (lz rfl) (fun x_5 h=>?_)
  refine Oc oa (ae.an ⟨[(2,_),(3,I x_5)],[(101,_)]⟩ rfl (ab.seq (ab.aa ?_)))
  refine Oc om (Oc (kC (by decide) rfl rfl) (Oc om ?_))
  obtain ⟨x_6,e5,h⟩:=aD h
  refine Oc (fc e5 rfl rfl) (Oc (kC (by decide) rfl rfl) (Oc om ?_))
  obtain ⟨x_7,e6,h⟩:=aD h
  refine Oc (fc e6 rfl rfl) (ae.ag ⟨[(2,_),(3,_),(22,I (Int.tmod x_5 65536)),(25,I (Int.tmod x_6 65536)),(27,I x_7)],[(101,_)]⟩ rfl (Oc (kC (by decide) rfl rfl) (Oc om ?_)))
  obtain ⟨x_8,e7,h⟩:=aD h
  refine Oc (fc e7 rfl rfl) (Oc (bc (k:=103) (es:=[Int.tmod x_5 65536,Int.tmod x_6 65536,Int.tmod x_7 65536,x_8].map eI) cX rfl rfl (cE fun _=>rfl) rfl (by decide) (by decide) rfl) (Oc (bc (k:=104) (es:=[1].map eI) cX rfl rfl (cE fun _=>rfl) rfl (by decide) (by decide) rfl) ?_))
  refine ae.dQ 103 rfl (ae.dQ 104 rfl (ae.ag ⟨[(2,Pt 101 0),(31,.b (.one (.sl 1 ([Int.tmod x_5 65536,Int.tmod x_6 65536,Int.tmod x_7 65536,x_8].map eI)))),(32,.b (.one (.sl 1 ([1].map eI))))],[(101,.box 25 cU)]⟩ rfl ?_))
  obtain ⟨x_9,e8,h⟩:=aD h
  refine Oc (ad (po e8) yn rfl rfl) ?_
  obtain ⟨x_10,e9,h⟩:=aD h
  refine Oc (ad (dd e9) ka rfl rfl) (Oc (ah aj rfl rfl rfl rfl (Nat.le_of_ble_eq_true rfl) rfl) ?_)
  refine ae.an ⟨[(2,_)],[(101,.box 25 (ar x_10))]⟩ rfl (ab.ret ?_)
  obtain rfl:=Option.some.inj h
  refine Fin.ag ⟨[(2,_)],[(101,_)]⟩ rfl (Fin.aq [.agg (ar x_10)] (.inl rfl) rfl (.cons (.agg aj rfl rfl rfl rfl) .nil) ⟨rfl,rfl⟩)
def qn (F:Nat) (x0:br):Option br :=
 (cj F x0).bind fun x_1=>if (!x_1) = true then ((gE F).bind fun x_2=>some x_2) else ((bJ F x0).bind fun x_3=>(c5 F false x_3).bind fun x_4=>some x_4)
theorem zN {F:Nat} {x0:br} {r:br} (h:qn F x0 = some r):aA Tryz.prog (bd mx) 161 [] [.agg (ar x0)] (Is [] (.b (.agg (ar r)))):=by
 unfold qn at h
 refine aA.intro 10 Tryz.func161 Tryz.ntmps161 rfl (by simp) fun E=>?_
 show ab _ E ⟨10,[],[]⟩ _ ⟨[(0,.b (.agg (ar x0)))],[]⟩ _
 refine ab.seq (ab.aa ?_)
 refine Oc (aL (k:=101) rfl rfl) (Oc (aB (k:=102) bn rfl) ?_)
 refine ae.an ⟨[(1,Pt 101 0),(2,Pt 102 0)],[(101,.box 25 (ar x0)),(102,.box 25 cU)]⟩ rfl (ab.seq (ab.seq (ab.aa ?_)))
 refine Oc (lp aj) ?_
 obtain ⟨x_1,e1,h⟩:=aD h
 refine Oc (ad (bO e1) fR rfl rfl) (Oc (aT rfl) ?_)
 refine ae.an ⟨[(1,_),(2,_),(5,B (!x_1))],[(101,_),(102,_)]⟩ rfl (ab.ite h rfl (fun _ h=>?_) (fun _ h=>?_))
 ·refine ab.seq (ab.aa ?_)
  obtain ⟨x_2,e2,h⟩:=aD h
  refine Oc (ad (fM e2) kW rfl rfl) (Oc (ah aj rfl rfl rfl rfl (Nat.le_of_ble_eq_true rfl) rfl) ?_)
  refine ae.an ⟨[(2,_)],[(102,.box 25 (ar x_2))]⟩ rfl (ab.ret (Fin.aw ?_))
  obtain rfl:=Option.some.inj h
  refine Fin.ag ⟨[(2,_)],[(102,_)]⟩ rfl (Fin.aq [.agg (ar x_2)] (.inl rfl) rfl (.cons (.agg aj rfl rfl rfl rfl) .nil) ⟨rfl,rfl⟩)
 ·refine ab.skip (Fin.ag ⟨[(1,_),(2,_)],[(101,_),(102,_)]⟩ rfl (Fin.then (ab.seq (ab.aa ?_))))
  refine Oc (lp aj) ?_
  obtain ⟨x_3,e3,h⟩:=aD h
  refine Oc (ad (bC e3) gl rfl rfl) ?_
  obtain ⟨x_4,e4,h⟩:=aD h
  refine Oc (ad (dd e4) ka rfl rfl) (Oc (ah aj rfl rfl rfl rfl (Nat.le_of_ble_eq_true rfl) rfl) ?_)
  refine ae.an ⟨[(2,_)],[(102,.box 25 (ar x_4))]⟩ rfl (ab.ret ?_)
  obtain rfl:=Option.some.inj h
  refine Fin.ag ⟨[(2,_)],[(102,_)]⟩ rfl (Fin.aq [.agg (ar x_4)] (.inl rfl) rfl (.cons (.agg aj rfl rfl rfl rfl) .nil) ⟨rfl,rfl⟩)
def nc (F:Nat) (l0:List Int) (k0:Int):Option Int :=
 if (decide (k0 < 0)) = true then (some 0) else ((fm F l0 k0).bind fun x_1=>some x_1)
theorem oY {F:Nat} {l0:List Int} {k0:Int} {r:Int} (h:nc F l0 k0 = some r):aA Tryz.prog (bd mx) 186 [] [.one (.sl 1 (l0.map eI)),.one (.i k0)] (Is [] (.b (.one (.i r)))):=by
 unfold nc at h
 refine aA.intro 10 Tryz.func186 Tryz.ntmps186 rfl (by simp) fun E=>?_
 show ab _ E ⟨10,[],[]⟩ _ ⟨[(0,.b (.one (.sl 1 (l0.map eI)))),(1,I k0)],[]⟩ _
 refine ab.seq (ab.aa ?_)
 refine Oc oa (ae.an ⟨[(0,.b (.one (.sl 1 (l0.map eI)))),(1,I k0)],[]⟩ rfl (ab.seq (ab.seq (ab.aa ?_))))
 refine Oc om (Oc (bP rfl rfl) ?_)
 refine ae.an ⟨[(0,_),(1,_),(6,B (decide (k0 < 0)))],[]⟩ rfl (ab.ite h rfl (fun _ h=>?_) (fun _ h=>?_))
 ·refine ab.seq (ab.aa ?_)
  refine Oc oa (ae.an ⟨[(4,I 0)],[]⟩ rfl (ab.ret (Fin.aw ?_)))
  obtain rfl:=Option.some.inj h
  refine Fin.ag ⟨[(4,_)],[]⟩ rfl (Fin.aq [.one (.i 0)] (.inl rfl) rfl (.cons (.tmp rfl) .nil) ⟨rfl,rfl⟩)
 ·refine ab.skip (Fin.ag ⟨[(0,_),(1,_)],[]⟩ rfl (Fin.then (ab.seq (ab.aa ?_))))
  refine Oc om (Oc om ?_)
  obtain ⟨x_1,e1,h⟩:=aD h
  refine Oc (ad (fN e1) nh rfl rfl) (Oc oa ?_)
  refine ae.an ⟨[(4,I x_1)],[]⟩ rfl (ab.ret ?_)
  obtain rfl:=Option.some.inj h
  refine Fin.ag ⟨[(4,_)],[]⟩ rfl (Fin.aq [.one (.i x_1)] (.inl rfl) rfl (.cons (.tmp rfl) .nil) ⟨rfl,rfl⟩)
def kI (F:Nat) (a0:List Int) (b0:List Int):Option (List Int) :=
 bN (IntKind.i64.wrap ((a0.length:Int) + (b0.length:Int))) fun x_1=>Option.bind (CW (0:Int) (IntKind.i64.wrap (x_1 + 1)) (IntKind.i64.wrap (x_1 + 1))) (fun x_2=>Option.bind (iter F (b9 fun out_4 i_5=>if (decide (i_5 < (a0.length:Int))) = true then (Option.bind (Option.bind (iter F (b9 fun out_9 k_10=>if (decide (k_10 < (b0.length:Int))) = true then ((bI out_9 (IntKind.i64.wrap (i_5 + k_10))).bind fun x_12=>(bI a0 i_5).bind fun x_13=>(bI b0 k_10).bind fun x_14=>(bI out_9 (IntKind.i64.wrap (i_5 + k_10))).bind fun x_15=>some (.inl (out_9.set (IntKind.i64.wrap (i_5 + k_10):Int).toNat (IntKind.i64.wrap (x_12 + (IntKind.i64.wrap (x_13 * x_14)))),IntKind.i64.wrap (k_10 + 1)))) else (some (.inr out_9))) (out_4,0)) (fun out_8=>Option.bind (iter F (ky fun out_16 carry_17 k_18=>if (decide (k_18 < (out_16.length:Int))) = true then ((bI out_16 k_18).bind fun x_20=>bN (Int.tmod (IntKind.i64.wrap (x_20 + carry_17)) 65536) fun x_21=>(bI out_16 k_18).bind fun x_22=>(lq .i64 (IntKind.i64.wrap (x_20 + carry_17)) 65536).bind fun x_23=>some (.inl (out_16.set (k_18:Int).toNat x_21,x_23,IntKind.i64.wrap (k_18 + 1)))) else (some (.inr out_16))) (out_8,0,0)) (fun out_19=>some out_19))) (fun out_7=>some (.inl (out_7,IntKind.i64.wrap (i_5 + 1))))) else (some (.inr out_4))) (x_2,0)) (fun out_3=>(fW F out_3).bind fun x_24=>some x_24))
theorem rQ {F:Nat} {a0:List Int} {b0:List Int} {r:(List Int)} (h:kI F a0 b0 = some r):aA Tryz.prog (bd mx) 185 [] [.one (.sl 1 (a0.map eI)),.one (.sl 1 (b0.map eI))] (Is [] (.b (.one (.sl 1 (r.map eI))))):=by
 unfold kI at h
 refine aA.intro 72 Tryz.func185 Tryz.ntmps185 rfl (by simp) fun E=>?_
 show ab _ E ⟨72,[],[]⟩ _ ⟨[(0,.b (.one (.sl 1 (a0.map eI)))),(1,.b (.one (.sl 1 (b0.map eI))))],[]⟩ _
 refine ab.seq (ab.aa ?_)
 refine Oc oa (ae.an ⟨[(0,.b (.one (.sl 1 (a0.map eI)))),(1,.b (.one (.sl 1 (b0.map eI))))],[]⟩ rfl (ab.seq (ab.aa ?_)))
 refine Oc om (Oc (bV gw rfl (List.length_map _)) (Oc om (Oc (bV gw rfl (List.length_map _)) ?_)))
 refine ae.cD .i64 h rfl (bg rfl rfl) (fun x_1 h=>?_)
 refine ae.ag ⟨[(0,_),(1,_),(15,I x_1)],[]⟩ rfl (Oc (bg rfl rfl) ?_)
 obtain ⟨x_2,e1,h⟩:=aD h
 refine Oc (pr (k:=101) (enc:=eI) cX e1 (by decide) (.cons .refl .nil) rfl rfl rfl) (Oc oa ?_)
 refine ae.an ⟨[(0,_),(1,_),(5,.b (.row 101))],[(101,.row 3 1 (x_2.map eI))]⟩ rfl ?_
 obtain ⟨v2,h3,h⟩:=aD h
 refine ab.cB (v:=v2) (fun (out_3:List Int)=>⟨[(5,.b (.row 101))],[(101,.row 3 1 (out_3.map eI))]⟩) (fun z=>z) ?_ ?_
 ·refine ab.seq (ab.aa ?_)
  refine Oc oa (ae.an ⟨[(0,_),(1,_),(5,_),(6,I 0)],[(101,_)]⟩ rfl (ab.block (ab.cW h3 (b9 fun (out_4:List Int) (i_5:Int)=>⟨[(0,.b (.one (.sl 1 (a0.map eI)))),(1,.b (.one (.sl 1 (b0.map eI)))),(5,.b (.row 101)),(6,I i_5)],[(101,.row 3 1 (out_4.map eI))]⟩) [0,1,5,6] [101] rfl ?_)))
  rintro ⟨out_4,i_5⟩ o4 h5 hy6
  refine ab.seq (ab.seq (ab.aa ?_))
  refine Oc om (Oc om (Oc (bV gw rfl (List.length_map _)) (Oc (bP rfl rfl) ?_)))
  refine ae.an ⟨[(0,_),(1,_),(5,_),(6,_),(21,B (decide (i_5 < (a0.length:Int))))],[(101,_)]⟩ rfl (ab.ite h5 rfl (fun _ h5=>?_) (fun _ h5=>?_))
  ·refine ab.skip (Fin.ag ⟨[(0,_),(1,_),(5,_),(6,_)],[(101,_)]⟩ rfl (Fin.then ?_))
   obtain ⟨v7,h8,h5⟩:=aD h5
   refine ab.cB (v:=v7) (fun (out_7:List Int)=>⟨[(0,.b (.one (.sl 1 (a0.map eI)))),(1,.b (.one (.sl 1 (b0.map eI)))),(5,.b (.row 101)),(6,I i_5)],[(101,.row 3 1 (out_7.map eI))]⟩) (fun z=>z) ?_ ?_
   ·refine ab.block ?_
    obtain ⟨v9,h10,h8⟩:=aD h8
    refine ab.cB (v:=v9) (fun (out_8:List Int)=>⟨[(0,.b (.one (.sl 1 (a0.map eI)))),(1,.b (.one (.sl 1 (b0.map eI)))),(5,.b (.row 101)),(6,I i_5)],[(101,.row 3 1 (out_8.map eI))]⟩) (fun z=>z) ?_ ?_
    ·refine ab.seq (ab.aa ?_)
     refine Oc oa (ae.an ⟨[(0,_),(1,_),(5,_),(6,_),(7,I 0)],[(101,_)]⟩ rfl (ab.block (ab.cW h10 (b9 fun (out_9:List Int) (k_10:Int)=>⟨[(0,.b (.one (.sl 1 (a0.map eI)))),(1,.b (.one (.sl 1 (b0.map eI)))),(5,.b (.row 101)),(6,I i_5),(7,I k_10)],[(101,.row 3 1 (out_9.map eI))]⟩) [0,1,5,6,7] [101] rfl ?_)))
     rintro ⟨out_9,k_10⟩ o11 h12 hy13
     refine ab.seq (ab.seq (ab.aa ?_))
     refine Oc om (Oc om (Oc (bV gw rfl (List.length_map _)) (Oc (bP rfl rfl) ?_)))
     refine ae.an ⟨[(0,_),(1,_),(5,_),(6,_),(7,_),(27,B (decide (k_10 < (b0.length:Int))))],[(101,_)]⟩ rfl (ab.ite h12 rfl (fun _ h12=>?_) (fun _ h12=>?_))
     ·refine ab.skip (Fin.ag ⟨[(0,_),(1,_),(5,_),(6,_),(7,_)],[(101,_)]⟩ rfl (Fin.then (ab.seq (ab.block ?_))))
      refine ab.ag ⟨[(0,_),(1,_),(5,_),(6,_),(7,_)],[(101,_)]⟩ rfl ?_
      obtain ⟨x_12,e14,h12⟩:=aD h12
      obtain ⟨x_13,e15,h12⟩:=aD h12
      obtain ⟨x_14,e16,h12⟩:=aD h12
      obtain ⟨x_15,e17,h12⟩:=aD h12
      refine ab.hS mixed 21 [.b (.row 101),I i_5,I k_10,I (IntKind.i64.wrap (i_5 + k_10)),.b (.row 101),I i_5,I k_10,I (IntKind.i64.wrap (i_5 + k_10)),.b (.jV 101 ((IntKind.i64.wrap (i_5 + k_10):Int).toNat * 1)),I x_12,.b (.one (.sl 1 (a0.map eI))),I i_5,.b (.r5 [.i x_13]),I x_13,.b (.one (.sl 1 (b0.map eI))),I k_10,.b (.r5 [.i x_14]),I x_14,I (IntKind.i64.wrap (x_13 * x_14)),I (IntKind.i64.wrap (x_12 + (IntKind.i64.wrap (x_13 * x_14)))),.b (.jV 101 ((IntKind.i64.wrap (i_5 + k_10):Int).toNat * 1))] [0,1,5,6,7] [101] (s':=⟨[(0,_),(1,_),(5,_),(6,_),(7,_)],[(101,.row 3 1 ((out_9.set (IntKind.i64.wrap (i_5 + k_10):Int).toNat (IntKind.i64.wrap (x_12 + (IntKind.i64.wrap (x_13 * x_14))))).map eI))]⟩) rfl ⟨fun _=>.p om,fun _=>.p om,fun _=>.p om,fun _=>.p (bg rfl rfl),fun _=>.p om,fun _=>.p om,fun _=>.p om,fun _=>.p (bg rfl rfl),fun _=>.p (dk cX (bx e14) (je e14) rfl rfl rfl rfl),fun _=>.p (gq (i:=(IntKind.i64.wrap (i_5 + k_10):Int).toNat) (f:=0) bG rfl rfl rfl (eE (e:=eI) e14) rfl),fun _=>.p om,fun _=>.p om,fun _=>.p (dS cX (bx e15) (eE (e:=eI) e15) rfl rfl),fun _=>.p (fo bG rfl rfl),fun _=>.p om,fun _=>.p om,fun _=>.p (dS cX (bx e16) (eE (e:=eI) e16) rfl rfl),fun _=>.p (fo bG rfl rfl),fun _=>.p (eP rfl rfl),fun _=>.p (bg rfl rfl),fun _=>.p (dk cX (bx e17) (je e17) rfl rfl rfl rfl),trivial⟩ ⟨_,by exact .p (jT (i:=(IntKind.i64.wrap (i_5 + k_10):Int).toNat) bG rfl rfl rfl rfl (w8 e17) (map_set _ _ _ _)),rfl⟩ rfl (Fin.aI (Fin.ag ⟨[(0,_),(1,_),(5,_),(6,_),(7,_)],[(101,_)]⟩ rfl (Fin.then (ab.aa ?_))))
      refine Oc om (Oc (bg rfl rfl) (Oc oa ?_))
      refine ae.nil ?_
      exact Fin.b6 [0,1,5,6,7] [101] (out_9.set (IntKind.i64.wrap (i_5 + k_10):Int).toNat (IntKind.i64.wrap (x_12 + (IntKind.i64.wrap (x_13 * x_14)))),IntKind.i64.wrap (k_10 + 1)) (Option.some.inj h12) rfl
     ·refine ab.exit (Fin.aF ?_)
      obtain rfl:=hy13 _ (Option.some.inj h12).symm
      refine Fin.aF (Fin.aX ?_)
      exact Fin.join [0,1,5,6] [101] out_9 rfl rfl
    ·rintro out_8 hv
     subst v9
     refine ab.seq (ab.aa ?_)
     refine Oc oa (ae.an ⟨[(0,_),(1,_),(5,_),(6,_),(8,I 0)],[(101,_)]⟩ rfl (ab.seq (ab.aa ?_)))
     refine Oc oa (ae.an ⟨[(0,_),(1,_),(5,_),(6,_),(8,_),(9,I 0)],[(101,_)]⟩ rfl (ab.block ?_))
     obtain ⟨v18,h19,h8⟩:=aD h8
     refine ab.cW h19 (ky fun (out_16:List Int) (carry_17:Int) (k_18:Int)=>⟨[(0,.b (.one (.sl 1 (a0.map eI)))),(1,.b (.one (.sl 1 (b0.map eI)))),(5,.b (.row 101)),(6,I i_5),(8,I carry_17),(9,I k_18)],[(101,.row 3 1 (out_16.map eI))]⟩) [0,1,5,6,8,9] [101] rfl ?_
     rintro ⟨out_16,carry_17,k_18⟩ o20 h21 hy22
     refine ab.seq (ab.seq (ab.aa ?_))
     refine Oc om (Oc om (Oc (xm gw rfl rfl (List.length_map _)) (Oc (bP rfl rfl) ?_)))
     refine ae.an ⟨[(0,_),(1,_),(5,_),(6,_),(8,_),(9,_),(54,B (decide (k_18 < (out_16.length:Int))))],[(101,_)]⟩ rfl (ab.ite h21 rfl (fun _ h21=>?_) (fun _ h21=>?_))
     ·refine ab.skip (Fin.ag ⟨[(0,_),(1,_),(5,_),(6,_),(8,_),(9,_)],[(101,_)]⟩ rfl (Fin.then (ab.seq (ab.block (ab.seq (ab.aa ?_))))))
      refine Oc om (Oc om ?_)
      obtain ⟨x_20,e23,h21⟩:=aD h21
      refine Oc (dk cX (bx e23) (je e23) rfl rfl rfl rfl) (Oc (gq (i:=(k_18:Int).toNat) (f:=0) bG rfl rfl rfl (eE (e:=eI) e23) rfl) (Oc om (Oc (bg rfl rfl) (Oc oa ?_))))
      refine ae.an ⟨[(0,_),(1,_),(5,_),(6,_),(9,_),(10,I (IntKind.i64.wrap (x_20 + carry_17)))],[(101,_)]⟩ rfl (ab.seq (ab.aa ?_))
      refine Oc om (Oc om (Oc om ?_))
      refine ae.cD .i64 h21 rfl (kC (by decide) rfl rfl) (fun x_21 h21=>?_)
      obtain ⟨x_22,e24,h21⟩:=aD h21
      refine Oc (dk cX (bx e24) (je e24) rfl rfl rfl rfl) (Oc (jT (i:=(k_18:Int).toNat) bG rfl rfl rfl rfl (w8 e24) (map_set _ _ _ _)) ?_)
      refine ae.an ⟨[(0,_),(1,_),(5,_),(6,_),(9,_),(10,_)],[(101,.row 3 1 ((out_16.set (k_18:Int).toNat x_21).map eI))]⟩ rfl (ab.aa (Oc om ?_))
      obtain ⟨x_23,e25,h21⟩:=aD h21
      refine Oc (fc e25 rfl rfl) (Oc oa ?_)
      refine ae.nil (Fin.aI (Fin.ag ⟨[(0,_),(1,_),(5,_),(6,_),(8,I x_23),(9,_)],[(101,_)]⟩ rfl (Fin.then (ab.aa ?_))))
      refine Oc om (Oc (bg rfl rfl) (Oc oa ?_))
      refine ae.nil ?_
      exact Fin.b6 [0,1,5,6,8,9] [101] (out_16.set (k_18:Int).toNat x_21,x_23,IntKind.i64.wrap (k_18 + 1)) (Option.some.inj h21) rfl
     ·refine ab.exit (Fin.aF ?_)
      obtain rfl:=hy22 _ (Option.some.inj h21).symm
      refine Fin.aF (Fin.aX (Fin.aI ?_))
      exact Fin.join [0,1,5,6] [101] out_16 (Option.some.inj h8) rfl
   ·rintro out_7 hv
    subst v7
    refine ab.aa (Oc om (Oc (bg rfl rfl) (Oc oa ?_)))
    refine ae.nil ?_
    exact Fin.b6 [0,1,5,6] [101] (out_7,IntKind.i64.wrap (i_5 + 1)) (Option.some.inj h5) rfl
  ·refine ab.exit (Fin.aF ?_)
   obtain rfl:=hy6 _ (Option.some.inj h5).symm
   refine Fin.aF (Fin.aX ?_)
   exact Fin.join [5] [101] out_4 rfl rfl
 ·rintro out_3 hv
  subst v2
  refine ab.seq (ab.aa ?_)
  refine Oc om (ae.dQ 101 rfl ?_)
  obtain ⟨x_24,e26,h⟩:=aD h
  refine Oc (ad (gj e26) ni rfl rfl) (Oc oa ?_)
  refine ae.an ⟨[(4,.b (.one (.sl 1 (x_24.map eI))))],[]⟩ rfl (ab.ret ?_)
  obtain rfl:=Option.some.inj h
  refine Fin.ag ⟨[(4,_)],[]⟩ rfl (Fin.aq [.one (.sl 1 (x_24.map eI))] (.inl rfl) rfl (.cons (.tmp rfl) .nil) ⟨rfl,rfl⟩)
def jN (F:Nat) (a0:List Int) (b0:List Int):Option Bool :=
 Option.bind (bN (max (a0.length:Int) (b0.length:Int)) fun x_1=>iter F (fun k_2=>if (decide (0 ≤ k_2)) = true then ((fm F a0 k_2).bind fun x_3=>(fm F b0 k_2).bind fun x_4=>if (decide (x_3 ≠ x_4)) = true then ((fm F a0 k_2).bind fun x_5=>(fm F b0 k_2).bind fun x_6=>some (.inr (.inr (decide (x_5 < x_6))))) else (some (.inl (IntKind.i64.wrap (k_2 - 1))))) else (some (.inr (.inl ())))) (IntKind.i64.wrap (x_1 - 1))) (ls (fun _=>some false) (fun y=>some y))
theorem lV {F:Nat} {a0:List Int} {b0:List Int} {r:Bool} (h:jN F a0 b0 = some r):aA Tryz.prog (bd mx) 150 [] [.one (.sl 1 (a0.map eI)),.one (.sl 1 (b0.map eI))] (Is [] (.b (.one (.bool r)))):=by
 unfold jN at h
 refine aA.intro 30 Tryz.func150 Tryz.ntmps150 rfl (by simp) fun E=>?_
 show ab _ E ⟨30,[],[]⟩ _ ⟨[(0,.b (.one (.sl 1 (a0.map eI)))),(1,.b (.one (.sl 1 (b0.map eI))))],[]⟩ _
 refine ab.seq (ab.aa ?_)
 refine Oc oa (ae.an ⟨[(0,.b (.one (.sl 1 (a0.map eI)))),(1,.b (.one (.sl 1 (b0.map eI))))],[]⟩ rfl ?_)
 obtain ⟨v1,h2,h⟩:=aD h
 refine ab.cB (v:=v1) (fun (_:Unit)=>⟨[],[]⟩) (fun z=>.inl z) ?_ ?_
 ·refine ab.seq (ab.aa ?_)
  refine Oc om (Oc (bV gw rfl (List.length_map _)) (Oc om (Oc (bV gw rfl (List.length_map _)) ?_)))
  refine ae.ag ⟨[(0,_),(1,_),(7,I (a0.length:Int)),(9,I (b0.length:Int))],[]⟩ rfl (ae.cD .i64 h2 rfl (tG rfl rfl) (fun x_1 h2=>?_))
  refine Oc (b7 rfl rfl) (Oc oa ?_)
  refine ae.an ⟨[(0,_),(1,_),(5,I (IntKind.i64.wrap (x_1 - 1)))],[]⟩ rfl (ab.block (ab.cW h2 (fun (k_2:Int)=>⟨[(0,.b (.one (.sl 1 (a0.map eI)))),(1,.b (.one (.sl 1 (b0.map eI)))),(5,I k_2)],[]⟩) [0,1,5] [] rfl ?_))
  rintro k_2 o3 h4 hy5
  refine ab.seq (ab.seq (ab.aa ?_))
  refine Oc om (Oc (gC rfl rfl) ?_)
  refine ae.an ⟨[(0,_),(1,_),(5,_),(13,B (decide (0 ≤ k_2)))],[]⟩ rfl (ab.ite h4 rfl (fun _ h4=>?_) (fun _ h4=>?_))
  ·refine ab.skip (Fin.ag ⟨[(0,_),(1,_),(5,_)],[]⟩ rfl (Fin.then (ab.seq (ab.block (ab.seq (ab.aa ?_))))))
   refine Oc om (Oc om ?_)
   obtain ⟨x_3,e6,h4⟩:=aD h4
   refine Oc (ad (fN e6) nh rfl rfl) (Oc om (Oc om ?_))
   obtain ⟨x_4,e7,h4⟩:=aD h4
   refine Oc (ad (fN e7) nh rfl rfl) (Oc (di rfl rfl) ?_)
   refine ae.an ⟨[(0,_),(1,_),(5,_),(22,B (decide (x_3 ≠ x_4)))],[]⟩ rfl (ab.ite h4 rfl (fun _ h4=>?_) (fun _ h4=>?_))
   ·refine ab.seq (ab.aa ?_)
    refine Oc om (Oc om ?_)
    obtain ⟨x_5,e8,h4⟩:=aD h4
    refine Oc (ad (fN e8) nh rfl rfl) (Oc om (Oc om ?_))
    refine ae.ag ⟨[(25,I x_5),(26,.b (.one (.sl 1 (b0.map eI)))),(27,I k_2)],[]⟩ rfl ?_
    obtain ⟨x_6,e9,h4⟩:=aD h4
    refine Oc (ad (fN e9) nh rfl rfl) (Oc (bP rfl rfl) (Oc oa ?_))
    refine ae.an ⟨[(4,B (decide (x_5 < x_6)))],[]⟩ rfl (ab.ret (Fin.bb (Fin.aw ?_)))
    obtain rfl:=hy5 _ (Option.some.inj h4).symm
    refine Fin.aw (Fin.bb (Fin.aw ?_))
    obtain rfl:=Option.some.inj h
    refine Fin.ag ⟨[(4,_)],[]⟩ rfl (Fin.aq [.one (.bool (decide (x_5 < x_6)))] (.inl rfl) rfl (.cons (.tmp rfl) .nil) ⟨rfl,rfl⟩)
   ·refine ab.skip (Fin.aI (Fin.ag ⟨[(0,_),(1,_),(5,_)],[]⟩ rfl (Fin.then (ab.aa ?_))))
    refine Oc om (Oc (b7 rfl rfl) (Oc oa ?_))
    refine ae.nil ?_
    exact Fin.b6 [0,1,5] [] (IntKind.i64.wrap (k_2 - 1)) (Option.some.inj h4) rfl
  ·refine ab.exit (Fin.aF ?_)
   obtain rfl:=hy5 _ (Option.some.inj h4).symm
   refine Fin.aF (Fin.aX ?_)
   exact Fin.join [] [] () rfl rfl
 ·rintro _ hv
  subst v1
  refine ab.seq (ab.aa ?_)
  refine Oc oa (ae.an ⟨[(4,B false)],[]⟩ rfl (ab.ret ?_))
  obtain rfl:=Option.some.inj h
  refine Fin.ag ⟨[(4,_)],[]⟩ rfl (Fin.aq [.one (.bool false)] (.inl rfl) rfl (.cons (.tmp rfl) .nil) ⟨rfl,rfl⟩)
def gU (F:Nat) (a0:List Int) (b0:List Int):Option (List Int) :=
 Option.bind (iter F (ky fun out_2 borrow_3 k_4=>if (decide (k_4 < (a0.length:Int))) = true then (Option.bind ((bI a0 k_4).bind fun x_8=>(fm F b0 k_4).bind fun x_9=>Option.bind (bN (IntKind.i64.wrap ((IntKind.i64.wrap (x_8 - x_9)) - borrow_3)) fun x_12=>if (decide (x_12 < 0)) = true then (bN (IntKind.i64.wrap ((IntKind.i64.wrap (x_8 - x_9)) - borrow_3)) fun x_13=>some (1,IntKind.i64.wrap (x_13 + 65536))) else (some (0,IntKind.i64.wrap ((IntKind.i64.wrap (x_8 - x_9)) - borrow_3)))) (b9 fun borrow_10 n_11=>(eJ out_2 [n_11]).bind fun x_14=>some (x_14,borrow_10))) (b9 fun out_6 borrow_7=>some (.inl (out_6,borrow_7,IntKind.i64.wrap (k_4 + 1))))) else (some (.inr out_2))) ([],0,0)) (fun out_1=>(fW F out_1).bind fun x_15=>some x_15)
theorem jo {F:Nat} {a0:List Int} {b0:List Int} {r:(List Int)} (h:gU F a0 b0 = some r):aA Tryz.prog (bd mx) 157 [] [.one (.sl 1 (a0.map eI)),.one (.sl 1 (b0.map eI))] (Is [] (.b (.one (.sl 1 (r.map eI))))):=by
 unfold gU at h
 refine aA.intro 35 Tryz.func157 Tryz.ntmps157 rfl (by simp) fun E=>?_
 show ab _ E ⟨35,[],[]⟩ _ ⟨[(0,.b (.one (.sl 1 (a0.map eI)))),(1,.b (.one (.sl 1 (b0.map eI))))],[]⟩ _
 refine ab.seq (ab.aa ?_)
 refine Oc oa (ae.an ⟨[(0,.b (.one (.sl 1 (a0.map eI)))),(1,.b (.one (.sl 1 (b0.map eI))))],[]⟩ rfl (ab.seq (ab.aa ?_)))
 refine Oc oa (ae.an ⟨[(0,_),(1,_),(5,.b (.one (.nil)))],[]⟩ rfl (ab.seq (ab.aa ?_)))
 refine Oc oa (ae.an ⟨[(0,_),(1,_),(5,_),(6,I 0)],[]⟩ rfl ?_)
 obtain ⟨v1,h2,h⟩:=aD h
 refine ab.cB (v:=v1) (fun (out_1:List Int)=>⟨[(5,.b (.row 102))],[(102,.row 3 1 (out_1.map eI))]⟩) (fun z=>z) ?_ ?_
 ·refine ab.seq (ab.aa ?_)
  refine Oc oa (ae.an ⟨[(0,_),(1,_),(5,_),(6,_),(7,I 0)],[]⟩ rfl (ab.block (ab.lB 5 102 1 3 rfl (by decide) rfl (ab.cW h2 (ky fun (out_2:List Int) (borrow_3:Int) (k_4:Int)=>⟨[(0,.b (.one (.sl 1 (a0.map eI)))),(1,.b (.one (.sl 1 (b0.map eI)))),(5,.b (.row 102)),(6,I borrow_3),(7,I k_4)],[(102,.row 3 1 (out_2.map eI))]⟩) [0,1,5,6,7] [102] rfl ?_))))
  rintro ⟨out_2,borrow_3,k_4⟩ o3 h4 hy5
  refine ab.seq (ab.seq (ab.aa ?_))
  refine Oc om (Oc om (Oc (bV gw rfl (List.length_map _)) (Oc (bP rfl rfl) ?_)))
  refine ae.an ⟨[(0,_),(1,_),(5,_),(6,_),(7,_),(12,B (decide (k_4 < (a0.length:Int))))],[(102,_)]⟩ rfl (ab.ite h4 rfl (fun _ h4=>?_) (fun _ h4=>?_))
  ·refine ab.skip (Fin.ag ⟨[(0,_),(1,_),(5,_),(6,_),(7,_)],[(102,_)]⟩ rfl (Fin.then ?_))
   obtain ⟨v6,h7,h4⟩:=aD h4
   refine ab.cB (v:=v6) (b9 fun (out_6:List Int) (borrow_7:Int)=>⟨[(0,.b (.one (.sl 1 (a0.map eI)))),(1,.b (.one (.sl 1 (b0.map eI)))),(5,.b (.row 102)),(6,I borrow_7),(7,I k_4)],[(102,.row 3 1 (out_6.map eI))]⟩) (fun z=>z) ?_ ?_
   ·refine ab.block (ab.seq ?_)
    refine ab.ag ⟨[(0,_),(1,_),(5,_),(6,_),(7,_)],[(102,_)]⟩ rfl ?_
    obtain ⟨x_8,e8,h7⟩:=aD h7
    obtain ⟨x_9,e9,h7⟩:=aD h7
    refine ab.bm mixed 11 [.b (.one (.sl 1 (a0.map eI))),I k_4,.b (.r5 [.i x_8]),I x_8,.b (.one (.sl 1 (b0.map eI))),I k_4,I x_9,I (IntKind.i64.wrap (x_8 - x_9)),I borrow_3,I (IntKind.i64.wrap ((IntKind.i64.wrap (x_8 - x_9)) - borrow_3)),I (IntKind.i64.wrap ((IntKind.i64.wrap (x_8 - x_9)) - borrow_3))] [0,1,5,7,8] [102] (s':=⟨[(0,_),(1,_),(5,_),(7,_),(8,I (IntKind.i64.wrap ((IntKind.i64.wrap (x_8 - x_9)) - borrow_3)))],[(102,_)]⟩) rfl ⟨fun _=>.p om,fun _=>.p om,fun _=>.p (dS cX (bx e8) (eE (e:=eI) e8) rfl rfl),fun _=>.p (fo bG rfl rfl),fun _=>.p om,fun _=>.p om,fun _=>.p (ad (fN e9) nh rfl rfl),fun _=>.p (b7 rfl rfl),fun _=>.p om,fun _=>.p (b7 rfl rfl),fun _=>.p oa,trivial⟩ rfl rfl (ab.seq (ab.aa ?_))
    refine Oc oa (ae.an ⟨[(0,_),(1,_),(5,_),(6,I 0),(7,_),(8,_)],[(102,_)]⟩ rfl ?_)
    obtain ⟨v10,h11,h7⟩:=aD h7
    refine ab.cB (v:=v10) (b9 fun (borrow_10:Int) (n_11:Int)=>⟨[(0,.b (.one (.sl 1 (a0.map eI)))),(1,.b (.one (.sl 1 (b0.map eI)))),(5,.b (.row 102)),(6,I borrow_10),(7,I k_4),(8,I n_11)],[(102,.row 3 1 (out_2.map eI))]⟩) (fun z=>z) ?_ ?_
    ·refine ab.seq (ab.aa ?_)
     refine ae.cD .i64 h11 rfl om (fun x_12 h11=>?_)
     refine Oc (bP rfl rfl) (ae.an ⟨[(0,_),(1,_),(5,_),(6,_),(7,_),(8,_),(26,B (decide (x_12 < 0)))],[(102,_)]⟩ rfl (ab.ite h11 rfl (fun _ h11=>?_) (fun _ h11=>?_)))
     ·refine ab.seq (ab.aa ?_)
      refine ae.cD .i64 h11 rfl om (fun x_13 h11=>?_)
      refine Oc (bg rfl rfl) (Oc oa ?_)
      refine ae.an ⟨[(0,_),(1,_),(5,_),(7,_),(8,I (IntKind.i64.wrap (x_13 + 65536)))],[(102,_)]⟩ rfl (ab.aa (Oc oa (ae.nil ?_)))
      exact Fin.join [0,1,5,6,7,8] [102] (1,IntKind.i64.wrap (x_13 + 65536)) (Option.some.inj h11) rfl
     ·refine ab.skip ?_
      exact Fin.join [0,1,5,6,7,8] [102] (0,IntKind.i64.wrap ((IntKind.i64.wrap (x_8 - x_9)) - borrow_3)) (Option.some.inj h11) rfl
    ·rintro ⟨borrow_10,n_11⟩ hv
     subst v10
     refine ab.aa (Oc om (Oc om (Oc (bc (k:=103) (es:=[n_11].map eI) cX rfl rfl (cE fun _=>rfl) rfl (by decide) (by decide) rfl) ?_)))
     obtain ⟨x_14,e12,h7⟩:=aD h7
     refine Oc (lj cX (vu e12) (vt e12) rfl rfl rfl rfl (oR e12) rfl) (Oc oa ?_)
     refine ae.nil (Fin.aI ?_)
     exact Fin.join [0,1,5,6,7] [102] (x_14,borrow_10) (Option.some.inj h7) rfl
   ·rintro ⟨out_6,borrow_7⟩ hv
    subst v6
    refine ab.aa (Oc om (Oc (bg rfl rfl) (Oc oa ?_)))
    refine ae.nil ?_
    exact Fin.b6 [0,1,5,6,7] [102] (out_6,borrow_7,IntKind.i64.wrap (k_4 + 1)) (Option.some.inj h4) rfl
  ·refine ab.exit (Fin.aF ?_)
   obtain rfl:=hy5 _ (Option.some.inj h4).symm
   refine Fin.aF (Fin.aX ?_)
   exact Fin.join [5] [102] out_2 rfl rfl
 ·rintro out_1 hv
  subst v1
  refine ab.seq (ab.aa ?_)
  refine Oc om (ae.dQ 102 rfl ?_)
  obtain ⟨x_15,e13,h⟩:=aD h
  refine Oc (ad (gj e13) ni rfl rfl) (Oc oa ?_)
  refine ae.an ⟨[(4,.b (.one (.sl 1 (x_15.map eI))))],[]⟩ rfl (ab.ret ?_)
  obtain rfl:=Option.some.inj h
  refine Fin.ag ⟨[(4,_)],[]⟩ rfl (Fin.aq [.one (.sl 1 (x_15.map eI))] (.inl rfl) rfl (.cons (.tmp rfl) .nil) ⟨rfl,rfl⟩)
def iO (F:Nat) (a0:List Int) (b0:List Int):Option ((List Int) × (List Int)) :=
 Option.bind (CW (0:Int) (a0.length:Int) (a0.length:Int)) (fun x_1=>(bI b0 (IntKind.i64.wrap ((b0.length:Int) - 1))).bind fun x_2=>(nc F b0 (IntKind.i64.wrap ((b0.length:Int) - 2))).bind fun x_3=>Option.bind (bN (IntKind.i64.wrap ((a0.length:Int) - 1)) fun x_6=>iter F (ky fun q_7 r_8 k_9=>if (decide (0 ≤ k_9)) = true then (Option.bind ((bI a0 k_9).bind fun x_14=>(eJ [x_14] r_8).bind fun x_15=>(fW F x_15).bind fun x_16=>(nc F x_16 (b0.length:Int)).bind fun x_17=>bN (IntKind.i64.wrap ((b0.length:Int) - 1)) fun x_18=>(nc F x_16 x_18).bind fun x_19=>bN (IntKind.i64.wrap ((IntKind.i64.wrap (x_17 * 4294967296)) + (IntKind.i64.wrap (x_19 * 65536)))) fun x_20=>bN (IntKind.i64.wrap ((b0.length:Int) - 2)) fun x_21=>(nc F x_16 x_21).bind fun x_22=>bN (IntKind.i64.wrap ((IntKind.i64.wrap (x_2 * 65536)) + x_3)) fun x_23=>(lq .i64 (IntKind.i64.wrap (x_20 + x_22)) x_23).bind fun x_24=>(kI F b0 [min 65535 x_24]).bind fun x_25=>Option.bind (iter F (b9 fun d_28 part_29=>(jN F x_16 part_29).bind fun x_32=>if x_32 = true then ((gU F part_29 b0).bind fun x_33=>some (.inl (IntKind.i64.wrap (d_28 - 1),x_33))) else (some (.inr (d_28,part_29)))) (min 65535 x_24,x_25)) (b9 fun d_26 part_27=>(bI q_7 k_9).bind fun x_34=>(gU F x_16 part_27).bind fun x_35=>some (q_7.set (k_9:Int).toNat d_26,x_35))) (b9 fun q_12 r_13=>some (.inl (q_12,r_13,IntKind.i64.wrap (k_9 - 1))))) else (some (.inr (q_7,r_8)))) (x_1,[],x_6)) (b9 fun q_4 r_5=>(fW F q_4).bind fun x_36=>some (x_36,r_5)))
theorem mJ {F:Nat} {a0:List Int} {b0:List Int} {r:(List Int) × (List Int)} (h:iO F a0 b0 = some r):aA Tryz.prog (bd mx) 154 [] [.one (.sl 1 (a0.map eI)),.one (.sl 1 (b0.map eI))] (Is [] (.eY [.one (.sl 1 (r.1.map eI)),.one (.sl 1 (r.2.map eI))])):=by
 unfold iO at h
 refine aA.intro 84 Tryz.func154 Tryz.ntmps154 rfl (by simp) fun E=>?_
 show ab _ E ⟨84,[],[]⟩ _ ⟨[(0,.b (.one (.sl 1 (a0.map eI)))),(1,.b (.one (.sl 1 (b0.map eI))))],[]⟩ _
 refine ab.seq (ab.aa ?_)
 refine Oc oa (Oc oa ?_)
 refine ae.an ⟨[(0,.b (.one (.sl 1 (a0.map eI)))),(1,.b (.one (.sl 1 (b0.map eI))))],[]⟩ rfl (ab.seq (ab.aa ?_))
 refine Oc om (Oc (bV gw rfl (List.length_map _)) ?_)
 obtain ⟨x_1,e1,h⟩:=aD h
 refine Oc (pr (k:=101) (enc:=eI) cX e1 (by decide) (.cons .refl .nil) rfl rfl rfl) (Oc oa ?_)
 refine ae.an ⟨[(0,_),(1,_),(6,.b (.row 101))],[(101,.row 3 1 (x_1.map eI))]⟩ rfl (ab.seq (ab.aa ?_))
 refine Oc om (Oc (bV gw rfl (List.length_map _)) (Oc oa ?_))
 refine ae.an ⟨[(0,_),(1,_),(6,_),(7,I (b0.length:Int))],[(101,_)]⟩ rfl (ab.seq ?_)
 obtain ⟨x_2,e2,h⟩:=aD h
 obtain ⟨x_3,e3,h⟩:=aD h
 refine ab.bm mixed 12 [.b (.one (.sl 1 (b0.map eI))),I (b0.length:Int),I (IntKind.i64.wrap ((b0.length:Int) - 1)),.b (.r5 [.i x_2]),I x_2,I (IntKind.i64.wrap (x_2 * 65536)),.b (.one (.sl 1 (b0.map eI))),I (b0.length:Int),I (IntKind.i64.wrap ((b0.length:Int) - 2)),I x_3,I (IntKind.i64.wrap ((IntKind.i64.wrap (x_2 * 65536)) + x_3)),I (IntKind.i64.wrap ((IntKind.i64.wrap (x_2 * 65536)) + x_3))] [0,1,6,7,8] [101] (s':=⟨[(0,_),(1,_),(6,_),(7,_),(8,I (IntKind.i64.wrap ((IntKind.i64.wrap (x_2 * 65536)) + x_3)))],[(101,_)]⟩) rfl ⟨fun _=>.p om,fun _=>.p om,fun _=>.p (b7 rfl rfl),fun _=>.p (dS cX (bx e2) (eE (e:=eI) e2) rfl rfl),fun _=>.p (fo bG rfl rfl),fun _=>.p (eP rfl rfl),fun _=>.p om,fun _=>.p om,fun _=>.p (b7 rfl rfl),fun _=>.p (ad (oY e3) u7 rfl rfl),fun _=>.p (bg rfl rfl),fun _=>.p oa,trivial⟩ rfl rfl (ab.seq (ab.aa ?_))
 refine Oc oa (ae.an ⟨[(0,_),(1,_),(6,_),(7,_),(8,_),(9,.b (.one (.nil)))],[(101,_)]⟩ rfl ?_)
 obtain ⟨v4,h5,h⟩:=aD h
 refine ab.cB (v:=v4) (b9 fun (q_4:List Int) (r_5:List Int)=>⟨[(6,.b (.row 101)),(9,.b (.one (.sl 1 (r_5.map eI))))],[(101,.row 3 1 (q_4.map eI))]⟩) (fun z=>z) ?_ ?_
 ·refine ab.seq (ab.aa ?_)
  refine Oc om (Oc (bV gw rfl (List.length_map _)) ?_)
  refine ae.cD .i64 h5 rfl (b7 rfl rfl) (fun x_6 h5=>?_)
  refine Oc oa (ae.an ⟨[(0,_),(1,_),(6,_),(7,_),(8,_),(9,_),(10,I x_6)],[(101,_)]⟩ rfl (ab.block (ab.rM 9 1 rfl (by decide) (ab.cW h5 (ky fun (q_7:List Int) (r_8:List Int) (k_9:Int)=>⟨[(0,.b (.one (.sl 1 (a0.map eI)))),(1,.b (.one (.sl 1 (b0.map eI)))),(6,.b (.row 101)),(7,I (b0.length:Int)),(8,I (IntKind.i64.wrap ((IntKind.i64.wrap (x_2 * 65536)) + x_3))),(9,.b (.one (.sl 1 (r_8.map eI)))),(10,I k_9)],[(101,.row 3 1 (q_7.map eI))]⟩) [0,1,6,7,8,9,10] [101] rfl ?_))))
  rintro ⟨q_7,r_8,k_9⟩ o6 h7 hy8
  refine ab.seq (ab.seq (ab.aa ?_))
  refine Oc om (Oc (gC rfl rfl) ?_)
  refine ae.an ⟨[(0,_),(1,_),(6,_),(7,_),(8,_),(9,_),(10,_),(33,B (decide (0 ≤ k_9)))],[(101,_)]⟩ rfl (ab.ite h7 rfl (fun _ h7=>?_) (fun _ h7=>?_))
  ·refine ab.skip (Fin.ag ⟨[(0,_),(1,_),(6,_),(7,_),(8,_),(9,_),(10,_)],[(101,_)]⟩ rfl (Fin.then ?_))
   obtain ⟨v9,h10,h7⟩:=aD h7
   refine ab.cB (v:=v9) (b9 fun (q_12:List Int) (r_13:List Int)=>⟨[(0,.b (.one (.sl 1 (a0.map eI)))),(1,.b (.one (.sl 1 (b0.map eI)))),(6,.b (.row 101)),(7,I (b0.length:Int)),(8,I (IntKind.i64.wrap ((IntKind.i64.wrap (x_2 * 65536)) + x_3))),(9,.b (.one (.sl 1 (r_13.map eI)))),(10,I k_9)],[(101,.row 3 1 (q_12.map eI))]⟩) (fun z=>z) ?_ ?_
   ·refine ab.block (ab.seq (ab.aa ?_))
    refine Oc om (Oc om ?_)
    obtain ⟨x_14,e11,h10⟩:=aD h10
    refine Oc (dS cX (bx e11) (eE (e:=eI) e11) rfl rfl) (Oc (fo bG rfl rfl) (Oc (bc (k:=102) (es:=[x_14].map eI) cX rfl rfl (cE fun _=>rfl) rfl (by decide) (by decide) rfl) (Oc om ?_)))
    refine ae.ag ⟨[(0,_),(1,_),(6,_),(7,_),(8,_),(9,_),(10,_),(40,.b (.row 102)),(41,.b (.one (.sl 1 (r_8.map eI))))],[(101,_),(102,.row 3 1 ([x_14].map eI))]⟩ rfl ?_
    obtain ⟨x_15,e12,h10⟩:=aD h10
    refine Oc (xp cX (vu e12) (vt e12) rfl rfl rfl (oR e12) rfl) (ae.dQ 102 rfl ?_)
    obtain ⟨x_16,e13,h10⟩:=aD h10
    refine Oc (ad (gj e13) ni rfl rfl) (Oc oa ?_)
    refine ae.an ⟨[(0,.b (.one (.sl 1 (a0.map eI)))),(1,.b (.one (.sl 1 (b0.map eI)))),(6,.b (.row 101)),(7,I (b0.length:Int)),(8,I (IntKind.i64.wrap ((IntKind.i64.wrap (x_2 * 65536)) + x_3))),(9,.b (.one (.sl 1 (x_16.map eI)))),(10,I k_9)],[(101,.row 3 1 (q_7.map eI))]⟩ rfl (ab.seq (ab.aa ?_))
    refine Oc om (Oc om ?_)
    obtain ⟨x_17,e14,h10⟩:=aD h10
    refine Oc (ad (oY e14) u7 rfl rfl) (Oc (eP rfl rfl) (Oc om ?_))
    refine ae.ag ⟨[(0,_),(1,_),(6,_),(7,_),(8,_),(9,_),(10,_),(47,I (IntKind.i64.wrap (x_17 * 4294967296))),(48,.b (.one (.sl 1 (x_16.map eI))))],[(101,_)]⟩ rfl (Oc om (ae.cD .i64 h10 rfl (b7 rfl rfl) (fun x_18 h10=>?_)))
    obtain ⟨x_19,e15,h10⟩:=aD h10
    refine Oc (ad (oY e15) u7 rfl rfl) (Oc (eP rfl rfl) ?_)
    refine ae.cD .i64 h10 rfl (bg rfl rfl) (fun x_20 h10=>?_)
    refine Oc om (ae.ag ⟨[(0,_),(1,_),(6,_),(7,_),(8,_),(9,_),(10,_),(53,I x_20),(54,.b (.one (.sl 1 (x_16.map eI))))],[(101,_)]⟩ rfl (Oc om (ae.cD .i64 h10 rfl (b7 rfl rfl) (fun x_21 h10=>?_))))
    obtain ⟨x_22,e16,h10⟩:=aD h10
    refine Oc (ad (oY e16) u7 rfl rfl) (Oc (bg rfl rfl) ?_)
    refine ae.cD .i64 h10 rfl om (fun x_23 h10=>?_)
    obtain ⟨x_24,e17,h10⟩:=aD h10
    refine Oc (fc e17 rfl rfl) (Oc (DJ rfl rfl) (Oc oa ?_))
    refine ae.an ⟨[(0,_),(1,_),(6,_),(7,_),(8,_),(9,_),(10,_),(11,I (min 65535 x_24))],[(101,_)]⟩ rfl (ab.seq (ab.aa ?_))
    refine Oc om (Oc om (Oc (bc (k:=103) (es:=[min 65535 x_24].map eI) cX rfl rfl (cE fun _=>rfl) rfl (by decide) (by decide) rfl) ?_))
    refine ae.dQ 103 rfl ?_
    obtain ⟨x_25,e18,h10⟩:=aD h10
    refine Oc (ad (rQ e18) BZ rfl rfl) (Oc oa ?_)
    refine ae.an ⟨[(0,.b (.one (.sl 1 (a0.map eI)))),(1,.b (.one (.sl 1 (b0.map eI)))),(6,.b (.row 101)),(7,I (b0.length:Int)),(8,I (IntKind.i64.wrap ((IntKind.i64.wrap (x_2 * 65536)) + x_3))),(9,.b (.one (.sl 1 (x_16.map eI)))),(10,I k_9),(11,I (min 65535 x_24)),(12,.b (.one (.sl 1 (x_25.map eI))))],[(101,.row 3 1 (q_7.map eI))]⟩ rfl ?_
    obtain ⟨v19,h20,h10⟩:=aD h10
    refine ab.cB (v:=v19) (b9 fun (d_26:Int) (part_27:List Int)=>⟨[(0,.b (.one (.sl 1 (a0.map eI)))),(1,.b (.one (.sl 1 (b0.map eI)))),(6,.b (.row 101)),(7,I (b0.length:Int)),(8,I (IntKind.i64.wrap ((IntKind.i64.wrap (x_2 * 65536)) + x_3))),(9,.b (.one (.sl 1 (x_16.map eI)))),(10,I k_9),(11,I d_26),(12,.b (.one (.sl 1 (part_27.map eI))))],[(101,.row 3 1 (q_7.map eI))]⟩) (fun z=>z) ?_ ?_
    ·refine ab.block (ab.cW h20 (b9 fun (d_28:Int) (part_29:List Int)=>⟨[(0,.b (.one (.sl 1 (a0.map eI)))),(1,.b (.one (.sl 1 (b0.map eI)))),(6,.b (.row 101)),(7,I (b0.length:Int)),(8,I (IntKind.i64.wrap ((IntKind.i64.wrap (x_2 * 65536)) + x_3))),(9,.b (.one (.sl 1 (x_16.map eI)))),(10,I k_9),(11,I d_28),(12,.b (.one (.sl 1 (part_29.map eI))))],[(101,.row 3 1 (q_7.map eI))]⟩) [0,1,6,7,8,9,10,11,12] [101] rfl ?_)
     rintro ⟨d_28,part_29⟩ o21 h22 hy23
     refine ab.seq (ab.seq (ab.aa ?_))
     refine Oc om (Oc om ?_)
     obtain ⟨x_32,e24,h22⟩:=aD h22
     refine Oc (ad (lV e24) u9 rfl rfl) (ae.an ⟨[(0,_),(1,_),(6,_),(7,_),(8,_),(9,_),(10,_),(11,_),(12,_),(68,B x_32)],[(101,_)]⟩ rfl (ab.ite h22 rfl (fun _ h22=>?_) (fun _ h22=>?_)))
     ·refine ab.skip (Fin.ag ⟨[(0,_),(1,_),(6,_),(7,_),(8,_),(9,_),(10,_),(11,_),(12,_)],[(101,_)]⟩ rfl (Fin.then (ab.block (ab.seq (ab.aa ?_)))))
      refine Oc om (Oc (b7 rfl rfl) (Oc oa ?_))
      refine ae.an ⟨[(0,_),(1,_),(6,_),(7,_),(8,_),(9,_),(10,_),(11,I (IntKind.i64.wrap (d_28 - 1))),(12,_)],[(101,_)]⟩ rfl (ab.aa (Oc om (Oc om ?_)))
      obtain ⟨x_33,e25,h22⟩:=aD h22
      refine Oc (ad (jo e25) sS rfl rfl) (Oc oa ?_)
      refine ae.nil (Fin.aI ?_)
      exact Fin.b6 [0,1,6,7,8,9,10,11,12] [101] (IntKind.i64.wrap (d_28 - 1),x_33) (Option.some.inj h22) rfl
     ·refine ab.exit (Fin.aF ?_)
      obtain rfl:=hy23 _ (Option.some.inj h22).symm
      refine Fin.aF (Fin.aX ?_)
      exact Fin.join [0,1,6,7,8,9,10,11,12] [101] (d_28,part_29) rfl rfl
    ·rintro ⟨d_26,part_27⟩ hv
     subst v19
     refine ab.seq (ab.aa ?_)
     refine Oc om (Oc om (Oc om ?_))
     obtain ⟨x_34,e26,h10⟩:=aD h10
     refine Oc (dk cX (bx e26) (je e26) rfl rfl rfl rfl) (Oc (jT (i:=(k_9:Int).toNat) bG rfl rfl rfl rfl (w8 e26) (map_set _ _ _ _)) ?_)
     refine ae.an ⟨[(0,_),(1,_),(6,_),(7,_),(8,_),(9,_),(10,_),(12,_)],[(101,.row 3 1 ((q_7.set (k_9:Int).toNat d_26).map eI))]⟩ rfl (ab.aa (Oc om (Oc om ?_)))
     obtain ⟨x_35,e27,h10⟩:=aD h10
     refine Oc (ad (jo e27) sS rfl rfl) (Oc oa ?_)
     refine ae.nil (Fin.aI ?_)
     exact Fin.join [0,1,6,7,8,9,10] [101] (q_7.set (k_9:Int).toNat d_26,x_35) (Option.some.inj h10) rfl
   ·rintro ⟨q_12,r_13⟩ hv
    subst v9
    refine ab.aa (Oc om (Oc (b7 rfl rfl) (Oc oa ?_)))
    refine ae.nil ?_
    exact Fin.b6 [0,1,6,7,8,9,10] [101] (q_12,r_13,IntKind.i64.wrap (k_9 - 1)) (Option.some.inj h7) rfl
  ·refine ab.exit (Fin.aF ?_)
   obtain rfl:=hy8 _ (Option.some.inj h7).symm
   refine Fin.aF (Fin.aX ?_)
   exact Fin.join [6,9] [101] (q_7,r_8) rfl rfl
 ·rintro ⟨q_4,r_5⟩ hv
  subst v4
  refine ab.seq (ab.aa ?_)
  refine Oc om (ae.dQ 101 rfl ?_)
  obtain ⟨x_36,e28,h⟩:=aD h
  refine Oc (ad (gj e28) ni rfl rfl) (Oc om (Oc oa (Oc oa ?_)))
  refine ae.an ⟨[(4,.b (.one (.sl 1 (x_36.map eI)))),(5,.b (.one (.sl 1 (r_5.map eI))))],[]⟩ rfl (ab.ret ?_)
  obtain rfl:=Option.some.inj h
  refine Fin.ag ⟨[(4,_),(5,_)],[]⟩ rfl (Fin.aq [.one (.sl 1 (x_36.map eI)),.one (.sl 1 (r_5.map eI))] (.inl rfl) rfl (.cons (.tmp rfl) (.cons (.tmp rfl) .nil)) ⟨rfl,rfl⟩)
def mq (F:Nat) (a0:br) (b0:br):Option br :=
 Option.bind (eF F a0) (b9 fun x_1 x_2=>Option.bind (eF F b0) (b9 fun x_3 x_4=>Option.bind (if (x_2 && x_4) = true then (Option.bind (iter F (b9 fun n_6 m_7=>if (decide (m_7 ≠ 0)) = true then ((vm n_6 m_7).bind fun x_9=>some (.inl (m_7,x_9))) else (some (.inr n_6))) (x_1,x_3)) (fun n_5=>(gQ F n_5).bind fun x_10=>(qn F x_10).bind fun x_11=>some (.inr x_11))) else (some (.inl ()))) (ls (fun _=>(cj F a0).bind fun x_12=>(bE (!(!x_12)) (cj F b0)).bind fun x_13=>if ((!x_12) || (!x_13)) = true then ((gE F).bind fun x_14=>some x_14) else ((bJ F a0).bind fun x_15=>(bJ F b0).bind fun x_16=>Option.bind (iter F (b9 fun x_18 y_19=>if (decide (0 < (y_19.length:Int))) = true then (Option.bind (iO F x_18 y_19) (b9 fun x_21 x_22=>some (.inl (y_19,x_22)))) else (some (.inr x_18))) (x_15,x_16)) (fun x_17=>(c5 F false x_17).bind fun x_23=>some x_23))) (fun y=>some y))))
theorem qE {F:Nat} {a0:br} {b0:br} {r:br} (h:mq F a0 b0 = some r):aA Tryz.prog (bd mx) 115 [] [.agg (ar a0),.agg (ar b0)] (Is [] (.b (.agg (ar r)))):=by
 unfold mq at h
 refine aA.intro 64 Tryz.func115 Tryz.ntmps115 rfl (by simp) fun E=>?_
 show ab _ E ⟨64,[],[]⟩ _ ⟨[(0,.b (.agg (ar a0))),(1,.b (.agg (ar b0)))],[]⟩ _
 refine ab.seq (ab.aa ?_)
 refine Oc (aL (k:=101) rfl rfl) (Oc (aL (k:=102) rfl rfl) (Oc (aB (k:=103) bn rfl) ?_))
 refine ae.an ⟨[(2,Pt 101 0),(3,Pt 102 0),(4,Pt 103 0)],[(101,.box 25 (ar a0)),(102,.box 25 (ar b0)),(103,.box 25 cU)]⟩ rfl (ab.seq (ab.aa ?_))
 refine Oc (lp aj) ?_
 obtain ⟨⟨x_1,x_2⟩,e1,h⟩:=aD h
 refine Oc (ad (eN e1) kV rfl rfl) (Oc om (Oc (ay rfl rfl) (Oc (ay rfl rfl) (Oc oa (Oc oa ?_)))))
 refine ae.an ⟨[(2,_),(3,_),(4,_),(5,I x_1),(6,B x_2)],[(101,_),(102,_),(103,_)]⟩ rfl (ab.seq (ab.aa ?_))
 refine Oc (lp aj) ?_
 obtain ⟨⟨x_3,x_4⟩,e2,h⟩:=aD h
 refine Oc (ad (eN e2) kV rfl rfl) (Oc om (Oc (ay rfl rfl) (Oc (ay rfl rfl) (Oc oa (Oc oa ?_)))))
 refine ae.an ⟨[(2,_),(3,_),(4,_),(5,_),(6,_),(7,I x_3),(8,B x_4)],[(101,_),(102,_),(103,_)]⟩ rfl ?_
 obtain ⟨v3,h4,h⟩:=aD h
 refine ab.cB (v:=v3) (fun (_:Unit)=>⟨[(2,Pt 101 0),(3,Pt 102 0),(4,Pt 103 0)],[(101,.box 25 (ar a0)),(102,.box 25 (ar b0)),(103,.box 25 cU)]⟩) (fun z=>.inl z) ?_ ?_
 ·refine ab.seq (ab.aa ?_)
  refine Oc om (Oc om ?_)
  refine cG x_2 [] (fun g5=>trivial) (fun g5=>om) (Oc (aG (fun e=>e) rfl rfl rfl rfl) (ae.an ⟨[(2,_),(3,_),(4,_),(5,_),(7,_),(27,B (x_2 && x_4))],[(101,_),(102,_),(103,_)]⟩ rfl (ab.ite h4 rfl (fun _ h4=>?_) (fun _ h4=>?_))))
  ·obtain ⟨v6,h7,h4⟩:=aD h4
   refine ab.cB (v:=v6) (fun (n_5:Int)=>⟨[(4,Pt 103 0),(5,I n_5)],[(103,.box 25 cU)]⟩) (fun z=>z) ?_ ?_
   ·refine ab.block (ab.cW h7 (b9 fun (n_6:Int) (m_7:Int)=>⟨[(4,Pt 103 0),(5,I n_6),(7,I m_7)],[(103,.box 25 cU)]⟩) [4,5,7] [103] rfl ?_)
    rintro ⟨n_6,m_7⟩ o8 h9 hy10
    refine ab.seq (ab.seq (ab.aa ?_))
    refine Oc om (Oc (di rfl rfl) ?_)
    refine ae.an ⟨[(4,_),(5,_),(7,_),(29,B (decide (m_7 ≠ 0)))],[(103,_)]⟩ rfl (ab.ite h9 rfl (fun _ h9=>?_) (fun _ h9=>?_))
    ·refine ab.skip (Fin.ag ⟨[(4,_),(5,_),(7,_)],[(103,_)]⟩ rfl (Fin.then (ab.block (ab.seq (ab.aa ?_)))))
     refine Oc om (Oc om ?_)
     obtain ⟨x_9,e11,h9⟩:=aD h9
     refine Oc (q8 e11 rfl rfl) (Oc oa ?_)
     refine ae.an ⟨[(4,_),(7,_),(9,I x_9)],[(103,_)]⟩ rfl (ab.seq (ab.aa ?_))
     refine Oc om (Oc oa ?_)
     refine ae.an ⟨[(4,_),(5,I m_7),(9,_)],[(103,_)]⟩ rfl (ab.aa (Oc om (Oc oa ?_)))
     refine ae.nil (Fin.aI ?_)
     exact Fin.b6 [4,5,7] [103] (m_7,x_9) (Option.some.inj h9) rfl
    ·refine ab.exit (Fin.aF ?_)
     obtain rfl:=hy10 _ (Option.some.inj h9).symm
     refine Fin.aF (Fin.aX ?_)
     exact Fin.join [4,5] [103] n_6 rfl rfl
   ·rintro n_5 hv
    subst v6
    refine ab.seq (ab.aa ?_)
    refine Oc om ?_
    obtain ⟨x_10,e12,h4⟩:=aD h4
    refine Oc (ad (gp e12) kX rfl rfl) ?_
    obtain ⟨x_11,e13,h4⟩:=aD h4
    refine Oc (ad (zN e13) goes161 rfl rfl) (Oc (ah aj rfl rfl rfl rfl (Nat.le_of_ble_eq_true rfl) rfl) ?_)
    refine ae.an ⟨[(4,_)],[(103,.box 25 (ar x_11))]⟩ rfl (ab.ret ?_)
    obtain rfl:=Option.some.inj h4
    refine Fin.aw ?_
    obtain rfl:=Option.some.inj h
    refine Fin.ag ⟨[(4,_)],[(103,_)]⟩ rfl (Fin.aq [.agg (ar x_11)] (.inl rfl) rfl (.cons (.agg aj rfl rfl rfl rfl) .nil) ⟨rfl,rfl⟩)
  ·refine ab.skip ?_
   exact Fin.join [2,3,4] [101,102,103] () (Option.some.inj h4) rfl
 ·rintro _ hv
  subst v3
  refine ab.seq (ab.seq (ab.aa ?_))
  refine Oc (lp aj) ?_
  obtain ⟨x_12,e14,h⟩:=aD h
  refine Oc (ad (bO e14) fR rfl rfl) (Oc (aT rfl) (Oc om ?_))
  refine cx (!(!x_12)) [] (fun g15=>trivial) (fun g15=>lp aj) (ae.ag ⟨[(2,_),(3,_),(4,_),(41,B (!x_12)),(42,.dh (!(!x_12)) (.agg (ar b0)))],[(101,_),(102,_),(103,_)]⟩ rfl ?_)
  obtain ⟨x_13,e17,h⟩:=aD h
  refine cx (!(!x_12)) [42] (fun g16=>⟨g16,trivial⟩) (fun g16=>ad (bO (gc e17 g16)) fR rfl rfl) (cx (!(!x_12)) [43] (fun g18=>⟨g18,trivial⟩) (fun g18=>aT rfl) (Oc (aQ (fun e=>by rw [e]; rfl) rfl rfl rfl rfl) (ae.an ⟨[(2,_),(3,_),(4,_),(45,B ((!x_12) || (!x_13)))],[(101,_),(102,_),(103,_)]⟩ rfl (ab.ite h rfl (fun _ h=>?_) (fun _ h=>?_)))))
  ·refine ab.seq (ab.aa ?_)
   obtain ⟨x_14,e19,h⟩:=aD h
   refine Oc (ad (fM e19) kW rfl rfl) (Oc (ah aj rfl rfl rfl rfl (Nat.le_of_ble_eq_true rfl) rfl) ?_)
   refine ae.an ⟨[(4,_)],[(103,.box 25 (ar x_14))]⟩ rfl (ab.ret (Fin.aw ?_))
   obtain rfl:=Option.some.inj h
   refine Fin.ag ⟨[(4,_)],[(103,_)]⟩ rfl (Fin.aq [.agg (ar x_14)] (.inl rfl) rfl (.cons (.agg aj rfl rfl rfl rfl) .nil) ⟨rfl,rfl⟩)
  ·refine ab.skip (Fin.ag ⟨[(2,_),(3,_),(4,_)],[(101,_),(102,_),(103,_)]⟩ rfl (Fin.then (ab.seq (ab.aa ?_))))
   refine Oc (lp aj) ?_
   obtain ⟨x_15,e20,h⟩:=aD h
   refine Oc (ad (bC e20) gl rfl rfl) (Oc oa ?_)
   refine ae.an ⟨[(3,_),(4,_),(10,.b (.one (.sl 1 (x_15.map eI))))],[(102,_),(103,_)]⟩ rfl (ab.seq (ab.aa ?_))
   refine Oc (lp aj) ?_
   obtain ⟨x_16,e21,h⟩:=aD h
   refine Oc (ad (bC e21) gl rfl rfl) (Oc oa ?_)
   refine ae.an ⟨[(4,_),(10,_),(11,.b (.one (.sl 1 (x_16.map eI))))],[(103,_)]⟩ rfl ?_
   obtain ⟨v22,h23,h⟩:=aD h
   refine ab.cB (v:=v22) (fun (x_17:List Int)=>⟨[(4,Pt 103 0),(10,.b (.one (.sl 1 (x_17.map eI))))],[(103,.box 25 cU)]⟩) (fun z=>z) ?_ ?_
   ·refine ab.block (ab.cW h23 (b9 fun (x_18:List Int) (y_19:List Int)=>⟨[(4,Pt 103 0),(10,.b (.one (.sl 1 (x_18.map eI)))),(11,.b (.one (.sl 1 (y_19.map eI))))],[(103,.box 25 cU)]⟩) [4,10,11] [103] rfl ?_)
    rintro ⟨x_18,y_19⟩ o24 h25 hy26
    refine ab.seq (ab.seq (ab.aa ?_))
    refine Oc om (Oc (bV gw rfl (List.length_map _)) (Oc (fj rfl rfl) ?_))
    refine ae.an ⟨[(4,_),(10,_),(11,_),(53,B (decide (0 < (y_19.length:Int))))],[(103,_)]⟩ rfl (ab.ite h25 rfl (fun _ h25=>?_) (fun _ h25=>?_))
    ·refine ab.skip (Fin.ag ⟨[(4,_),(10,_),(11,_)],[(103,_)]⟩ rfl (Fin.then (ab.block (ab.seq (ab.aa ?_)))))
     refine Oc om (Oc om ?_)
     obtain ⟨⟨x_21,x_22⟩,e27,h25⟩:=aD h25
     refine Oc (ad (mJ e27) yp rfl rfl) (Oc om (Oc (ay rfl rfl) ?_))
     refine ae.ag ⟨[(4,_),(11,_),(54,.eY [.one (.sl 1 (x_21.map eI)),.one (.sl 1 (x_22.map eI))]),(58,.b (.one (.sl 1 (x_21.map eI))))],[(103,_)]⟩ rfl (Oc (ay rfl rfl) (Oc oa (Oc oa ?_)))
     refine ae.an ⟨[(4,_),(11,_),(13,.b (.one (.sl 1 (x_22.map eI))))],[(103,_)]⟩ rfl (ab.seq (ab.aa ?_))
     refine Oc om (Oc oa ?_)
     refine ae.an ⟨[(4,_),(10,.b (.one (.sl 1 (y_19.map eI)))),(13,_)],[(103,_)]⟩ rfl (ab.aa (Oc om (Oc oa ?_)))
     refine ae.nil (Fin.aI ?_)
     exact Fin.b6 [4,10,11] [103] (y_19,x_22) (Option.some.inj h25) rfl
    ·refine ab.exit (Fin.aF ?_)
     obtain rfl:=hy26 _ (Option.some.inj h25).symm
     refine Fin.aF (Fin.aX ?_)
     exact Fin.join [4,10] [103] x_18 rfl rfl
   ·rintro x_17 hv
    subst v22
    refine ab.seq (ab.aa ?_)
    refine Oc om ?_
    obtain ⟨x_23,e28,h⟩:=aD h
    refine Oc (ad (dd e28) ka rfl rfl) (Oc (ah aj rfl rfl rfl rfl (Nat.le_of_ble_eq_true rfl) rfl) ?_)
    refine ae.an ⟨[(4,_)],[(103,.box 25 (ar x_23))]⟩ rfl (ab.ret ?_)
    obtain rfl:=Option.some.inj h
    refine Fin.ag ⟨[(4,_)],[(103,_)]⟩ rfl (Fin.aq [.agg (ar x_23)] (.inl rfl) rfl (.cons (.agg aj rfl rfl rfl rfl) .nil) ⟨rfl,rfl⟩)
def k9 (F:Nat):Option br :=
 (gQ F 1).bind fun x_1=>some x_1
theorem nB {F:Nat} {r:br} (h:k9 F = some r):aA Tryz.prog (bd mx) 108 [] [] (Is [] (.b (.agg (ar r)))):=by
 unfold k9 at h
 refine aA.intro 2 Tryz.func108 Tryz.ntmps108 rfl (by simp) fun E=>?_
 show ab _ E ⟨2,[],[]⟩ _ ⟨[],[]⟩ _
 refine ab.seq (ab.aa ?_)
 refine Oc (aB (k:=101) bn rfl) (ae.an ⟨[(0,Pt 101 0)],[(101,.box 25 cU)]⟩ rfl (ab.seq (ab.aa ?_)))
 obtain ⟨x_1,e1,h⟩:=aD h
 refine Oc (ad (gp e1) kX rfl rfl) (Oc (ah aj rfl rfl rfl rfl (Nat.le_of_ble_eq_true rfl) rfl) ?_)
 refine ae.an ⟨[(0,_)],[(101,.box 25 (ar x_1))]⟩ rfl (ab.ret ?_)
 obtain rfl:=Option.some.inj h
 refine Fin.ag ⟨[(0,_)],[(101,_)]⟩ rfl (Fin.aq [.agg (ar x_1)] (.inl rfl) rfl (.cons (.agg aj rfl rfl rfl rfl) .nil) ⟨rfl,rfl⟩)
def dX (F:Nat) (x0:bz):Option Bool :=
 (cj F x0.N).bind fun x_1=>(bE (!(!x_1)) (cj F x0.D)).bind fun x_2=>if ((!x_1) || (!x_2)) = true then (some false) else ((fO F x0.D).bind fun x_3=>(bE (decide (0 < x_3)) (mq F x0.N x0.D)).bind fun x_4=>(bE (decide (0 < x_3)) (k9 F)).bind fun x_5=>some ((decide (0 < x_3)) && (decide (x_4 = x_5))))
theorem dD {F:Nat} {x0:bz} {r:Bool} (h:dX F x0 = some r):aA Tryz.prog (bd mx) 58 [] [.agg (aE x0)] (Is [] (.b (.one (.bool r)))):=by
 unfold dX at h
 refine aA.intro 26 Tryz.func58 Tryz.ntmps58 rfl (by simp) fun E=>?_
 show ab _ E ⟨26,[],[]⟩ _ ⟨[(0,.b (.agg (aE x0)))],[]⟩ _
 refine ab.seq (ab.aa ?_)
 refine Oc (aL (k:=101) rfl rfl) (Oc oa ?_)
 refine ae.an ⟨[(1,Pt 101 0)],[(101,.box 27 (aE x0))]⟩ rfl (ab.seq (ab.seq (ab.aa ?_)))
 refine Oc (af bq rfl rfl) (Oc (lp aj) ?_)
 obtain ⟨x_1,e1,h⟩:=aD h
 refine Oc (ad (bO e1) fR rfl rfl) (Oc (aT rfl) (Oc om ?_))
 refine ae.ag ⟨[(1,_),(7,B (!x_1))],[(101,_)]⟩ rfl (cx (!(!x_1)) [] (fun g2=>trivial) (fun g2=>af aV rfl rfl) (cx (!(!x_1)) [8] (fun g3=>⟨g3,trivial⟩) (fun g3=>lp aj) ?_))
 obtain ⟨x_2,e5,h⟩:=aD h
 refine cx (!(!x_1)) [9] (fun g4=>⟨g4,trivial⟩) (fun g4=>ad (bO (gc e5 g4)) fR rfl rfl) (cx (!(!x_1)) [10] (fun g6=>⟨g6,trivial⟩) (fun g6=>aT rfl) (Oc (aQ (fun e=>by rw [e]; rfl) rfl rfl rfl rfl) (ae.an ⟨[(1,_),(12,B ((!x_1) || (!x_2)))],[(101,_)]⟩ rfl (ab.ite h rfl (fun _ h=>?_) (fun _ h=>?_)))))
 ·refine ab.seq (ab.aa ?_)
  refine Oc oa (ae.an ⟨[(2,B false)],[]⟩ rfl (ab.ret (Fin.aw ?_)))
  obtain rfl:=Option.some.inj h
  refine Fin.ag ⟨[(2,_)],[]⟩ rfl (Fin.aq [.one (.bool false)] (.inl rfl) rfl (.cons (.tmp rfl) .nil) ⟨rfl,rfl⟩)
 ·refine ab.skip (Fin.ag ⟨[(1,_)],[(101,_)]⟩ rfl (Fin.then (ab.seq (ab.aa ?_))))
  refine Oc (af aV rfl rfl) (Oc (lp aj) ?_)
  obtain ⟨x_3,e7,h⟩:=aD h
  refine Oc (ad (gk e7) nj rfl rfl) (Oc (fj rfl rfl) (Oc om ?_))
  refine ae.ag ⟨[(1,_),(17,B (decide (0 < x_3)))],[(101,_)]⟩ rfl (cG (decide (0 < x_3)) [] (fun g8=>trivial) (fun g8=>af bq rfl rfl) (cG (decide (0 < x_3)) [18] (fun g9=>⟨g9,trivial⟩) (fun g9=>lp aj) (cG (decide (0 < x_3)) [] (fun g10=>by exact trivial) (fun g10=>af aV rfl rfl) (cG (decide (0 < x_3)) [20] (fun g11=>by exact ⟨g11,trivial⟩) (fun g11=>lp aj) ?_))))
  obtain ⟨x_4,e13,h⟩:=aD h
  refine cG (decide (0 < x_3)) [19,21] (fun g12=>⟨g12,g12,trivial⟩) (fun g12=>ad (qE (gc e13 g12)) yv rfl rfl) (ae.ag ⟨[(17,_),(22,.dh (decide (0 < x_3)) (.agg (ar x_4)))],[]⟩ rfl ?_)
  obtain ⟨x_5,e15,h⟩:=aD h
  refine cG (decide (0 < x_3)) [] (fun g14=>trivial) (fun g14=>ad (nB (gc e15 g14)) ve rfl rfl) (cG (decide (0 < x_3)) [22,23] (fun g16=>⟨g16,g16,trivial⟩) (fun g16=>fp (vf x_4 x_5) rfl rfl) (Oc (aG (fun e=>e) rfl rfl rfl rfl) (Oc oa ?_)))
  refine ae.an ⟨[(2,B ((decide (0 < x_3)) && (decide (x_4 = x_5))))],[]⟩ rfl (ab.ret ?_)
  obtain rfl:=Option.some.inj h
  refine Fin.ag ⟨[(2,_)],[]⟩ rfl (Fin.aq [.one (.bool ((decide (0 < x_3)) && (decide (x_4 = x_5))))] (.inl rfl) rfl (.cons (.tmp rfl) .nil) ⟨rfl,rfl⟩)
def c8 (F:Nat) (n0:Int):Option Bool :=
 some ((decide ((-16) ≤ n0)) && (decide (n0 ≤ 16)))
theorem eO {F:Nat} {n0:Int} {r:Bool} (h:c8 F n0 = some r):aA Tryz.prog (bd mx) 84 [] [.one (.i n0)] (Is [] (.b (.one (.bool r)))):=by
 unfold c8 at h
 refine aA.intro 9 Tryz.func84 Tryz.ntmps84 rfl (by simp) fun E=>?_
 show ab _ E ⟨9,[],[]⟩ _ ⟨[(0,I n0)],[]⟩ _
 refine ab.seq (ab.aa ?_)
 refine Oc oa (ae.an ⟨[(0,I n0)],[]⟩ rfl (ab.seq (ab.aa ?_)))
 refine Oc om (Oc (gC rfl rfl) (Oc om ?_))
 refine cG (decide ((-16) ≤ n0)) [] (fun g1=>trivial) (fun g1=>om) (cG (decide ((-16) ≤ n0)) [6] (fun g2=>by exact ⟨g2,trivial⟩) (fun g2=>pZ rfl rfl) (Oc (aG (fun e=>e) rfl rfl rfl rfl) (Oc oa ?_)))
 refine ae.an ⟨[(2,B ((decide ((-16) ≤ n0)) && (decide (n0 ≤ 16))))],[]⟩ rfl (ab.ret ?_)
 obtain rfl:=Option.some.inj h
 refine Fin.ag ⟨[(2,_)],[]⟩ rfl (Fin.aq [.one (.bool ((decide ((-16) ≤ n0)) && (decide (n0 ≤ 16))))] (.inl rfl) rfl (.cons (.tmp rfl) .nil) ⟨rfl,rfl⟩)
def bH (F:Nat) (u0:aO):Option Bool :=
 (c8 F u0.M).bind fun x_1=>(bE x_1 (c8 F u0.Kg)).bind fun x_2=>(bE (x_1 && x_2) (c8 F u0.S)).bind fun x_3=>some ((x_1 && x_2) && x_3)
theorem cg {F:Nat} {u0:aO} {r:Bool} (h:bH F u0 = some r):aA Tryz.prog (bd mx) 33 [] [.agg (aP u0)] (Is [] (.b (.one (.bool r)))):=by
 unfold bH at h
 refine aA.intro 16 Tryz.func33 Tryz.ntmps33 rfl (by simp) fun E=>?_
 show ab _ E ⟨16,[],[]⟩ _ ⟨[(0,.b (.agg (aP u0)))],[]⟩ _
 refine ab.seq (ab.aa ?_)
 refine Oc (aL (k:=101) rfl rfl) (Oc oa ?_)
 refine ae.an ⟨[(1,Pt 101 0)],[(101,.box 29 (aP u0))]⟩ rfl (ab.seq (ab.aa ?_))
 refine Oc (af iz rfl rfl) (Oc (au bG rfl rfl rfl) ?_)
 obtain ⟨x_1,e1,h⟩:=aD h
 refine Oc (ad (eO e1) xU rfl rfl) (Oc om ?_)
 refine cG x_1 [] (fun g2=>trivial) (fun g2=>af iy rfl rfl) (ae.ag ⟨[(1,_),(6,B x_1),(7,.dh x_1 (.ptr 101 1))],[(101,_)]⟩ rfl (cG x_1 [7] (fun g3=>⟨g3,trivial⟩) (fun g3=>au bG rfl rfl rfl) ?_))
 obtain ⟨x_2,e5,h⟩:=aD h
 refine cG x_1 [8] (fun g4=>⟨g4,trivial⟩) (fun g4=>ad (eO (gc e5 g4)) xU rfl rfl) (Oc (aG (fun e=>e) rfl rfl rfl rfl) (Oc om ?_))
 refine cG (x_1 && x_2) [] (fun g6=>trivial) (fun g6=>af iw rfl rfl) (cG (x_1 && x_2) [12] (fun g7=>⟨g7,trivial⟩) (fun g7=>au bG rfl rfl rfl) (ae.ag ⟨[(11,B (x_1 && x_2)),(13,.dh (x_1 && x_2) (.one (.i u0.S)))],[]⟩ rfl ?_))
 obtain ⟨x_3,e9,h⟩:=aD h
 refine cG (x_1 && x_2) [13] (fun g8=>⟨g8,trivial⟩) (fun g8=>ad (eO (gc e9 g8)) xU rfl rfl) (Oc (aG (fun e=>e) rfl rfl rfl rfl) (Oc oa ?_))
 refine ae.an ⟨[(2,B ((x_1 && x_2) && x_3))],[]⟩ rfl (ab.ret ?_)
 obtain rfl:=Option.some.inj h
 refine Fin.ag ⟨[(2,_)],[]⟩ rfl (Fin.aq [.one (.bool ((x_1 && x_2) && x_3))] (.inl rfl) rfl (.cons (.tmp rfl) .nil) ⟨rfl,rfl⟩)
def bu (F:Nat) (a0:az):Option Bool :=
 (dX F a0.V).bind fun x_1=>(bE x_1 (bH F a0.U)).bind fun x_2=>some (x_1 && x_2)
theorem bM {F:Nat} {a0:az} {r:Bool} (h:bu F a0 = some r):aA Tryz.prog (bd mx) 15 [] [.agg (ao a0)] (Is [] (.b (.one (.bool r)))):=by
 unfold bu at h
 refine aA.intro 11 Tryz.func15 Tryz.ntmps15 rfl (by simp) fun E=>?_
 show ab _ E ⟨11,[],[]⟩ _ ⟨[(0,.b (.agg (ao a0)))],[]⟩ _
 refine ab.seq (ab.aa ?_)
 refine Oc (aL (k:=101) rfl rfl) (Oc oa ?_)
 refine ae.an ⟨[(1,Pt 101 0)],[(101,.box 31 (ao a0))]⟩ rfl (ab.seq (ab.aa ?_))
 refine Oc (af bU rfl rfl) (Oc (lp aC) ?_)
 obtain ⟨x_1,e1,h⟩:=aD h
 refine Oc (ad (dD e1) lF rfl rfl) (Oc om ?_)
 refine cG x_1 [] (fun g2=>trivial) (fun g2=>af cy rfl rfl) (ae.ag ⟨[(6,B x_1),(7,.dh x_1 (.ptr 101 36))],[(101,_)]⟩ rfl (cG x_1 [7] (fun g3=>⟨g3,trivial⟩) (fun g3=>lp aY) ?_))
 obtain ⟨x_2,e5,h⟩:=aD h
 refine cG x_1 [8] (fun g4=>⟨g4,trivial⟩) (fun g4=>ad (cg (gc e5 g4)) p6 rfl rfl) (Oc (aG (fun e=>e) rfl rfl rfl rfl) (Oc oa ?_))
 refine ae.an ⟨[(2,B (x_1 && x_2))],[]⟩ rfl (ab.ret ?_)
 obtain rfl:=Option.some.inj h
 refine Fin.ag ⟨[(2,_)],[]⟩ rfl (Fin.aq [.one (.bool (x_1 && x_2))] (.inl rfl) rfl (.cons (.tmp rfl) .nil) ⟨rfl,rfl⟩)
def dK (F:Nat) (a0:az) (b0:az):Option Int :=
 (bu F a0).bind fun x_1=>(bE (!(!x_1)) (bu F b0)).bind fun x_2=>if ((!x_1) || (!x_2)) = true then (some 1) else (if (decide (a0.U ≠ b0.U)) = true then (some 110) else (some 0))
theorem jU {F:Nat} {a0:az} {b0:az} {r:Int} (h:dK F a0 b0 = some r):aA Tryz.prog (bd mx) 91 [] [.agg (ao a0),.agg (ao b0)] (Is [] (.b (.one (.i r)))):=by
 unfold dK at h
 refine aA.intro 18 Tryz.func91 Tryz.ntmps91 rfl (by simp) fun E=>?_
 show ab _ E ⟨18,[],[]⟩ _ ⟨[(0,.b (.agg (ao a0))),(1,.b (.agg (ao b0)))],[]⟩ _
 refine ab.seq (ab.aa ?_)
 refine Oc (aL (k:=101) rfl rfl) (Oc (aL (k:=102) rfl rfl) (Oc oa ?_))
 refine ae.an ⟨[(2,Pt 101 0),(3,Pt 102 0)],[(101,.box 31 (ao a0)),(102,.box 31 (ao b0))]⟩ rfl (ab.seq (ab.seq (ab.aa ?_)))
 refine Oc (lp aJ) ?_
 obtain ⟨x_1,e1,h⟩:=aD h
 refine Oc (ad (bM e1) nK rfl rfl) (Oc (aT rfl) (Oc om ?_))
 refine cx (!(!x_1)) [] (fun g2=>trivial) (fun g2=>lp aJ) (ae.ag ⟨[(2,_),(3,_),(8,B (!x_1)),(9,.dh (!(!x_1)) (.agg (ao b0)))],[(101,_),(102,_)]⟩ rfl ?_)
 obtain ⟨x_2,e4,h⟩:=aD h
 refine cx (!(!x_1)) [9] (fun g3=>⟨g3,trivial⟩) (fun g3=>ad (bM (gc e4 g3)) nK rfl rfl) (cx (!(!x_1)) [10] (fun g5=>⟨g5,trivial⟩) (fun g5=>aT rfl) (Oc (aQ (fun e=>by rw [e]; rfl) rfl rfl rfl rfl) (ae.an ⟨[(2,_),(3,_),(12,B ((!x_1) || (!x_2)))],[(101,_),(102,_)]⟩ rfl (ab.ite h rfl (fun _ h=>?_) (fun _ h=>?_)))))
 ·refine ab.seq (ab.aa ?_)
  refine Oc oa (ae.an ⟨[(4,I 1)],[]⟩ rfl (ab.ret (Fin.aw ?_)))
  obtain rfl:=Option.some.inj h
  refine Fin.ag ⟨[(4,_)],[]⟩ rfl (Fin.aq [.one (.i 1)] (.inl rfl) rfl (.cons (.tmp rfl) .nil) ⟨rfl,rfl⟩)
 ·refine ab.skip (Fin.ag ⟨[(2,_),(3,_)],[(101,_),(102,_)]⟩ rfl (Fin.then (ab.seq (ab.seq (ab.aa ?_)))))
  refine Oc (af cy rfl rfl) (Oc (lp aY) (Oc (af cy rfl rfl) (Oc (lp aY) (Oc (dG (oM a0.U b0.U) rfl rfl gR) ?_))))
  refine ae.an ⟨[(17,B (decide (a0.U ≠ b0.U)))],[]⟩ rfl (ab.ite h rfl (fun _ h=>?_) (fun _ h=>?_))
  ·refine ab.seq (ab.aa ?_)
   refine Oc oa (ae.an ⟨[(4,I 110)],[]⟩ rfl (ab.ret (Fin.aw ?_)))
   obtain rfl:=Option.some.inj h
   refine Fin.ag ⟨[(4,_)],[]⟩ rfl (Fin.aq [.one (.i 110)] (.inl rfl) rfl (.cons (.tmp rfl) .nil) ⟨rfl,rfl⟩)
  ·refine ab.skip (Fin.ag ⟨[],[]⟩ rfl (Fin.then (ab.seq (ab.aa ?_))))
   refine Oc oa (ae.an ⟨[(4,I 0)],[]⟩ rfl (ab.ret ?_))
   obtain rfl:=Option.some.inj h
   refine Fin.ag ⟨[(4,_)],[]⟩ rfl (Fin.aq [.one (.i 0)] (.inl rfl) rfl (.cons (.tmp rfl) .nil) ⟨rfl,rfl⟩)
def kg (F:Nat):Option bz :=
 (gE F).bind fun x_1=>(k9 F).bind fun x_2=>some (⟨x_1,x_2⟩:bz)
theorem lh {F:Nat} {r:bz} (h:kg F = some r):aA Tryz.prog (bd mx) 114 [] [] (Is [] (.b (.agg (aE r)))):=by
 unfold kg at h
 refine aA.intro 4 Tryz.func114 Tryz.ntmps114 rfl (by simp) fun E=>?_
 show ab _ E ⟨4,[],[]⟩ _ ⟨[],[]⟩ _
 refine ab.seq (ab.aa ?_)
 refine Oc (aB (k:=101) bQ rfl) (ae.an ⟨[(0,Pt 101 0)],[(101,.box 27 dM)]⟩ rfl (ab.seq (ab.aa ?_)))
 obtain ⟨x_1,e1,h⟩:=aD h
 refine Oc (ad (fM e1) kW rfl rfl) ?_
 obtain ⟨x_2,e2,h⟩:=aD h
 refine Oc (ad (nB e2) ve rfl rfl) (Oc (aS dW rfl rfl) (Oc (ah aC rfl rfl rfl rfl (Nat.le_of_ble_eq_true rfl) rfl) ?_))
 refine ae.an ⟨[(0,_)],[(101,.box 27 (ar x_1 ++ (ar x_2)))]⟩ rfl (ab.ret ?_)
 obtain rfl:=Option.some.inj h
 refine Fin.ag ⟨[(0,_)],[(101,_)]⟩ rfl (Fin.aq [.agg (ar x_1 ++ (ar x_2))] (.inl rfl) rfl (.cons (.agg aC rfl rfl rfl rfl) .nil) ⟨rfl,rfl⟩)
def kJ (F:Nat) (n0:Int) (m0:Int):Option Int :=
 (lq .i64 n0 m0).bind fun x_1=>Option.bind ((vm n0 m0).bind fun x_3=>bN ((decide (x_3 ≠ 0)) && ((decide (n0 < 0)) != (decide (m0 < 0)))) fun x_4=>if x_4 = true then (some (IntKind.i64.wrap (x_1 - 1))) else (some x_1)) (fun q_2=>some q_2)
theorem rR {F:Nat} {n0:Int} {m0:Int} {r:Int} (h:kJ F n0 m0 = some r):aA Tryz.prog (bd mx) 153 [] [.one (.i n0),.one (.i m0)] (Is [] (.b (.one (.i r)))):=by
 unfold kJ at h
 refine aA.intro 23 Tryz.func153 Tryz.ntmps153 rfl (by simp) fun E=>?_
 show ab _ E ⟨23,[],[]⟩ _ ⟨[(0,I n0),(1,I m0)],[]⟩ _
 refine ab.seq (ab.aa ?_)
 refine Oc oa (ae.an ⟨[(0,I n0),(1,I m0)],[]⟩ rfl (ab.seq (ab.aa ?_)))
 refine Oc om (Oc om ?_)
 obtain ⟨x_1,e1,h⟩:=aD h
 refine Oc (fc e1 rfl rfl) (Oc oa ?_)
 refine ae.an ⟨[(0,_),(1,_),(5,I x_1)],[]⟩ rfl ?_
 obtain ⟨v2,h3,h⟩:=aD h
 refine ab.cB (v:=v2) (fun (q_2:Int)=>⟨[(5,I q_2)],[]⟩) (fun z=>z) ?_ ?_
 ·refine ab.seq (ab.aa ?_)
  refine Oc om (Oc om ?_)
  obtain ⟨x_3,e4,h3⟩:=aD h3
  refine Oc (q8 e4 rfl rfl) (Oc (di rfl rfl) (Oc om ?_))
  refine cG (decide (x_3 ≠ 0)) [] (fun g5=>trivial) (fun g5=>om) (cG (decide (x_3 ≠ 0)) [14] (fun g6=>by exact ⟨g6,trivial⟩) (fun g6=>bP rfl rfl) (ae.ag ⟨[(1,_),(5,_),(13,B (decide (x_3 ≠ 0))),(15,.dh (decide (x_3 ≠ 0)) (.one (.bool (decide (n0 < 0)))))],[]⟩ rfl (cG (decide (x_3 ≠ 0)) [] (fun g7=>by exact trivial) (fun g7=>om) (cG (decide (x_3 ≠ 0)) [16] (fun g8=>by exact ⟨g8,trivial⟩) (fun g8=>bP rfl rfl) (cG (decide (x_3 ≠ 0)) [15,17] (fun g9=>by exact ⟨g9,g9,trivial⟩) (fun g9=>eT sC rfl rfl) ?_)))))
  refine ae.mX h3 rfl (aG (fun e=>e) rfl rfl rfl rfl) (fun x_4 h3=>?_)
  refine ae.an ⟨[(5,_),(19,B x_4)],[]⟩ rfl (ab.ite h3 rfl (fun _ h3=>?_) (fun _ h3=>?_))
  ·refine ab.aa (Oc om (Oc (b7 rfl rfl) (Oc oa ?_)))
   refine ae.nil ?_
   exact Fin.join [5] [] (IntKind.i64.wrap (x_1 - 1)) (Option.some.inj h3) rfl
  ·refine ab.skip ?_
   exact Fin.join [5] [] x_1 (Option.some.inj h3) rfl
 ·rintro q_2 hv
  subst v2
  refine ab.seq (ab.aa ?_)
  refine Oc om (Oc oa ?_)
  refine ae.an ⟨[(4,I q_2)],[]⟩ rfl (ab.ret ?_)
  obtain rfl:=Option.some.inj h
  refine Fin.ag ⟨[(4,_)],[]⟩ rfl (Fin.aq [.one (.i q_2)] (.inl rfl) rfl (.cons (.tmp rfl) .nil) ⟨rfl,rfl⟩)
def iJ (F:Nat) (a0:br) (b0:br):Option br :=
 Option.bind (eF F a0) (b9 fun x_1 x_2=>Option.bind (eF F b0) (b9 fun x_3 x_4=>if ((x_2 && x_4) && (decide (x_3 ≠ 0))) = true then ((kJ F x_1 x_3).bind fun x_5=>(gQ F x_5).bind fun x_6=>some x_6) else ((cj F a0).bind fun x_7=>(bE (!(!x_7)) (cj F b0)).bind fun x_8=>(bE (!((!x_7) || (!x_8))) (bJ F b0)).bind fun x_9=>if (((!x_7) || (!x_8)) || (decide ((x_9.length:Int) = 0))) = true then ((gE F).bind fun x_10=>some x_10) else ((bJ F a0).bind fun x_11=>(bJ F b0).bind fun x_12=>Option.bind (iO F x_11 x_12) (b9 fun x_13 x_14=>Option.bind (if ((a0.Neg != b0.Neg) && (decide (0 < (x_14.length:Int)))) = true then ((kE F x_13 [1]).bind fun x_16=>some x_16) else (some x_13)) (fun q_15=>(c5 F (a0.Neg != b0.Neg) q_15).bind fun x_17=>some x_17))))))
theorem jS {F:Nat} {a0:br} {b0:br} {r:br} (h:iJ F a0 b0 = some r):aA Tryz.prog (bd mx) 101 [] [.agg (ar a0),.agg (ar b0)] (Is [] (.b (.agg (ar r)))):=by
 unfold iJ at h
 refine aA.intro 76 Tryz.func101 Tryz.ntmps101 rfl (by simp) fun E=>?_
 show ab _ E ⟨76,[],[]⟩ _ ⟨[(0,.b (.agg (ar a0))),(1,.b (.agg (ar b0)))],[]⟩ _
 refine ab.seq (ab.aa ?_)
 refine Oc (aL (k:=101) rfl rfl) (Oc (aL (k:=102) rfl rfl) (Oc (aB (k:=103) bn rfl) ?_))
 refine ae.an ⟨[(2,Pt 101 0),(3,Pt 102 0),(4,Pt 103 0)],[(101,.box 25 (ar a0)),(102,.box 25 (ar b0)),(103,.box 25 cU)]⟩ rfl (ab.seq (ab.aa ?_))
 refine Oc (lp aj) ?_
 obtain ⟨⟨x_1,x_2⟩,e1,h⟩:=aD h
 refine Oc (ad (eN e1) kV rfl rfl) (Oc om (Oc (ay rfl rfl) (Oc (ay rfl rfl) (Oc oa (Oc oa ?_)))))
 refine ae.an ⟨[(2,_),(3,_),(4,_),(5,I x_1),(6,B x_2)],[(101,_),(102,_),(103,_)]⟩ rfl (ab.seq (ab.aa ?_))
 refine Oc (lp aj) ?_
 obtain ⟨⟨x_3,x_4⟩,e2,h⟩:=aD h
 refine Oc (ad (eN e2) kV rfl rfl) (Oc om (Oc (ay rfl rfl) (Oc (ay rfl rfl) (Oc oa (Oc oa ?_)))))
 refine ae.an ⟨[(2,_),(3,_),(4,_),(5,_),(6,_),(7,I x_3),(8,B x_4)],[(101,_),(102,_),(103,_)]⟩ rfl (ab.seq (ab.seq (ab.aa ?_)))
 refine Oc om (Oc om ?_)
 refine cG x_2 [] (fun g3=>trivial) (fun g3=>om) (Oc (aG (fun e=>e) rfl rfl rfl rfl) (Oc om ?_))
 refine cG (x_2 && x_4) [] (fun g4=>trivial) (fun g4=>om) (cG (x_2 && x_4) [26] (fun g5=>by exact ⟨g5,trivial⟩) (fun g5=>di rfl rfl) (Oc (aG (fun e=>e) rfl rfl rfl rfl) (ae.an ⟨[(2,_),(3,_),(4,_),(5,_),(7,_),(28,B ((x_2 && x_4) && (decide (x_3 ≠ 0))))],[(101,_),(102,_),(103,_)]⟩ rfl (ab.ite h rfl (fun _ h=>?_) (fun _ h=>?_)))))
 ·refine ab.seq (ab.aa ?_)
  refine Oc om (Oc om ?_)
  obtain ⟨x_5,e6,h⟩:=aD h
  refine Oc (ad (rR e6) B6 rfl rfl) ?_
  obtain ⟨x_6,e7,h⟩:=aD h
  refine Oc (ad (gp e7) kX rfl rfl) (Oc (ah aj rfl rfl rfl rfl (Nat.le_of_ble_eq_true rfl) rfl) ?_)
  refine ae.an ⟨[(4,_)],[(103,.box 25 (ar x_6))]⟩ rfl (ab.ret (Fin.aw ?_))
  obtain rfl:=Option.some.inj h
  refine Fin.ag ⟨[(4,_)],[(103,_)]⟩ rfl (Fin.aq [.agg (ar x_6)] (.inl rfl) rfl (.cons (.agg aj rfl rfl rfl rfl) .nil) ⟨rfl,rfl⟩)
 ·refine ab.skip (Fin.ag ⟨[(2,_),(3,_),(4,_)],[(101,_),(102,_),(103,_)]⟩ rfl (Fin.then (ab.seq (ab.seq (ab.aa ?_)))))
  refine Oc (lp aj) ?_
  obtain ⟨x_7,e8,h⟩:=aD h
  refine Oc (ad (bO e8) fR rfl rfl) (Oc (aT rfl) (Oc om ?_))
  refine cx (!(!x_7)) [] (fun g9=>trivial) (fun g9=>lp aj) (ae.ag ⟨[(2,_),(3,_),(4,_),(36,B (!x_7)),(37,.dh (!(!x_7)) (.agg (ar b0)))],[(101,_),(102,_),(103,_)]⟩ rfl ?_)
  obtain ⟨x_8,e11,h⟩:=aD h
  refine cx (!(!x_7)) [37] (fun g10=>⟨g10,trivial⟩) (fun g10=>ad (bO (gc e11 g10)) fR rfl rfl) (cx (!(!x_7)) [38] (fun g12=>⟨g12,trivial⟩) (fun g12=>aT rfl) (Oc (aQ (fun e=>by rw [e]; rfl) rfl rfl rfl rfl) (Oc om ?_)))
  refine cx (!((!x_7) || (!x_8))) [] (fun g13=>trivial) (fun g13=>lp aj) ?_
  obtain ⟨x_9,e15,h⟩:=aD h
  refine cx (!((!x_7) || (!x_8))) [42] (fun g14=>⟨g14,trivial⟩) (fun g14=>ad (bC (gc e15 g14)) gl rfl rfl) (ae.ag ⟨[(2,_),(3,_),(4,_),(41,B ((!x_7) || (!x_8))),(43,.dh (!((!x_7) || (!x_8))) (.one (.sl 1 (x_9.map eI))))],[(101,_),(102,_),(103,_)]⟩ rfl (cx (!((!x_7) || (!x_8))) [43] (fun g16=>⟨g16,trivial⟩) (fun g16=>bV gw rfl (List.length_map _)) (cx (!((!x_7) || (!x_8))) [44] (fun g17=>⟨g17,trivial⟩) (fun g17=>cR rfl rfl) (Oc (aQ (fun e=>by rw [e]; rfl) rfl rfl rfl rfl) (ae.an ⟨[(2,_),(3,_),(4,_),(46,B (((!x_7) || (!x_8)) || (decide ((x_9.length:Int) = 0))))],[(101,_),(102,_),(103,_)]⟩ rfl ?_)))))
  refine ab.ite h rfl (fun _ h=>?_) (fun _ h=>?_)
  ·refine ab.seq (ab.aa ?_)
   obtain ⟨x_10,e18,h⟩:=aD h
   refine Oc (ad (fM e18) kW rfl rfl) (Oc (ah aj rfl rfl rfl rfl (Nat.le_of_ble_eq_true rfl) rfl) ?_)
   refine ae.an ⟨[(4,_)],[(103,.box 25 (ar x_10))]⟩ rfl (ab.ret (Fin.aw ?_))
   obtain rfl:=Option.some.inj h
   refine Fin.ag ⟨[(4,_)],[(103,_)]⟩ rfl (Fin.aq [.agg (ar x_10)] (.inl rfl) rfl (.cons (.agg aj rfl rfl rfl rfl) .nil) ⟨rfl,rfl⟩)
  ·refine ab.skip (Fin.ag ⟨[(2,_),(3,_),(4,_)],[(101,_),(102,_),(103,_)]⟩ rfl (Fin.then (ab.seq ?_)))
   refine ab.ag ⟨[(2,_),(3,_),(4,_)],[(101,_),(102,_),(103,_)]⟩ rfl ?_
   obtain ⟨x_11,e19,h⟩:=aD h
   obtain ⟨x_12,e20,h⟩:=aD h
   obtain ⟨⟨x_13,x_14⟩,e21,h⟩:=aD h
   refine ab.bm mixed 10 [.b (.agg (ar a0)),.b (.one (.sl 1 (x_11.map eI))),.b (.agg (ar b0)),.b (.one (.sl 1 (x_12.map eI))),.eY [.one (.sl 1 (x_13.map eI)),.one (.sl 1 (x_14.map eI))],.eY [.one (.sl 1 (x_13.map eI)),.one (.sl 1 (x_14.map eI))],.b (.one (.sl 1 (x_13.map eI))),.b (.one (.sl 1 (x_14.map eI))),.b (.one (.sl 1 (x_13.map eI))),.b (.one (.sl 1 (x_14.map eI)))] [2,3,4,9,10] [101,102,103] (s':=⟨[(2,_),(3,_),(4,_),(9,.b (.one (.sl 1 (x_13.map eI)))),(10,.b (.one (.sl 1 (x_14.map eI))))],[(101,_),(102,_),(103,_)]⟩) rfl ⟨fun _=>.p (lp aj),fun _=>.p (ad (bC e19) gl rfl rfl),fun _=>.p (lp aj),fun _=>.p (ad (bC e20) gl rfl rfl),fun _=>.p (ad (mJ e21) yp rfl rfl),fun _=>.p om,fun _=>.p (ay rfl rfl),fun _=>.p (ay rfl rfl),fun _=>.p oa,fun _=>.p oa,trivial⟩ rfl rfl ?_
   obtain ⟨v22,h23,h⟩:=aD h
   refine ab.cB (v:=v22) (fun (q_15:List Int)=>⟨[(2,Pt 101 0),(3,Pt 102 0),(4,Pt 103 0),(9,.b (.one (.sl 1 (q_15.map eI))))],[(101,.box 25 (ar a0)),(102,.box 25 (ar b0)),(103,.box 25 cU)]⟩) (fun z=>z) ?_ ?_
   ·refine ab.seq (ab.aa ?_)
    refine Oc (af bj rfl rfl) (Oc (au bS rfl rfl rfl) (Oc (af bj rfl rfl) (Oc (au bS rfl rfl rfl) (Oc (eT sC rfl rfl) (Oc om ?_)))))
    refine cG (a0.Neg != b0.Neg) [] (fun g24=>trivial) (fun g24=>om) (ae.ag ⟨[(2,_),(3,_),(4,_),(9,_),(61,B (a0.Neg != b0.Neg)),(62,.dh (a0.Neg != b0.Neg) (.one (.sl 1 (x_14.map eI))))],[(101,_),(102,_),(103,_)]⟩ rfl (cG (a0.Neg != b0.Neg) [62] (fun g25=>by exact ⟨g25,trivial⟩) (fun g25=>bV gw rfl (List.length_map _)) (cG (a0.Neg != b0.Neg) [63] (fun g26=>by exact ⟨g26,trivial⟩) (fun g26=>fj rfl rfl) (Oc (aG (fun e=>e) rfl rfl rfl rfl) (ae.an ⟨[(2,_),(3,_),(4,_),(9,_),(65,B ((a0.Neg != b0.Neg) && (decide (0 < (x_14.length:Int)))))],[(101,_),(102,_),(103,_)]⟩ rfl ?_)))))
    refine ab.ite h23 rfl (fun _ h23=>?_) (fun _ h23=>?_)
    ·refine ab.aa (Oc om (Oc (bc (k:=104) (es:=[1].map eI) cX rfl rfl (cE fun _=>rfl) rfl (by decide) (by decide) rfl) ?_))
     refine ae.dQ 104 rfl ?_
     obtain ⟨x_16,e27,h23⟩:=aD h23
     refine Oc (ad (po e27) yn rfl rfl) (Oc oa ?_)
     refine ae.nil ?_
     exact Fin.join [2,3,4,9] [101,102,103] x_16 (Option.some.inj h23) rfl
    ·refine ab.skip ?_
     exact Fin.join [2,3,4,9] [101,102,103] x_13 (Option.some.inj h23) rfl
   ·rintro q_15 hv
    subst v22
    refine ab.seq (ab.aa ?_)
    refine Oc (af bj rfl rfl) (Oc (au bS rfl rfl rfl) (Oc (af bj rfl rfl) (Oc (au bS rfl rfl rfl) (Oc (eT sC rfl rfl) (Oc om ?_)))))
    obtain ⟨x_17,e28,h⟩:=aD h
    refine Oc (ad (dd e28) ka rfl rfl) (Oc (ah aj rfl rfl rfl rfl (Nat.le_of_ble_eq_true rfl) rfl) ?_)
    refine ae.an ⟨[(4,_)],[(103,.box 25 (ar x_17))]⟩ rfl (ab.ret ?_)
    obtain rfl:=Option.some.inj h
    refine Fin.ag ⟨[(4,_)],[(103,_)]⟩ rfl (Fin.aq [.agg (ar x_17)] (.inl rfl) rfl (.cons (.agg aj rfl rfl rfl rfl) .nil) ⟨rfl,rfl⟩)
def ob (F:Nat) (n0:Int):Option Bool :=
 some ((decide (n0 < 2147483648)) && (decide ((-2147483648) < n0)))
theorem tm {F:Nat} {n0:Int} {r:Bool} (h:ob F n0 = some r):aA Tryz.prog (bd mx) 184 [] [.one (.i n0)] (Is [] (.b (.one (.bool r)))):=by
 unfold ob at h
 refine aA.intro 9 Tryz.func184 Tryz.ntmps184 rfl (by simp) fun E=>?_
 show ab _ E ⟨9,[],[]⟩ _ ⟨[(0,I n0)],[]⟩ _
 refine ab.seq (ab.aa ?_)
 refine Oc oa (ae.an ⟨[(0,I n0)],[]⟩ rfl (ab.seq (ab.aa ?_)))
 refine Oc om (Oc (bP rfl rfl) (Oc om ?_))
 refine cG (decide (n0 < 2147483648)) [] (fun g1=>trivial) (fun g1=>om) (cG (decide (n0 < 2147483648)) [6] (fun g2=>by exact ⟨g2,trivial⟩) (fun g2=>fj rfl rfl) (Oc (aG (fun e=>e) rfl rfl rfl rfl) (Oc oa ?_)))
 refine ae.an ⟨[(2,B ((decide (n0 < 2147483648)) && (decide ((-2147483648) < n0))))],[]⟩ rfl (ab.ret ?_)
 obtain rfl:=Option.some.inj h
 refine Fin.ag ⟨[(2,_)],[]⟩ rfl (Fin.aq [.one (.bool ((decide (n0 < 2147483648)) && (decide ((-2147483648) < n0))))] (.inl rfl) rfl (.cons (.tmp rfl) .nil) ⟨rfl,rfl⟩)
def jm (F:Nat) (a0:br) (b0:br):Option br :=
 Option.bind (eF F a0) (b9 fun x_1 x_2=>Option.bind (eF F b0) (b9 fun x_3 x_4=>(bE (x_2 && x_4) (ob F x_1)).bind fun x_5=>(bE ((x_2 && x_4) && x_5) (ob F x_3)).bind fun x_6=>if (((x_2 && x_4) && x_5) && x_6) = true then ((gQ F (IntKind.i64.wrap (x_1 * x_3))).bind fun x_7=>some x_7) else ((cj F a0).bind fun x_8=>(bE (!(!x_8)) (cj F b0)).bind fun x_9=>if ((!x_8) || (!x_9)) = true then ((gE F).bind fun x_10=>some x_10) else ((bJ F a0).bind fun x_11=>(bJ F b0).bind fun x_12=>(kI F x_11 x_12).bind fun x_13=>(c5 F (a0.Neg != b0.Neg) x_13).bind fun x_14=>some x_14))))
theorem li {F:Nat} {a0:br} {b0:br} {r:br} (h:jm F a0 b0 = some r):aA Tryz.prog (bd mx) 148 [] [.agg (ar a0),.agg (ar b0)] (Is [] (.b (.agg (ar r)))):=by
 unfold jm at h
 refine aA.intro 55 Tryz.func148 Tryz.ntmps148 rfl (by simp) fun E=>?_
 show ab _ E ⟨55,[],[]⟩ _ ⟨[(0,.b (.agg (ar a0))),(1,.b (.agg (ar b0)))],[]⟩ _
 refine ab.seq (ab.aa ?_)
 refine Oc (aL (k:=101) rfl rfl) (Oc (aL (k:=102) rfl rfl) (Oc (aB (k:=103) bn rfl) ?_))
 refine ae.an ⟨[(2,Pt 101 0),(3,Pt 102 0),(4,Pt 103 0)],[(101,.box 25 (ar a0)),(102,.box 25 (ar b0)),(103,.box 25 cU)]⟩ rfl (ab.seq (ab.aa ?_))
 refine Oc (lp aj) ?_
 obtain ⟨⟨x_1,x_2⟩,e1,h⟩:=aD h
 refine Oc (ad (eN e1) kV rfl rfl) (Oc om (Oc (ay rfl rfl) (Oc (ay rfl rfl) (Oc oa (Oc oa ?_)))))
 refine ae.an ⟨[(2,_),(3,_),(4,_),(5,I x_1),(6,B x_2)],[(101,_),(102,_),(103,_)]⟩ rfl (ab.seq (ab.aa ?_))
 refine Oc (lp aj) ?_
 obtain ⟨⟨x_3,x_4⟩,e2,h⟩:=aD h
 refine Oc (ad (eN e2) kV rfl rfl) (Oc om (Oc (ay rfl rfl) (Oc (ay rfl rfl) (Oc oa (Oc oa ?_)))))
 refine ae.an ⟨[(2,_),(3,_),(4,_),(5,_),(6,_),(7,I x_3),(8,B x_4)],[(101,_),(102,_),(103,_)]⟩ rfl (ab.seq (ab.seq (ab.aa ?_)))
 refine Oc om (Oc om ?_)
 refine cG x_2 [] (fun g3=>trivial) (fun g3=>om) (Oc (aG (fun e=>e) rfl rfl rfl rfl) (Oc om ?_))
 refine cG (x_2 && x_4) [] (fun g4=>trivial) (fun g4=>om) (ae.ag ⟨[(2,_),(3,_),(4,_),(5,_),(7,_),(23,B (x_2 && x_4)),(24,.dh (x_2 && x_4) (.one (.i x_1)))],[(101,_),(102,_),(103,_)]⟩ rfl ?_)
 obtain ⟨x_5,e6,h⟩:=aD h
 refine cG (x_2 && x_4) [24] (fun g5=>⟨g5,trivial⟩) (fun g5=>ad (tm (gc e6 g5)) B0 rfl rfl) (Oc (aG (fun e=>e) rfl rfl rfl rfl) (Oc om ?_))
 refine cG ((x_2 && x_4) && x_5) [] (fun g7=>trivial) (fun g7=>om) ?_
 obtain ⟨x_6,e9,h⟩:=aD h
 refine cG ((x_2 && x_4) && x_5) [28] (fun g8=>⟨g8,trivial⟩) (fun g8=>ad (tm (gc e9 g8)) B0 rfl rfl) (Oc (aG (fun e=>e) rfl rfl rfl rfl) (ae.an ⟨[(2,_),(3,_),(4,_),(5,_),(7,_),(30,B (((x_2 && x_4) && x_5) && x_6))],[(101,_),(102,_),(103,_)]⟩ rfl (ab.ite h rfl (fun _ h=>?_) (fun _ h=>?_))))
 ·refine ab.seq (ab.aa ?_)
  refine Oc om (Oc om (Oc (eP rfl rfl) ?_))
  obtain ⟨x_7,e10,h⟩:=aD h
  refine Oc (ad (gp e10) kX rfl rfl) (Oc (ah aj rfl rfl rfl rfl (Nat.le_of_ble_eq_true rfl) rfl) ?_)
  refine ae.an ⟨[(4,_)],[(103,.box 25 (ar x_7))]⟩ rfl (ab.ret (Fin.aw ?_))
  obtain rfl:=Option.some.inj h
  refine Fin.ag ⟨[(4,_)],[(103,_)]⟩ rfl (Fin.aq [.agg (ar x_7)] (.inl rfl) rfl (.cons (.agg aj rfl rfl rfl rfl) .nil) ⟨rfl,rfl⟩)
 ·refine ab.skip (Fin.ag ⟨[(2,_),(3,_),(4,_)],[(101,_),(102,_),(103,_)]⟩ rfl (Fin.then (ab.seq (ab.seq (ab.aa ?_)))))
  refine Oc (lp aj) ?_
  obtain ⟨x_8,e11,h⟩:=aD h
  refine Oc (ad (bO e11) fR rfl rfl) (Oc (aT rfl) (Oc om ?_))
  refine cx (!(!x_8)) [] (fun g12=>trivial) (fun g12=>lp aj) (ae.ag ⟨[(2,_),(3,_),(4,_),(38,B (!x_8)),(39,.dh (!(!x_8)) (.agg (ar b0)))],[(101,_),(102,_),(103,_)]⟩ rfl ?_)
  obtain ⟨x_9,e14,h⟩:=aD h
  refine cx (!(!x_8)) [39] (fun g13=>⟨g13,trivial⟩) (fun g13=>ad (bO (gc e14 g13)) fR rfl rfl) (cx (!(!x_8)) [40] (fun g15=>⟨g15,trivial⟩) (fun g15=>aT rfl) (Oc (aQ (fun e=>by rw [e]; rfl) rfl rfl rfl rfl) (ae.an ⟨[(2,_),(3,_),(4,_),(42,B ((!x_8) || (!x_9)))],[(101,_),(102,_),(103,_)]⟩ rfl (ab.ite h rfl (fun _ h=>?_) (fun _ h=>?_)))))
  ·refine ab.seq (ab.aa ?_)
   obtain ⟨x_10,e16,h⟩:=aD h
   refine Oc (ad (fM e16) kW rfl rfl) (Oc (ah aj rfl rfl rfl rfl (Nat.le_of_ble_eq_true rfl) rfl) ?_)
   refine ae.an ⟨[(4,_)],[(103,.box 25 (ar x_10))]⟩ rfl (ab.ret (Fin.aw ?_))
   obtain rfl:=Option.some.inj h
   refine Fin.ag ⟨[(4,_)],[(103,_)]⟩ rfl (Fin.aq [.agg (ar x_10)] (.inl rfl) rfl (.cons (.agg aj rfl rfl rfl rfl) .nil) ⟨rfl,rfl⟩)
  ·refine ab.skip (Fin.ag ⟨[(2,_),(3,_),(4,_)],[(101,_),(102,_),(103,_)]⟩ rfl (Fin.then (ab.seq ?_)))
   refine ab.ag ⟨[(2,_),(3,_),(4,_)],[(101,_),(102,_),(103,_)]⟩ rfl ?_
   obtain ⟨x_11,e17,h⟩:=aD h
   obtain ⟨x_12,e18,h⟩:=aD h
   obtain ⟨x_13,e19,h⟩:=aD h
   obtain ⟨x_14,e20,h⟩:=aD h
   refine ab.bm mixed 11 [Pt 101 1,B a0.Neg,Pt 102 1,B b0.Neg,B (a0.Neg != b0.Neg),.b (.agg (ar a0)),.b (.one (.sl 1 (x_11.map eI))),.b (.agg (ar b0)),.b (.one (.sl 1 (x_12.map eI))),.b (.one (.sl 1 (x_13.map eI))),.b (.agg (ar x_14))] [4] [103] (s':=⟨[(4,_)],[(103,.box 25 (ar x_14))]⟩) rfl ⟨fun _=>.p (af bj rfl rfl),fun _=>.p (au bS rfl rfl rfl),fun _=>.p (af bj rfl rfl),fun _=>.p (au bS rfl rfl rfl),fun _=>.p (eT sC rfl rfl),fun _=>.p (lp aj),fun _=>.p (ad (bC e17) gl rfl rfl),fun _=>.p (lp aj),fun _=>.p (ad (bC e18) gl rfl rfl),fun _=>.p (ad (rQ e19) BZ rfl rfl),fun _=>.p (ad (dd e20) ka rfl rfl),trivial⟩ ⟨_,by exact .p (ah aj rfl rfl rfl rfl (Nat.le_of_ble_eq_true rfl) rfl),rfl⟩ rfl (ab.ret ?_)
   obtain rfl:=Option.some.inj h
   refine Fin.ag ⟨[(4,_)],[(103,_)]⟩ rfl (Fin.aq [.agg (ar x_14)] (.inl rfl) rfl (.cons (.agg aj rfl rfl rfl rfl) .nil) ⟨rfl,rfl⟩)
def qm (F:Nat) (a0:br) (b0:br):Option br :=
 Option.bind (eF F a0) (b9 fun x_1 x_2=>Option.bind (eF F b0) (b9 fun x_3 x_4=>if (x_2 && x_4) = true then ((gQ F (IntKind.i64.wrap (x_1 + x_3))).bind fun x_5=>some x_5) else ((cj F a0).bind fun x_6=>(bE (!(!x_6)) (cj F b0)).bind fun x_7=>if ((!x_6) || (!x_7)) = true then ((gE F).bind fun x_8=>some x_8) else ((bJ F a0).bind fun x_9=>(bJ F b0).bind fun x_10=>if (a0.Neg == b0.Neg) = true then ((kE F x_9 x_10).bind fun x_11=>(c5 F a0.Neg x_11).bind fun x_12=>some x_12) else ((jN F x_9 x_10).bind fun x_13=>if x_13 = true then ((gU F x_10 x_9).bind fun x_14=>(c5 F b0.Neg x_14).bind fun x_15=>some x_15) else ((gU F x_9 x_10).bind fun x_16=>(c5 F a0.Neg x_16).bind fun x_17=>some x_17))))))
theorem zM {F:Nat} {a0:br} {b0:br} {r:br} (h:qm F a0 b0 = some r):aA Tryz.prog (bd mx) 147 [] [.agg (ar a0),.agg (ar b0)] (Is [] (.b (.agg (ar r)))):=by
 unfold qm at h
 refine aA.intro 70 Tryz.func147 Tryz.ntmps147 rfl (by simp) fun E=>?_
 show ab _ E ⟨70,[],[]⟩ _ ⟨[(0,.b (.agg (ar a0))),(1,.b (.agg (ar b0)))],[]⟩ _
 refine ab.seq (ab.aa ?_)
 refine Oc (aL (k:=101) rfl rfl) (Oc (aL (k:=102) rfl rfl) (Oc (aB (k:=103) bn rfl) ?_))
 refine ae.an ⟨[(2,Pt 101 0),(3,Pt 102 0),(4,Pt 103 0)],[(101,.box 25 (ar a0)),(102,.box 25 (ar b0)),(103,.box 25 cU)]⟩ rfl (ab.seq (ab.aa ?_))
 refine Oc (lp aj) ?_
 obtain ⟨⟨x_1,x_2⟩,e1,h⟩:=aD h
 refine Oc (ad (eN e1) kV rfl rfl) (Oc om (Oc (ay rfl rfl) (Oc (ay rfl rfl) (Oc oa (Oc oa ?_)))))
 refine ae.an ⟨[(2,_),(3,_),(4,_),(5,I x_1),(6,B x_2)],[(101,_),(102,_),(103,_)]⟩ rfl (ab.seq (ab.aa ?_))
 refine Oc (lp aj) ?_
 obtain ⟨⟨x_3,x_4⟩,e2,h⟩:=aD h
 refine Oc (ad (eN e2) kV rfl rfl) (Oc om (Oc (ay rfl rfl) (Oc (ay rfl rfl) (Oc oa (Oc oa ?_)))))
 refine ae.an ⟨[(2,_),(3,_),(4,_),(5,_),(6,_),(7,I x_3),(8,B x_4)],[(101,_),(102,_),(103,_)]⟩ rfl (ab.seq (ab.seq (ab.aa ?_)))
 refine Oc om (Oc om ?_)
 refine cG x_2 [] (fun g3=>trivial) (fun g3=>om) (Oc (aG (fun e=>e) rfl rfl rfl rfl) (ae.an ⟨[(2,_),(3,_),(4,_),(5,_),(7,_),(25,B (x_2 && x_4))],[(101,_),(102,_),(103,_)]⟩ rfl (ab.ite h rfl (fun _ h=>?_) (fun _ h=>?_))))
 ·refine ab.seq (ab.aa ?_)
  refine Oc om (Oc om (Oc (bg rfl rfl) ?_))
  obtain ⟨x_5,e4,h⟩:=aD h
  refine Oc (ad (gp e4) kX rfl rfl) (Oc (ah aj rfl rfl rfl rfl (Nat.le_of_ble_eq_true rfl) rfl) ?_)
  refine ae.an ⟨[(4,_)],[(103,.box 25 (ar x_5))]⟩ rfl (ab.ret (Fin.aw ?_))
  obtain rfl:=Option.some.inj h
  refine Fin.ag ⟨[(4,_)],[(103,_)]⟩ rfl (Fin.aq [.agg (ar x_5)] (.inl rfl) rfl (.cons (.agg aj rfl rfl rfl rfl) .nil) ⟨rfl,rfl⟩)
 ·refine ab.skip (Fin.ag ⟨[(2,_),(3,_),(4,_)],[(101,_),(102,_),(103,_)]⟩ rfl (Fin.then (ab.seq (ab.seq (ab.aa ?_)))))
  refine Oc (lp aj) ?_
  obtain ⟨x_6,e5,h⟩:=aD h
  refine Oc (ad (bO e5) fR rfl rfl) (Oc (aT rfl) (Oc om ?_))
  refine cx (!(!x_6)) [] (fun g6=>trivial) (fun g6=>lp aj) (ae.ag ⟨[(2,_),(3,_),(4,_),(33,B (!x_6)),(34,.dh (!(!x_6)) (.agg (ar b0)))],[(101,_),(102,_),(103,_)]⟩ rfl ?_)
  obtain ⟨x_7,e8,h⟩:=aD h
  refine cx (!(!x_6)) [34] (fun g7=>⟨g7,trivial⟩) (fun g7=>ad (bO (gc e8 g7)) fR rfl rfl) (cx (!(!x_6)) [35] (fun g9=>⟨g9,trivial⟩) (fun g9=>aT rfl) (Oc (aQ (fun e=>by rw [e]; rfl) rfl rfl rfl rfl) (ae.an ⟨[(2,_),(3,_),(4,_),(37,B ((!x_6) || (!x_7)))],[(101,_),(102,_),(103,_)]⟩ rfl (ab.ite h rfl (fun _ h=>?_) (fun _ h=>?_)))))
  ·refine ab.seq (ab.aa ?_)
   obtain ⟨x_8,e10,h⟩:=aD h
   refine Oc (ad (fM e10) kW rfl rfl) (Oc (ah aj rfl rfl rfl rfl (Nat.le_of_ble_eq_true rfl) rfl) ?_)
   refine ae.an ⟨[(4,_)],[(103,.box 25 (ar x_8))]⟩ rfl (ab.ret (Fin.aw ?_))
   obtain rfl:=Option.some.inj h
   refine Fin.ag ⟨[(4,_)],[(103,_)]⟩ rfl (Fin.aq [.agg (ar x_8)] (.inl rfl) rfl (.cons (.agg aj rfl rfl rfl rfl) .nil) ⟨rfl,rfl⟩)
  ·refine ab.skip (Fin.ag ⟨[(2,_),(3,_),(4,_)],[(101,_),(102,_),(103,_)]⟩ rfl (Fin.then (ab.seq (ab.aa ?_))))
   refine Oc (lp aj) ?_
   obtain ⟨x_9,e11,h⟩:=aD h
   refine Oc (ad (bC e11) gl rfl rfl) (Oc oa ?_)
   refine ae.an ⟨[(2,_),(3,_),(4,_),(9,.b (.one (.sl 1 (x_9.map eI))))],[(101,_),(102,_),(103,_)]⟩ rfl (ab.seq (ab.aa ?_))
   refine Oc (lp aj) ?_
   obtain ⟨x_10,e12,h⟩:=aD h
   refine Oc (ad (bC e12) gl rfl rfl) (Oc oa ?_)
   refine ae.an ⟨[(2,_),(3,_),(4,_),(9,_),(10,.b (.one (.sl 1 (x_10.map eI))))],[(101,_),(102,_),(103,_)]⟩ rfl (ab.seq (ab.seq (ab.aa ?_)))
   refine Oc (af bj rfl rfl) (Oc (au bS rfl rfl rfl) (Oc (af bj rfl rfl) (Oc (au bS rfl rfl rfl) (Oc (qJ sC rfl rfl) ?_))))
   refine ae.an ⟨[(2,_),(3,_),(4,_),(9,_),(10,_),(47,B (a0.Neg == b0.Neg))],[(101,_),(102,_),(103,_)]⟩ rfl (ab.ite h rfl (fun _ h=>?_) (fun _ h=>?_))
   ·refine ab.seq (ab.ag ⟨[(2,_),(4,_),(9,_),(10,_)],[(101,_),(103,_)]⟩ rfl ?_)
    obtain ⟨x_11,e13,h⟩:=aD h
    obtain ⟨x_12,e14,h⟩:=aD h
    refine ab.bm mixed 6 [Pt 101 1,B a0.Neg,.b (.one (.sl 1 (x_9.map eI))),.b (.one (.sl 1 (x_10.map eI))),.b (.one (.sl 1 (x_11.map eI))),.b (.agg (ar x_12))] [4] [103] (s':=⟨[(4,_)],[(103,.box 25 (ar x_12))]⟩) rfl ⟨fun _=>.p (af bj rfl rfl),fun _=>.p (au bS rfl rfl rfl),fun _=>.p om,fun _=>.p om,fun _=>.p (ad (po e13) yn rfl rfl),fun _=>.p (ad (dd e14) ka rfl rfl),trivial⟩ ⟨_,by exact .p (ah aj rfl rfl rfl rfl (Nat.le_of_ble_eq_true rfl) rfl),rfl⟩ rfl (ab.ret (Fin.aw ?_))
    obtain rfl:=Option.some.inj h
    refine Fin.ag ⟨[(4,_)],[(103,_)]⟩ rfl (Fin.aq [.agg (ar x_12)] (.inl rfl) rfl (.cons (.agg aj rfl rfl rfl rfl) .nil) ⟨rfl,rfl⟩)
   ·refine ab.skip (Fin.ag ⟨[(2,_),(3,_),(4,_),(9,_),(10,_)],[(101,_),(102,_),(103,_)]⟩ rfl (Fin.then (ab.seq (ab.aa ?_))))
    refine Oc om (Oc om ?_)
    obtain ⟨x_13,e15,h⟩:=aD h
    refine Oc (ad (lV e15) u9 rfl rfl) (Oc oa ?_)
    refine ae.an ⟨[(2,_),(3,_),(4,_),(9,_),(10,_),(11,B x_13)],[(101,_),(102,_),(103,_)]⟩ rfl (ab.seq (ab.seq (ab.aa ?_)))
    refine Oc om (ae.an ⟨[(2,_),(3,_),(4,_),(9,_),(10,_),(57,B x_13)],[(101,_),(102,_),(103,_)]⟩ rfl (ab.ite h rfl (fun _ h=>?_) (fun _ h=>?_)))
    ·refine ab.seq (ab.ag ⟨[(3,_),(4,_),(9,_),(10,_)],[(102,_),(103,_)]⟩ rfl ?_)
     obtain ⟨x_14,e16,h⟩:=aD h
     obtain ⟨x_15,e17,h⟩:=aD h
     refine ab.bm mixed 6 [Pt 102 1,B b0.Neg,.b (.one (.sl 1 (x_10.map eI))),.b (.one (.sl 1 (x_9.map eI))),.b (.one (.sl 1 (x_14.map eI))),.b (.agg (ar x_15))] [4] [103] (s':=⟨[(4,_)],[(103,.box 25 (ar x_15))]⟩) rfl ⟨fun _=>.p (af bj rfl rfl),fun _=>.p (au bS rfl rfl rfl),fun _=>.p om,fun _=>.p om,fun _=>.p (ad (jo e16) sS rfl rfl),fun _=>.p (ad (dd e17) ka rfl rfl),trivial⟩ ⟨_,by exact .p (ah aj rfl rfl rfl rfl (Nat.le_of_ble_eq_true rfl) rfl),rfl⟩ rfl (ab.ret (Fin.aw ?_))
     obtain rfl:=Option.some.inj h
     refine Fin.ag ⟨[(4,_)],[(103,_)]⟩ rfl (Fin.aq [.agg (ar x_15)] (.inl rfl) rfl (.cons (.agg aj rfl rfl rfl rfl) .nil) ⟨rfl,rfl⟩)
    ·refine ab.skip (Fin.ag ⟨[(2,_),(4,_),(9,_),(10,_)],[(101,_),(103,_)]⟩ rfl (Fin.then (ab.seq ?_)))
     refine ab.ag ⟨[(2,_),(4,_),(9,_),(10,_)],[(101,_),(103,_)]⟩ rfl ?_
     obtain ⟨x_16,e18,h⟩:=aD h
     obtain ⟨x_17,e19,h⟩:=aD h
     refine ab.bm mixed 6 [Pt 101 1,B a0.Neg,.b (.one (.sl 1 (x_9.map eI))),.b (.one (.sl 1 (x_10.map eI))),.b (.one (.sl 1 (x_16.map eI))),.b (.agg (ar x_17))] [4] [103] (s':=⟨[(4,_)],[(103,.box 25 (ar x_17))]⟩) rfl ⟨fun _=>.p (af bj rfl rfl),fun _=>.p (au bS rfl rfl rfl),fun _=>.p om,fun _=>.p om,fun _=>.p (ad (jo e18) sS rfl rfl),fun _=>.p (ad (dd e19) ka rfl rfl),trivial⟩ ⟨_,by exact .p (ah aj rfl rfl rfl rfl (Nat.le_of_ble_eq_true rfl) rfl),rfl⟩ rfl (ab.ret ?_)
     obtain rfl:=Option.some.inj h
     refine Fin.ag ⟨[(4,_)],[(103,_)]⟩ rfl (Fin.aq [.agg (ar x_17)] (.inl rfl) rfl (.cons (.agg aj rfl rfl rfl rfl) .nil) ⟨rfl,rfl⟩)
def nY (F:Nat) (x0:br):Option br :=
 (cj F x0).bind fun x_1=>if (!x_1) = true then ((gE F).bind fun x_2=>some x_2) else ((bJ F x0).bind fun x_3=>(c5 F (!x0.Neg) x_3).bind fun x_4=>some x_4)
theorem uv {F:Nat} {x0:br} {r:br} (h:nY F x0 = some r):aA Tryz.prog (bd mx) 159 [] [.agg (ar x0)] (Is [] (.b (.agg (ar r)))):=by
 unfold nY at h
 refine aA.intro 13 Tryz.func159 Tryz.ntmps159 rfl (by simp) fun E=>?_
 show ab _ E ⟨13,[],[]⟩ _ ⟨[(0,.b (.agg (ar x0)))],[]⟩ _
 refine ab.seq (ab.aa ?_)
 refine Oc (aL (k:=101) rfl rfl) (Oc (aB (k:=102) bn rfl) ?_)
 refine ae.an ⟨[(1,Pt 101 0),(2,Pt 102 0)],[(101,.box 25 (ar x0)),(102,.box 25 cU)]⟩ rfl (ab.seq (ab.seq (ab.aa ?_)))
 refine Oc (lp aj) ?_
 obtain ⟨x_1,e1,h⟩:=aD h
 refine Oc (ad (bO e1) fR rfl rfl) (Oc (aT rfl) ?_)
 refine ae.an ⟨[(1,_),(2,_),(5,B (!x_1))],[(101,_),(102,_)]⟩ rfl (ab.ite h rfl (fun _ h=>?_) (fun _ h=>?_))
 ·refine ab.seq (ab.aa ?_)
  obtain ⟨x_2,e2,h⟩:=aD h
  refine Oc (ad (fM e2) kW rfl rfl) (Oc (ah aj rfl rfl rfl rfl (Nat.le_of_ble_eq_true rfl) rfl) ?_)
  refine ae.an ⟨[(2,_)],[(102,.box 25 (ar x_2))]⟩ rfl (ab.ret (Fin.aw ?_))
  obtain rfl:=Option.some.inj h
  refine Fin.ag ⟨[(2,_)],[(102,_)]⟩ rfl (Fin.aq [.agg (ar x_2)] (.inl rfl) rfl (.cons (.agg aj rfl rfl rfl rfl) .nil) ⟨rfl,rfl⟩)
 ·refine ab.skip (Fin.ag ⟨[(1,_),(2,_)],[(101,_),(102,_)]⟩ rfl (Fin.then (ab.seq ?_)))
  refine ab.ag ⟨[(1,_),(2,_)],[(101,_),(102,_)]⟩ rfl ?_
  obtain ⟨x_3,e3,h⟩:=aD h
  obtain ⟨x_4,e4,h⟩:=aD h
  refine ab.bm mixed 6 [Pt 101 1,B x0.Neg,B (!x0.Neg),.b (.agg (ar x0)),.b (.one (.sl 1 (x_3.map eI))),.b (.agg (ar x_4))] [2] [102] (s':=⟨[(2,_)],[(102,.box 25 (ar x_4))]⟩) rfl ⟨fun _=>.p (af bj rfl rfl),fun _=>.p (au bS rfl rfl rfl),fun _=>.p (aT rfl),fun _=>.p (lp aj),fun _=>.p (ad (bC e3) gl rfl rfl),fun _=>.p (ad (dd e4) ka rfl rfl),trivial⟩ ⟨_,by exact .p (ah aj rfl rfl rfl rfl (Nat.le_of_ble_eq_true rfl) rfl),rfl⟩ rfl (ab.ret ?_)
  obtain rfl:=Option.some.inj h
  refine Fin.ag ⟨[(2,_)],[(102,_)]⟩ rfl (Fin.aq [.agg (ar x_4)] (.inl rfl) rfl (.cons (.agg aj rfl rfl rfl rfl) .nil) ⟨rfl,rfl⟩)
def gH (F:Nat) (n0:br) (d0:br):Option bz :=
 (cj F n0).bind fun x_1=>(bE (!(!x_1)) (cj F d0)).bind fun x_2=>(bE (!((!x_1) || (!x_2))) (fO F d0)).bind fun x_3=>if (((!x_1) || (!x_2)) || (decide (x_3 = 0))) = true then ((kg F).bind fun x_4=>some x_4) else ((mq F n0 d0).bind fun x_5=>Option.bind ((fO F d0).bind fun x_7=>if (decide (x_7 < 0)) = true then ((nY F x_5).bind fun x_8=>some x_8) else (some x_5)) (fun g_6=>(iJ F n0 g_6).bind fun x_9=>(iJ F d0 g_6).bind fun x_10=>some (⟨x_9,x_10⟩:bz)))
theorem gX {F:Nat} {n0:br} {d0:br} {r:bz} (h:gH F n0 d0 = some r):aA Tryz.prog (bd mx) 106 [] [.agg (ar n0),.agg (ar d0)] (Is [] (.b (.agg (aE r)))):=by
 unfold gH at h
 refine aA.intro 35 Tryz.func106 Tryz.ntmps106 rfl (by simp) fun E=>?_
 show ab _ E ⟨35,[],[]⟩ _ ⟨[(0,.b (.agg (ar n0))),(1,.b (.agg (ar d0)))],[]⟩ _
 refine ab.seq (ab.aa ?_)
 refine Oc (aL (k:=101) rfl rfl) (Oc (aL (k:=102) rfl rfl) (Oc (aB (k:=103) bQ rfl) ?_))
 refine ae.an ⟨[(2,Pt 101 0),(3,Pt 102 0),(4,Pt 103 0)],[(101,.box 25 (ar n0)),(102,.box 25 (ar d0)),(103,.box 27 dM)]⟩ rfl (ab.seq (ab.seq (ab.aa ?_)))
 refine Oc (lp aj) ?_
 obtain ⟨x_1,e1,h⟩:=aD h
 refine Oc (ad (bO e1) fR rfl rfl) (Oc (aT rfl) (Oc om ?_))
 refine cx (!(!x_1)) [] (fun g2=>trivial) (fun g2=>lp aj) (ae.ag ⟨[(2,_),(3,_),(4,_),(9,B (!x_1)),(10,.dh (!(!x_1)) (.agg (ar d0)))],[(101,_),(102,_),(103,_)]⟩ rfl ?_)
 obtain ⟨x_2,e4,h⟩:=aD h
 refine cx (!(!x_1)) [10] (fun g3=>⟨g3,trivial⟩) (fun g3=>ad (bO (gc e4 g3)) fR rfl rfl) (cx (!(!x_1)) [11] (fun g5=>⟨g5,trivial⟩) (fun g5=>aT rfl) (Oc (aQ (fun e=>by rw [e]; rfl) rfl rfl rfl rfl) (Oc om ?_)))
 refine cx (!((!x_1) || (!x_2))) [] (fun g6=>trivial) (fun g6=>lp aj) ?_
 obtain ⟨x_3,e8,h⟩:=aD h
 refine cx (!((!x_1) || (!x_2))) [15] (fun g7=>⟨g7,trivial⟩) (fun g7=>ad (gk (gc e8 g7)) nj rfl rfl) (cx (!((!x_1) || (!x_2))) [16] (fun g9=>⟨g9,trivial⟩) (fun g9=>cR rfl rfl) (Oc (aQ (fun e=>by rw [e]; rfl) rfl rfl rfl rfl) (ae.an ⟨[(2,_),(3,_),(4,_),(18,B (((!x_1) || (!x_2)) || (decide (x_3 = 0))))],[(101,_),(102,_),(103,_)]⟩ rfl (ab.ite h rfl (fun _ h=>?_) (fun _ h=>?_)))))
 ·refine ab.seq (ab.aa ?_)
  obtain ⟨x_4,e10,h⟩:=aD h
  refine Oc (ad (lh e10) sU rfl rfl) (Oc (ah aC rfl rfl rfl rfl (Nat.le_of_ble_eq_true rfl) rfl) ?_)
  refine ae.an ⟨[(4,_)],[(103,.box 27 (aE x_4))]⟩ rfl (ab.ret (Fin.aw ?_))
  obtain rfl:=Option.some.inj h
  refine Fin.ag ⟨[(4,_)],[(103,_)]⟩ rfl (Fin.aq [.agg (aE x_4)] (.inl rfl) rfl (.cons (.agg aC rfl rfl rfl rfl) .nil) ⟨rfl,rfl⟩)
 ·refine ab.skip (Fin.ag ⟨[(2,_),(3,_),(4,_)],[(101,_),(102,_),(103,_)]⟩ rfl (Fin.then (ab.seq (ab.aa ?_))))
  refine Oc (lp aj) (Oc (lp aj) ?_)
  obtain ⟨x_5,e11,h⟩:=aD h
  refine Oc (ad (qE e11) yv rfl rfl) (Oc (aB (k:=104) bn rfl) (Oc (ah aj rfl rfl rfl rfl (Nat.le_of_ble_eq_true rfl) rfl) ?_))
  refine ae.an ⟨[(2,_),(3,_),(4,_),(5,Pt 104 0)],[(101,_),(102,_),(103,_),(104,.box 25 (ar x_5))]⟩ rfl ?_
  obtain ⟨v12,h13,h⟩:=aD h
  refine ab.cB (v:=v12) (fun (g_6:br)=>⟨[(2,Pt 101 0),(3,Pt 102 0),(4,Pt 103 0),(5,Pt 104 0)],[(101,.box 25 (ar n0)),(102,.box 25 (ar d0)),(103,.box 27 dM),(104,.box 25 (ar g_6))]⟩) (fun z=>z) ?_ ?_
  ·refine ab.seq (ab.aa ?_)
   refine Oc (lp aj) ?_
   obtain ⟨x_7,e14,h13⟩:=aD h13
   refine Oc (ad (gk e14) nj rfl rfl) (Oc (bP rfl rfl) ?_)
   refine ae.an ⟨[(2,_),(3,_),(4,_),(5,_),(25,B (decide (x_7 < 0)))],[(101,_),(102,_),(103,_),(104,_)]⟩ rfl (ab.ite h13 rfl (fun _ h13=>?_) (fun _ h13=>?_))
   ·refine ab.aa (Oc (lp aj) ?_)
    obtain ⟨x_8,e15,h13⟩:=aD h13
    refine Oc (ad (uv e15) B5 rfl rfl) (Oc (ah aj rfl rfl rfl rfl (Nat.le_of_ble_eq_true rfl) rfl) ?_)
    refine ae.nil ?_
    exact Fin.join [2,3,4,5] [101,102,103,104] x_8 (Option.some.inj h13) rfl
   ·refine ab.skip ?_
    exact Fin.join [2,3,4,5] [101,102,103,104] x_5 (Option.some.inj h13) rfl
  ·rintro g_6 hv
   subst v12
   refine ab.seq (ab.ag ⟨[(2,_),(3,_),(4,_),(5,_)],[(101,_),(102,_),(103,_),(104,_)]⟩ rfl ?_)
   obtain ⟨x_9,e16,h⟩:=aD h
   obtain ⟨x_10,e17,h⟩:=aD h
   refine ab.bm mixed 7 [.b (.agg (ar n0)),.b (.agg (ar g_6)),.b (.agg (ar x_9)),.b (.agg (ar d0)),.b (.agg (ar g_6)),.b (.agg (ar x_10)),.b (.agg (ar x_9 ++ (ar x_10)))] [4] [103] (s':=⟨[(4,_)],[(103,.box 27 (ar x_9 ++ (ar x_10)))]⟩) rfl ⟨fun _=>.p (lp aj),fun _=>.p (lp aj),fun _=>.p (ad (jS e16) re rfl rfl),fun _=>.p (lp aj),fun _=>.p (lp aj),fun _=>.p (ad (jS e17) re rfl rfl),fun _=>.p (aS dW rfl rfl),trivial⟩ ⟨_,by exact .p (ah aC rfl rfl rfl rfl (Nat.le_of_ble_eq_true rfl) rfl),rfl⟩ rfl (ab.ret ?_)
   obtain rfl:=Option.some.inj h
   refine Fin.ag ⟨[(4,_)],[(103,_)]⟩ rfl (Fin.aq [.agg (ar x_9 ++ (ar x_10))] (.inl rfl) rfl (.cons (.agg aC rfl rfl rfl rfl) .nil) ⟨rfl,rfl⟩)
def nX (F:Nat) (x0:bz) (y0:bz):Option bz :=
 (dX F x0).bind fun x_1=>(bE (!(!x_1)) (dX F y0)).bind fun x_2=>if ((!x_1) || (!x_2)) = true then ((kg F).bind fun x_3=>some x_3) else ((mq F x0.D y0.D).bind fun x_4=>(iJ F x0.D x_4).bind fun x_5=>(iJ F y0.D x_4).bind fun x_6=>(jm F x0.N x_6).bind fun x_7=>(jm F y0.N x_5).bind fun x_8=>(qm F x_7 x_8).bind fun x_9=>(jm F x_5 y0.D).bind fun x_10=>(gH F x_9 x_10).bind fun x_11=>some x_11)
theorem ur {F:Nat} {x0:bz} {y0:bz} {r:bz} (h:nX F x0 y0 = some r):aA Tryz.prog (bd mx) 93 [] [.agg (aE x0),.agg (aE y0)] (Is [] (.b (.agg (aE r)))):=by
 unfold nX at h
 refine aA.intro 44 Tryz.func93 Tryz.ntmps93 rfl (by simp) fun E=>?_
 show ab _ E ⟨44,[],[]⟩ _ ⟨[(0,.b (.agg (aE x0))),(1,.b (.agg (aE y0)))],[]⟩ _
 refine ab.seq (ab.aa ?_)
 refine Oc (aL (k:=101) rfl rfl) (Oc (aL (k:=102) rfl rfl) (Oc (aB (k:=103) bQ rfl) ?_))
 refine ae.an ⟨[(2,Pt 101 0),(3,Pt 102 0),(4,Pt 103 0)],[(101,.box 27 (aE x0)),(102,.box 27 (aE y0)),(103,.box 27 dM)]⟩ rfl (ab.seq (ab.seq (ab.aa ?_)))
 refine Oc (lp aC) ?_
 obtain ⟨x_1,e1,h⟩:=aD h
 refine Oc (ad (dD e1) lF rfl rfl) (Oc (aT rfl) (Oc om ?_))
 refine cx (!(!x_1)) [] (fun g2=>trivial) (fun g2=>lp aC) (ae.ag ⟨[(2,_),(3,_),(4,_),(11,B (!x_1)),(12,.dh (!(!x_1)) (.agg (aE y0)))],[(101,_),(102,_),(103,_)]⟩ rfl ?_)
 obtain ⟨x_2,e4,h⟩:=aD h
 refine cx (!(!x_1)) [12] (fun g3=>⟨g3,trivial⟩) (fun g3=>ad (dD (gc e4 g3)) lF rfl rfl) (cx (!(!x_1)) [13] (fun g5=>⟨g5,trivial⟩) (fun g5=>aT rfl) (Oc (aQ (fun e=>by rw [e]; rfl) rfl rfl rfl rfl) (ae.an ⟨[(2,_),(3,_),(4,_),(15,B ((!x_1) || (!x_2)))],[(101,_),(102,_),(103,_)]⟩ rfl (ab.ite h rfl (fun _ h=>?_) (fun _ h=>?_)))))
 ·refine ab.seq (ab.aa ?_)
  obtain ⟨x_3,e6,h⟩:=aD h
  refine Oc (ad (lh e6) sU rfl rfl) (Oc (ah aC rfl rfl rfl rfl (Nat.le_of_ble_eq_true rfl) rfl) ?_)
  refine ae.an ⟨[(4,_)],[(103,.box 27 (aE x_3))]⟩ rfl (ab.ret (Fin.aw ?_))
  obtain rfl:=Option.some.inj h
  refine Fin.ag ⟨[(4,_)],[(103,_)]⟩ rfl (Fin.aq [.agg (aE x_3)] (.inl rfl) rfl (.cons (.agg aC rfl rfl rfl rfl) .nil) ⟨rfl,rfl⟩)
 ·refine ab.skip (Fin.ag ⟨[(2,_),(3,_),(4,_)],[(101,_),(102,_),(103,_)]⟩ rfl (Fin.then (ab.seq (ab.aa ?_))))
  refine Oc (af aV rfl rfl) (Oc (lp aj) (Oc (af aV rfl rfl) (Oc (lp aj) ?_)))
  obtain ⟨x_4,e7,h⟩:=aD h
  refine Oc (ad (qE e7) yv rfl rfl) (Oc (aB (k:=104) bn rfl) (Oc (ah aj rfl rfl rfl rfl (Nat.le_of_ble_eq_true rfl) rfl) ?_))
  refine ae.an ⟨[(2,_),(3,_),(4,_),(5,Pt 104 0)],[(101,_),(102,_),(103,_),(104,.box 25 (ar x_4))]⟩ rfl (ab.seq (ab.aa ?_))
  refine Oc (af aV rfl rfl) (Oc (lp aj) (Oc (lp aj) ?_))
  obtain ⟨x_5,e8,h⟩:=aD h
  refine Oc (ad (jS e8) re rfl rfl) (Oc (aB (k:=105) bn rfl) (Oc (ah aj rfl rfl rfl rfl (Nat.le_of_ble_eq_true rfl) rfl) ?_))
  refine ae.an ⟨[(2,_),(3,_),(4,_),(5,_),(6,Pt 105 0)],[(101,_),(102,_),(103,_),(104,_),(105,.box 25 (ar x_5))]⟩ rfl (ab.seq (ab.aa ?_))
  refine Oc (af aV rfl rfl) (Oc (lp aj) (Oc (lp aj) ?_))
  obtain ⟨x_6,e9,h⟩:=aD h
  refine Oc (ad (jS e9) re rfl rfl) (Oc (aB (k:=106) bn rfl) (Oc (ah aj rfl rfl rfl rfl (Nat.le_of_ble_eq_true rfl) rfl) ?_))
  refine ae.an ⟨[(2,_),(3,_),(4,_),(6,_),(7,Pt 106 0)],[(101,_),(102,_),(103,_),(105,_),(106,.box 25 (ar x_6))]⟩ rfl (ab.seq ?_)
  obtain ⟨x_7,e10,h⟩:=aD h
  obtain ⟨x_8,e11,h⟩:=aD h
  obtain ⟨x_9,e12,h⟩:=aD h
  obtain ⟨x_10,e13,h⟩:=aD h
  obtain ⟨x_11,e14,h⟩:=aD h
  refine ab.bm mixed 14 [Pt 101 0,.b (.agg (ar x0.N)),.b (.agg (ar x_6)),.b (.agg (ar x_7)),Pt 102 0,.b (.agg (ar y0.N)),.b (.agg (ar x_5)),.b (.agg (ar x_8)),.b (.agg (ar x_9)),.b (.agg (ar x_5)),Pt 102 18,.b (.agg (ar y0.D)),.b (.agg (ar x_10)),.b (.agg (aE x_11))] [4] [103] (s':=⟨[(4,_)],[(103,.box 27 (aE x_11))]⟩) rfl ⟨fun _=>.p (af bq rfl rfl),fun _=>.p (lp aj),fun _=>.p (lp aj),fun _=>.p (ad (li e10) sT rfl rfl),fun _=>.p (af bq rfl rfl),fun _=>.p (lp aj),fun _=>.p (lp aj),fun _=>.p (ad (li e11) sT rfl rfl),fun _=>.p (ad (zM e12) goes147 rfl rfl),fun _=>.p (lp aj),fun _=>.p (af aV rfl rfl),fun _=>.p (lp aj),fun _=>.p (ad (li e13) sT rfl rfl),fun _=>.p (ad (gX e14) oL rfl rfl),trivial⟩ ⟨_,by exact .p (ah aC rfl rfl rfl rfl (Nat.le_of_ble_eq_true rfl) rfl),rfl⟩ rfl (ab.ret ?_)
  obtain rfl:=Option.some.inj h
  refine Fin.ag ⟨[(4,_)],[(103,_)]⟩ rfl (Fin.aq [.agg (aE x_11)] (.inl rfl) rfl (.cons (.agg aC rfl rfl rfl rfl) .nil) ⟨rfl,rfl⟩)
def bL (F:Nat) (v0:bz) (u0:aO):Option ug :=
 (dX F v0).bind fun x_1=>if (!x_1) = true then (bN (⟨(⟨(⟨(⟨false,false,aU.zero⟩:br),(⟨false,false,aU.zero⟩:br)⟩:bz),(⟨0,0,0⟩:aO)⟩:az),30⟩:ug) fun x_2=>some x_2) else (some (⟨(⟨v0,u0⟩:az),0⟩:ug))
theorem c9 {F:Nat} {v0:bz} {u0:aO} {r:ug} (h:bL F v0 u0 = some r):aA Tryz.prog (bd mx) 92 [] [.agg (aE v0),.agg (aP u0)] (Is [] (.b (.agg (dZ r)))):=by
 unfold bL at h
 refine aA.intro 13 Tryz.func92 Tryz.ntmps92 rfl (by simp) fun E=>?_
 show ab _ E ⟨13,[],[]⟩ _ ⟨[(0,.b (.agg (aE v0))),(1,.b (.agg (aP u0)))],[]⟩ _
 refine ab.seq (ab.aa ?_)
 refine Oc (aL (k:=101) rfl rfl) (Oc (aL (k:=102) rfl rfl) (Oc (aB (k:=103) mj rfl) ?_))
 refine ae.an ⟨[(2,Pt 101 0),(3,Pt 102 0),(4,Pt 103 0)],[(101,.box 27 (aE v0)),(102,.box 29 (aP u0)),(103,.box 69 (.bool false :: .bool false :: (eW aU.zero ++ (.bool false :: .bool false :: (eW aU.zero ++ ([.i 0,.i 0,.i 0,.i 0]))))))]⟩ rfl (ab.seq (ab.seq (ab.aa ?_)))
 refine Oc (lp aC) ?_
 obtain ⟨x_1,e1,h⟩:=aD h
 refine Oc (ad (dD e1) lF rfl rfl) (Oc (aT rfl) ?_)
 refine ae.an ⟨[(2,_),(3,_),(4,_),(7,B (!x_1))],[(101,_),(102,_),(103,_)]⟩ rfl (ab.ite h rfl (fun _ h=>?_) (fun _ h=>?_))
 ·refine ab.seq (ab.aa ?_)
  refine ae.dO dZ h rfl (aS fV rfl rfl) (fun x_2 h=>?_)
  refine Oc (ah cf rfl rfl rfl rfl (Nat.le_of_ble_eq_true rfl) rfl) (ae.an ⟨[(4,_)],[(103,.box 69 (dZ x_2))]⟩ rfl (ab.ret (Fin.aw ?_)))
  obtain rfl:=Option.some.inj h
  refine Fin.ag ⟨[(4,_)],[(103,_)]⟩ rfl (Fin.aq [.agg (dZ x_2)] (.inl rfl) rfl (.cons (.agg cf rfl rfl rfl rfl) .nil) ⟨rfl,rfl⟩)
 ·refine ab.skip (Fin.ag ⟨[(2,_),(3,_),(4,_)],[(101,_),(102,_),(103,_)]⟩ rfl (Fin.then (ab.seq (ab.aa ?_))))
  refine Oc (lp aC) (Oc (lp aY) (Oc (aS dr rfl rfl) (Oc (aS fV rfl rfl) (Oc (ah cf rfl rfl rfl rfl (Nat.le_of_ble_eq_true rfl) rfl) ?_))))
  refine ae.an ⟨[(4,_)],[(103,.box 69 (aE v0 ++ (aP u0 ++ ([.i 0]))))]⟩ rfl (ab.ret ?_)
  obtain rfl:=Option.some.inj h
  refine Fin.ag ⟨[(4,_)],[(103,_)]⟩ rfl (Fin.aq [.agg (aE v0 ++ (aP u0 ++ ([.i 0])))] (.inl rfl) rfl (.cons (.agg cf rfl rfl rfl rfl) .nil) ⟨rfl,rfl⟩)
def fG (F:Nat) (a0:az) (b0:az):Option ug :=
 (dK F a0 b0).bind fun x_1=>if (decide (x_1 ≠ 0)) = true then (bN (⟨(⟨(⟨(⟨false,false,aU.zero⟩:br),(⟨false,false,aU.zero⟩:br)⟩:bz),(⟨0,0,0⟩:aO)⟩:az),x_1⟩:ug) fun x_2=>some x_2) else ((nX F a0.V b0.V).bind fun x_3=>(bL F x_3 a0.U).bind fun x_4=>some x_4)
theorem pD {F:Nat} {a0:az} {b0:az} {r:ug} (h:fG F a0 b0 = some r):aA Tryz.prog (bd mx) 41 [] [.agg (ao a0),.agg (ao b0)] (Is [] (.b (.agg (dZ r)))):=by
 unfold fG at h
 refine aA.intro 21 Tryz.func41 Tryz.ntmps41 rfl (by simp) fun E=>?_
 show ab _ E ⟨21,[],[]⟩ _ ⟨[(0,.b (.agg (ao a0))),(1,.b (.agg (ao b0)))],[]⟩ _
 refine ab.seq (ab.aa ?_)
 refine Oc (aL (k:=101) rfl rfl) (Oc (aL (k:=102) rfl rfl) (Oc (aB (k:=103) mj rfl) ?_))
 refine ae.an ⟨[(2,Pt 101 0),(3,Pt 102 0),(4,Pt 103 0)],[(101,.box 31 (ao a0)),(102,.box 31 (ao b0)),(103,.box 69 (.bool false :: .bool false :: (eW aU.zero ++ (.bool false :: .bool false :: (eW aU.zero ++ ([.i 0,.i 0,.i 0,.i 0]))))))]⟩ rfl (ab.seq (ab.aa ?_))
 refine Oc (lp aJ) (Oc (lp aJ) ?_)
 obtain ⟨x_1,e1,h⟩:=aD h
 refine Oc (ad (jU e1) DW rfl rfl) (Oc oa ?_)
 refine ae.an ⟨[(2,_),(3,_),(4,_),(5,I x_1)],[(101,_),(102,_),(103,_)]⟩ rfl (ab.seq (ab.seq (ab.aa ?_)))
 refine Oc om (Oc (di rfl rfl) ?_)
 refine ae.an ⟨[(2,_),(3,_),(4,_),(5,_),(10,B (decide (x_1 ≠ 0)))],[(101,_),(102,_),(103,_)]⟩ rfl (ab.ite h rfl (fun _ h=>?_) (fun _ h=>?_))
 ·refine ab.seq (ab.aa ?_)
  refine Oc om (ae.dO dZ h rfl (aS fV rfl rfl) (fun x_2 h=>?_))
  refine Oc (ah cf rfl rfl rfl rfl (Nat.le_of_ble_eq_true rfl) rfl) (ae.an ⟨[(4,_)],[(103,.box 69 (dZ x_2))]⟩ rfl (ab.ret (Fin.aw ?_)))
  obtain rfl:=Option.some.inj h
  refine Fin.ag ⟨[(4,_)],[(103,_)]⟩ rfl (Fin.aq [.agg (dZ x_2)] (.inl rfl) rfl (.cons (.agg cf rfl rfl rfl rfl) .nil) ⟨rfl,rfl⟩)
 ·refine ab.skip (Fin.ag ⟨[(2,_),(3,_),(4,_)],[(101,_),(102,_),(103,_)]⟩ rfl (Fin.then (ab.seq ?_)))
  refine ab.ag ⟨[(2,_),(3,_),(4,_)],[(101,_),(102,_),(103,_)]⟩ rfl ?_
  obtain ⟨x_3,e2,h⟩:=aD h
  obtain ⟨x_4,e3,h⟩:=aD h
  refine ab.bm mixed 8 [Pt 101 0,.b (.agg (aE a0.V)),Pt 102 0,.b (.agg (aE b0.V)),.b (.agg (aE x_3)),Pt 101 36,.b (.agg (aP a0.U)),.b (.agg (dZ x_4))] [4] [103] (s':=⟨[(4,_)],[(103,.box 69 (dZ x_4))]⟩) rfl ⟨fun _=>.p (af bU rfl rfl),fun _=>.p (lp aC),fun _=>.p (af bU rfl rfl),fun _=>.p (lp aC),fun _=>.p (ad (ur e2) DV rfl rfl),fun _=>.p (af cy rfl rfl),fun _=>.p (lp aY),fun _=>.p (ad (c9 e3) vG rfl rfl),trivial⟩ ⟨_,by exact .p (ah cf rfl rfl rfl rfl (Nat.le_of_ble_eq_true rfl) rfl),rfl⟩ rfl (ab.ret ?_)
  obtain rfl:=Option.some.inj h
  refine Fin.ag ⟨[(4,_)],[(103,_)]⟩ rfl (Fin.aq [.agg (dZ x_4)] (.inl rfl) rfl (.cons (.agg cf rfl rfl rfl rfl) .nil) ⟨rfl,rfl⟩)
def mA (F:Nat) (a0:az) (b0:az):Option (az × Int) :=
 Option.bind (cL F (⟨94,87⟩:yQ) a0 b0) (b9 fun x_1 x_2=>some (x_1,x_2))
theorem wU {F:Nat} {a0:az} {b0:az} {r:az × Int} (h:mA F a0 b0 = some r):aA Tryz.prog (bd mx) 42 [] [.agg (ao a0),.agg (ao b0)] (Is [] (.eY [.agg (ao r.1),.one (.i r.2)])):=by
 unfold mA at h
 refine aA.intro 12 Tryz.func42 Tryz.ntmps42 rfl (by simp) fun E=>?_
 show ab _ E ⟨12,[],[]⟩ _ ⟨[(0,.b (.agg (ao a0))),(1,.b (.agg (ao b0)))],[]⟩ _
 refine ab.seq (ab.aa ?_)
 refine Oc (aL (k:=101) rfl rfl) (Oc (aL (k:=102) rfl rfl) (Oc (aB (k:=103) dw rfl) (Oc oa ?_)))
 refine ae.an ⟨[(2,Pt 101 0),(3,Pt 102 0),(4,Pt 103 0)],[(101,.box 31 (ao a0)),(102,.box 31 (ao b0)),(103,.box 31 (.bool false :: .bool false :: (eW aU.zero ++ (.bool false :: .bool false :: (eW aU.zero ++ ([.i 0,.i 0,.i 0]))))))]⟩ rfl (ab.seq (ab.aa ?_))
 refine Oc (aS oX rfl rfl) (Oc (lp aJ) (Oc (lp aJ) ?_))
 obtain ⟨⟨x_1,x_2⟩,e1,h⟩:=aD h
 refine Oc (ad (fK e1) xT rfl rfl) (Oc (ay rfl rfl) ?_)
 refine ae.ag ⟨[(4,_),(9,.eY [.agg (ao x_1),.one (.i x_2)]),(10,.b (.agg (ao x_1)))],[(103,_)]⟩ rfl (Oc (ay rfl rfl) (Oc (ah aJ rfl rfl rfl rfl (Nat.le_of_ble_eq_true rfl) rfl) (Oc oa ?_)))
 refine ae.an ⟨[(4,_),(5,I x_2)],[(103,.box 31 (ao x_1))]⟩ rfl (ab.ret ?_)
 obtain rfl:=Option.some.inj h
 refine Fin.ag ⟨[(4,_),(5,_)],[(103,_)]⟩ rfl (Fin.aq [.agg (ao x_1),.one (.i x_2)] (.inl rfl) rfl (.cons (.agg aJ rfl rfl rfl rfl) (.cons (.tmp rfl) .nil)) ⟨rfl,rfl⟩)
def qj (F:Nat) (x0:bz):Option bz :=
 (dX F x0).bind fun x_1=>if (!x_1) = true then ((kg F).bind fun x_2=>some x_2) else ((nY F x0.N).bind fun x_3=>some (⟨x_3,x0.D⟩:bz))
theorem zK {F:Nat} {x0:bz} {r:bz} (h:qj F x0 = some r):aA Tryz.prog (bd mx) 149 [] [.agg (aE x0)] (Is [] (.b (.agg (aE r)))):=by
 unfold qj at h
 refine aA.intro 13 Tryz.func149 Tryz.ntmps149 rfl (by simp) fun E=>?_
 show ab _ E ⟨13,[],[]⟩ _ ⟨[(0,.b (.agg (aE x0)))],[]⟩ _
 refine ab.seq (ab.aa ?_)
 refine Oc (aL (k:=101) rfl rfl) (Oc (aB (k:=102) bQ rfl) ?_)
 refine ae.an ⟨[(1,Pt 101 0),(2,Pt 102 0)],[(101,.box 27 (aE x0)),(102,.box 27 dM)]⟩ rfl (ab.seq (ab.seq (ab.aa ?_)))
 refine Oc (lp aC) ?_
 obtain ⟨x_1,e1,h⟩:=aD h
 refine Oc (ad (dD e1) lF rfl rfl) (Oc (aT rfl) ?_)
 refine ae.an ⟨[(1,_),(2,_),(5,B (!x_1))],[(101,_),(102,_)]⟩ rfl (ab.ite h rfl (fun _ h=>?_) (fun _ h=>?_))
 ·refine ab.seq (ab.aa ?_)
  obtain ⟨x_2,e2,h⟩:=aD h
  refine Oc (ad (lh e2) sU rfl rfl) (Oc (ah aC rfl rfl rfl rfl (Nat.le_of_ble_eq_true rfl) rfl) ?_)
  refine ae.an ⟨[(2,_)],[(102,.box 27 (aE x_2))]⟩ rfl (ab.ret (Fin.aw ?_))
  obtain rfl:=Option.some.inj h
  refine Fin.ag ⟨[(2,_)],[(102,_)]⟩ rfl (Fin.aq [.agg (aE x_2)] (.inl rfl) rfl (.cons (.agg aC rfl rfl rfl rfl) .nil) ⟨rfl,rfl⟩)
 ·refine ab.skip (Fin.ag ⟨[(1,_),(2,_)],[(101,_),(102,_)]⟩ rfl (Fin.then (ab.seq ?_)))
  refine ab.ag ⟨[(1,_),(2,_)],[(101,_),(102,_)]⟩ rfl ?_
  obtain ⟨x_3,e3,h⟩:=aD h
  refine ab.bm mixed 6 [Pt 101 0,.b (.agg (ar x0.N)),.b (.agg (ar x_3)),Pt 101 18,.b (.agg (ar x0.D)),.b (.agg (ar x_3 ++ (ar x0.D)))] [2] [102] (s':=⟨[(2,_)],[(102,.box 27 (ar x_3 ++ (ar x0.D)))]⟩) rfl ⟨fun _=>.p (af bq rfl rfl),fun _=>.p (lp aj),fun _=>.p (ad (uv e3) B5 rfl rfl),fun _=>.p (af aV rfl rfl),fun _=>.p (lp aj),fun _=>.p (aS dW rfl rfl),trivial⟩ ⟨_,by exact .p (ah aC rfl rfl rfl rfl (Nat.le_of_ble_eq_true rfl) rfl),rfl⟩ rfl (ab.ret ?_)
  obtain rfl:=Option.some.inj h
  refine Fin.ag ⟨[(2,_)],[(102,_)]⟩ rfl (Fin.aq [.agg (ar x_3 ++ (ar x0.D))] (.inl rfl) rfl (.cons (.agg aC rfl rfl rfl rfl) .nil) ⟨rfl,rfl⟩)
def qi (F:Nat) (x0:bz) (y0:bz):Option bz :=
 (qj F y0).bind fun x_1=>(nX F x0 x_1).bind fun x_2=>some x_2
theorem zJ {F:Nat} {x0:bz} {y0:bz} {r:bz} (h:qi F x0 y0 = some r):aA Tryz.prog (bd mx) 95 [] [.agg (aE x0),.agg (aE y0)] (Is [] (.b (.agg (aE r)))):=by
 unfold qi at h
 refine aA.intro 9 Tryz.func95 Tryz.ntmps95 rfl (by simp) fun E=>?_
 show ab _ E ⟨9,[],[]⟩ _ ⟨[(0,.b (.agg (aE x0))),(1,.b (.agg (aE y0)))],[]⟩ _
 refine ab.seq (ab.aa ?_)
 refine Oc (aL (k:=101) rfl rfl) (Oc (aL (k:=102) rfl rfl) (Oc (aB (k:=103) bQ rfl) ?_))
 refine ae.an ⟨[(2,Pt 101 0),(3,Pt 102 0),(4,Pt 103 0)],[(101,.box 27 (aE x0)),(102,.box 27 (aE y0)),(103,.box 27 dM)]⟩ rfl (ab.seq ?_)
 obtain ⟨x_1,e1,h⟩:=aD h
 obtain ⟨x_2,e2,h⟩:=aD h
 refine ab.bm mixed 4 [.b (.agg (aE x0)),.b (.agg (aE y0)),.b (.agg (aE x_1)),.b (.agg (aE x_2))] [4] [103] (s':=⟨[(4,_)],[(103,.box 27 (aE x_2))]⟩) rfl ⟨fun _=>.p (lp aC),fun _=>.p (lp aC),fun _=>.p (ad (zK e1) goes149 rfl rfl),fun _=>.p (ad (ur e2) DV rfl rfl),trivial⟩ ⟨_,by exact .p (ah aC rfl rfl rfl rfl (Nat.le_of_ble_eq_true rfl) rfl),rfl⟩ rfl (ab.ret ?_)
 obtain rfl:=Option.some.inj h
 refine Fin.ag ⟨[(4,_)],[(103,_)]⟩ rfl (Fin.aq [.agg (aE x_2)] (.inl rfl) rfl (.cons (.agg aC rfl rfl rfl rfl) .nil) ⟨rfl,rfl⟩)
def fC (F:Nat) (a0:az) (b0:az):Option ug :=
 (dK F a0 b0).bind fun x_1=>if (decide (x_1 ≠ 0)) = true then (bN (⟨(⟨(⟨(⟨false,false,aU.zero⟩:br),(⟨false,false,aU.zero⟩:br)⟩:bz),(⟨0,0,0⟩:aO)⟩:az),x_1⟩:ug) fun x_2=>some x_2) else ((qi F a0.V b0.V).bind fun x_3=>(bL F x_3 a0.U).bind fun x_4=>some x_4)
theorem pz {F:Nat} {a0:az} {b0:az} {r:ug} (h:fC F a0 b0 = some r):aA Tryz.prog (bd mx) 43 [] [.agg (ao a0),.agg (ao b0)] (Is [] (.b (.agg (dZ r)))):=by
 unfold fC at h
 refine aA.intro 21 Tryz.func43 Tryz.ntmps43 rfl (by simp) fun E=>?_
 show ab _ E ⟨21,[],[]⟩ _ ⟨[(0,.b (.agg (ao a0))),(1,.b (.agg (ao b0)))],[]⟩ _
 refine ab.seq (ab.aa ?_)
 refine Oc (aL (k:=101) rfl rfl) (Oc (aL (k:=102) rfl rfl) (Oc (aB (k:=103) mj rfl) ?_))
 refine ae.an ⟨[(2,Pt 101 0),(3,Pt 102 0),(4,Pt 103 0)],[(101,.box 31 (ao a0)),(102,.box 31 (ao b0)),(103,.box 69 (.bool false :: .bool false :: (eW aU.zero ++ (.bool false :: .bool false :: (eW aU.zero ++ ([.i 0,.i 0,.i 0,.i 0]))))))]⟩ rfl (ab.seq (ab.aa ?_))
 refine Oc (lp aJ) (Oc (lp aJ) ?_)
 obtain ⟨x_1,e1,h⟩:=aD h
 refine Oc (ad (jU e1) DW rfl rfl) (Oc oa ?_)
 refine ae.an ⟨[(2,_),(3,_),(4,_),(5,I x_1)],[(101,_),(102,_),(103,_)]⟩ rfl (ab.seq (ab.seq (ab.aa ?_)))
 refine Oc om (Oc (di rfl rfl) ?_)
 refine ae.an ⟨[(2,_),(3,_),(4,_),(5,_),(10,B (decide (x_1 ≠ 0)))],[(101,_),(102,_),(103,_)]⟩ rfl (ab.ite h rfl (fun _ h=>?_) (fun _ h=>?_))
 ·refine ab.seq (ab.aa ?_)
  refine Oc om (ae.dO dZ h rfl (aS fV rfl rfl) (fun x_2 h=>?_))
  refine Oc (ah cf rfl rfl rfl rfl (Nat.le_of_ble_eq_true rfl) rfl) (ae.an ⟨[(4,_)],[(103,.box 69 (dZ x_2))]⟩ rfl (ab.ret (Fin.aw ?_)))
  obtain rfl:=Option.some.inj h
  refine Fin.ag ⟨[(4,_)],[(103,_)]⟩ rfl (Fin.aq [.agg (dZ x_2)] (.inl rfl) rfl (.cons (.agg cf rfl rfl rfl rfl) .nil) ⟨rfl,rfl⟩)
 ·refine ab.skip (Fin.ag ⟨[(2,_),(3,_),(4,_)],[(101,_),(102,_),(103,_)]⟩ rfl (Fin.then (ab.seq ?_)))
  refine ab.ag ⟨[(2,_),(3,_),(4,_)],[(101,_),(102,_),(103,_)]⟩ rfl ?_
  obtain ⟨x_3,e2,h⟩:=aD h
  obtain ⟨x_4,e3,h⟩:=aD h
  refine ab.bm mixed 8 [Pt 101 0,.b (.agg (aE a0.V)),Pt 102 0,.b (.agg (aE b0.V)),.b (.agg (aE x_3)),Pt 101 36,.b (.agg (aP a0.U)),.b (.agg (dZ x_4))] [4] [103] (s':=⟨[(4,_)],[(103,.box 69 (dZ x_4))]⟩) rfl ⟨fun _=>.p (af bU rfl rfl),fun _=>.p (lp aC),fun _=>.p (af bU rfl rfl),fun _=>.p (lp aC),fun _=>.p (ad (zJ e2) goes95 rfl rfl),fun _=>.p (af cy rfl rfl),fun _=>.p (lp aY),fun _=>.p (ad (c9 e3) vG rfl rfl),trivial⟩ ⟨_,by exact .p (ah cf rfl rfl rfl rfl (Nat.le_of_ble_eq_true rfl) rfl),rfl⟩ rfl (ab.ret ?_)
  obtain rfl:=Option.some.inj h
  refine Fin.ag ⟨[(4,_)],[(103,_)]⟩ rfl (Fin.aq [.agg (dZ x_4)] (.inl rfl) rfl (.cons (.agg cf rfl rfl rfl rfl) .nil) ⟨rfl,rfl⟩)
def iY (F:Nat) (a0:az) (b0:az):Option (az × Int) :=
 Option.bind (cL F (⟨25,26⟩:yQ) a0 b0) (b9 fun x_1 x_2=>some (x_1,x_2))
theorem pJ {F:Nat} {a0:az} {b0:az} {r:az × Int} (h:iY F a0 b0 = some r):aA Tryz.prog (bd mx) 38 [] [.agg (ao a0),.agg (ao b0)] (Is [] (.eY [.agg (ao r.1),.one (.i r.2)])):=by
 unfold iY at h
 refine aA.intro 12 Tryz.func38 Tryz.ntmps38 rfl (by simp) fun E=>?_
 show ab _ E ⟨12,[],[]⟩ _ ⟨[(0,.b (.agg (ao a0))),(1,.b (.agg (ao b0)))],[]⟩ _
 refine ab.seq (ab.aa ?_)
 refine Oc (aL (k:=101) rfl rfl) (Oc (aL (k:=102) rfl rfl) (Oc (aB (k:=103) dw rfl) (Oc oa ?_)))
 refine ae.an ⟨[(2,Pt 101 0),(3,Pt 102 0),(4,Pt 103 0)],[(101,.box 31 (ao a0)),(102,.box 31 (ao b0)),(103,.box 31 (.bool false :: .bool false :: (eW aU.zero ++ (.bool false :: .bool false :: (eW aU.zero ++ ([.i 0,.i 0,.i 0]))))))]⟩ rfl (ab.seq (ab.aa ?_))
 refine Oc (aS oX rfl rfl) (Oc (lp aJ) (Oc (lp aJ) ?_))
 obtain ⟨⟨x_1,x_2⟩,e1,h⟩:=aD h
 refine Oc (ad (fK e1) xT rfl rfl) (Oc (ay rfl rfl) ?_)
 refine ae.ag ⟨[(4,_),(9,.eY [.agg (ao x_1),.one (.i x_2)]),(10,.b (.agg (ao x_1)))],[(103,_)]⟩ rfl (Oc (ay rfl rfl) (Oc (ah aJ rfl rfl rfl rfl (Nat.le_of_ble_eq_true rfl) rfl) (Oc oa ?_)))
 refine ae.an ⟨[(4,_),(5,I x_2)],[(103,.box 31 (ao x_1))]⟩ rfl (ab.ret ?_)
 obtain rfl:=Option.some.inj h
 refine Fin.ag ⟨[(4,_),(5,_)],[(103,_)]⟩ rfl (Fin.aq [.agg (ao x_1),.one (.i x_2)] (.inl rfl) rfl (.cons (.agg aJ rfl rfl rfl rfl) (.cons (.tmp rfl) .nil)) ⟨rfl,rfl⟩)
def de (F:Nat) (u0:aO):Option Made :=
 (bH F u0).bind fun x_1=>if (!x_1) = true then (some (⟨(⟨0,0,0⟩:aO),2⟩:Made)) else (some (⟨u0,0⟩:Made))
theorem gN {F:Nat} {u0:aO} {r:Made} (h:de F u0 = some r):aA Tryz.prog (bd mx) 83 [] [.agg (aP u0)] (Is [] (.b (.agg (lI r)))):=by
 unfold de at h
 refine aA.intro 11 Tryz.func83 Tryz.ntmps83 rfl (by simp) fun E=>?_
 show ab _ E ⟨11,[],[]⟩ _ ⟨[(0,.b (.agg (aP u0)))],[]⟩ _
 refine ab.seq (ab.aa ?_)
 refine Oc (aL (k:=101) rfl rfl) (Oc (aB (k:=102) ml rfl) ?_)
 refine ae.an ⟨[(1,Pt 101 0),(2,Pt 102 0)],[(101,.box 29 (aP u0)),(102,.box 57 [.i 0,.i 0,.i 0,.i 0])]⟩ rfl (ab.seq (ab.aa ?_))
 refine Oc (lp aY) ?_
 obtain ⟨x_1,e1,h⟩:=aD h
 refine Oc (ad (cg e1) p6 rfl rfl) (Oc oa ?_)
 refine ae.an ⟨[(1,_),(2,_),(3,B x_1)],[(101,_),(102,_)]⟩ rfl (ab.seq (ab.seq (ab.aa ?_)))
 refine Oc om (Oc (aT rfl) ?_)
 refine ae.an ⟨[(1,_),(2,_),(7,B (!x_1))],[(101,_),(102,_)]⟩ rfl (ab.ite h rfl (fun _ h=>?_) (fun _ h=>?_))
 ·refine ab.seq (ab.aa ?_)
  refine Oc (aS n7 rfl rfl) (Oc (ah fJ rfl rfl rfl rfl (Nat.le_of_ble_eq_true rfl) rfl) ?_)
  refine ae.an ⟨[(2,_)],[(102,.box 57 [.i 0,.i 0,.i 0,.i 2])]⟩ rfl (ab.ret (Fin.aw ?_))
  obtain rfl:=Option.some.inj h
  refine Fin.ag ⟨[(2,_)],[(102,_)]⟩ rfl (Fin.aq [.agg [.i 0,.i 0,.i 0,.i 2]] (.inl rfl) rfl (.cons (.agg fJ rfl rfl rfl rfl) .nil) ⟨rfl,rfl⟩)
 ·refine ab.skip (Fin.ag ⟨[(1,_),(2,_)],[(101,_),(102,_)]⟩ rfl (Fin.then (ab.seq (ab.aa ?_))))
  refine Oc (lp aY) (Oc (aS n7 rfl rfl) (Oc (ah fJ rfl rfl rfl rfl (Nat.le_of_ble_eq_true rfl) rfl) ?_))
  refine ae.an ⟨[(2,_)],[(102,.box 57 (aP u0 ++ ([.i 0])))]⟩ rfl (ab.ret ?_)
  obtain rfl:=Option.some.inj h
  refine Fin.ag ⟨[(2,_)],[(102,_)]⟩ rfl (Fin.aq [.agg (aP u0 ++ ([.i 0]))] (.inl rfl) rfl (.cons (.agg fJ rfl rfl rfl rfl) .nil) ⟨rfl,rfl⟩)
def fE (F:Nat) (u0:aO) (v0:aO):Option Made :=
 (bH F u0).bind fun x_1=>(bE (!(!x_1)) (bH F v0)).bind fun x_2=>if ((!x_1) || (!x_2)) = true then (some (⟨(⟨0,0,0⟩:aO),1⟩:Made)) else (bN (⟨IntKind.i64.wrap (u0.M + v0.M),IntKind.i64.wrap (u0.Kg + v0.Kg),IntKind.i64.wrap (u0.S + v0.S)⟩:aO) fun x_3=>(de F x_3).bind fun x_4=>some x_4)
theorem pB {F:Nat} {u0:aO} {v0:aO} {r:Made} (h:fE F u0 v0 = some r):aA Tryz.prog (bd mx) 29 [] [.agg (aP u0),.agg (aP v0)] (Is [] (.b (.agg (lI r)))):=by
 unfold fE at h
 refine aA.intro 31 Tryz.func29 Tryz.ntmps29 rfl (by simp) fun E=>?_
 show ab _ E ⟨31,[],[]⟩ _ ⟨[(0,.b (.agg (aP u0))),(1,.b (.agg (aP v0)))],[]⟩ _
 refine ab.seq (ab.aa ?_)
 refine Oc (aL (k:=101) rfl rfl) (Oc (aL (k:=102) rfl rfl) (Oc (aB (k:=103) ml rfl) ?_))
 refine ae.an ⟨[(2,Pt 101 0),(3,Pt 102 0),(4,Pt 103 0)],[(101,.box 29 (aP u0)),(102,.box 29 (aP v0)),(103,.box 57 [.i 0,.i 0,.i 0,.i 0])]⟩ rfl (ab.seq (ab.seq (ab.aa ?_)))
 refine Oc (lp aY) ?_
 obtain ⟨x_1,e1,h⟩:=aD h
 refine Oc (ad (cg e1) p6 rfl rfl) (Oc (aT rfl) (Oc om ?_))
 refine cx (!(!x_1)) [] (fun g2=>trivial) (fun g2=>lp aY) (ae.ag ⟨[(2,_),(3,_),(4,_),(8,B (!x_1)),(9,.dh (!(!x_1)) (.agg (aP v0)))],[(101,_),(102,_),(103,_)]⟩ rfl ?_)
 obtain ⟨x_2,e4,h⟩:=aD h
 refine cx (!(!x_1)) [9] (fun g3=>⟨g3,trivial⟩) (fun g3=>ad (cg (gc e4 g3)) p6 rfl rfl) (cx (!(!x_1)) [10] (fun g5=>⟨g5,trivial⟩) (fun g5=>aT rfl) (Oc (aQ (fun e=>by rw [e]; rfl) rfl rfl rfl rfl) (ae.an ⟨[(2,_),(3,_),(4,_),(12,B ((!x_1) || (!x_2)))],[(101,_),(102,_),(103,_)]⟩ rfl (ab.ite h rfl (fun _ h=>?_) (fun _ h=>?_)))))
 ·refine ab.seq (ab.aa ?_)
  refine Oc (aS n7 rfl rfl) (Oc (ah fJ rfl rfl rfl rfl (Nat.le_of_ble_eq_true rfl) rfl) ?_)
  refine ae.an ⟨[(4,_)],[(103,.box 57 [.i 0,.i 0,.i 0,.i 1])]⟩ rfl (ab.ret (Fin.aw ?_))
  obtain rfl:=Option.some.inj h
  refine Fin.ag ⟨[(4,_)],[(103,_)]⟩ rfl (Fin.aq [.agg [.i 0,.i 0,.i 0,.i 1]] (.inl rfl) rfl (.cons (.agg fJ rfl rfl rfl rfl) .nil) ⟨rfl,rfl⟩)
 ·refine ab.skip (Fin.ag ⟨[(2,_),(3,_),(4,_)],[(101,_),(102,_),(103,_)]⟩ rfl (Fin.then (ab.seq (ab.aa ?_))))
  refine Oc (af iz rfl rfl) (Oc (au bG rfl rfl rfl) (Oc (af iz rfl rfl) (Oc (au bG rfl rfl rfl) (Oc (bg rfl rfl) (Oc (af iy rfl rfl) ?_)))))
  refine Oc (au bG rfl rfl rfl) (ae.ag ⟨[(2,_),(3,_),(4,_),(18,I (IntKind.i64.wrap (u0.M + v0.M))),(20,I u0.Kg)],[(101,_),(102,_),(103,_)]⟩ rfl (Oc (af iy rfl rfl) (Oc (au bG rfl rfl rfl) (Oc (bg rfl rfl) (Oc (af iw rfl rfl) (Oc (au bG rfl rfl rfl) (Oc (af iw rfl rfl) ?_)))))))
  refine Oc (au bG rfl rfl rfl) (Oc (bg rfl rfl) ?_)
  refine ae.ag ⟨[(4,_),(18,_),(23,I (IntKind.i64.wrap (u0.Kg + v0.Kg))),(28,I (IntKind.i64.wrap (u0.S + v0.S)))],[(103,_)]⟩ rfl (ae.dO aP h rfl (aS dV rfl rfl) (fun x_3 h=>?_))
  obtain ⟨x_4,e6,h⟩:=aD h
  refine Oc (ad (gN e6) As rfl rfl) (Oc (ah fJ rfl rfl rfl rfl (Nat.le_of_ble_eq_true rfl) rfl) ?_)
  refine ae.an ⟨[(4,_)],[(103,.box 57 (lI x_4))]⟩ rfl (ab.ret ?_)
  obtain rfl:=Option.some.inj h
  refine Fin.ag ⟨[(4,_)],[(103,_)]⟩ rfl (Fin.aq [.agg (lI x_4)] (.inl rfl) rfl (.cons (.agg fJ rfl rfl rfl rfl) .nil) ⟨rfl,rfl⟩)
def lc (F:Nat) (x0:bz) (y0:bz):Option bz :=
 (dX F x0).bind fun x_1=>(bE (!(!x_1)) (dX F y0)).bind fun x_2=>if ((!x_1) || (!x_2)) = true then ((kg F).bind fun x_3=>some x_3) else ((gH F x0.N y0.D).bind fun x_4=>(gH F y0.N x0.D).bind fun x_5=>(jm F x_4.N x_5.N).bind fun x_6=>(jm F x_4.D x_5.D).bind fun x_7=>(gH F x_6 x_7).bind fun x_8=>some x_8)
theorem qD {F:Nat} {x0:bz} {y0:bz} {r:bz} (h:lc F x0 y0 = some r):aA Tryz.prog (bd mx) 96 [] [.agg (aE x0),.agg (aE y0)] (Is [] (.b (.agg (aE r)))):=by
 unfold lc at h
 refine aA.intro 41 Tryz.func96 Tryz.ntmps96 rfl (by simp) fun E=>?_
 show ab _ E ⟨41,[],[]⟩ _ ⟨[(0,.b (.agg (aE x0))),(1,.b (.agg (aE y0)))],[]⟩ _
 refine ab.seq (ab.aa ?_)
 refine Oc (aL (k:=101) rfl rfl) (Oc (aL (k:=102) rfl rfl) (Oc (aB (k:=103) bQ rfl) ?_))
 refine ae.an ⟨[(2,Pt 101 0),(3,Pt 102 0),(4,Pt 103 0)],[(101,.box 27 (aE x0)),(102,.box 27 (aE y0)),(103,.box 27 dM)]⟩ rfl (ab.seq (ab.seq (ab.aa ?_)))
 refine Oc (lp aC) ?_
 obtain ⟨x_1,e1,h⟩:=aD h
 refine Oc (ad (dD e1) lF rfl rfl) (Oc (aT rfl) (Oc om ?_))
 refine cx (!(!x_1)) [] (fun g2=>trivial) (fun g2=>lp aC) (ae.ag ⟨[(2,_),(3,_),(4,_),(12,B (!x_1)),(13,.dh (!(!x_1)) (.agg (aE y0)))],[(101,_),(102,_),(103,_)]⟩ rfl ?_)
 obtain ⟨x_2,e4,h⟩:=aD h
 refine cx (!(!x_1)) [13] (fun g3=>⟨g3,trivial⟩) (fun g3=>ad (dD (gc e4 g3)) lF rfl rfl) (cx (!(!x_1)) [14] (fun g5=>⟨g5,trivial⟩) (fun g5=>aT rfl) (Oc (aQ (fun e=>by rw [e]; rfl) rfl rfl rfl rfl) (ae.an ⟨[(2,_),(3,_),(4,_),(16,B ((!x_1) || (!x_2)))],[(101,_),(102,_),(103,_)]⟩ rfl (ab.ite h rfl (fun _ h=>?_) (fun _ h=>?_)))))
 ·refine ab.seq (ab.aa ?_)
  obtain ⟨x_3,e6,h⟩:=aD h
  refine Oc (ad (lh e6) sU rfl rfl) (Oc (ah aC rfl rfl rfl rfl (Nat.le_of_ble_eq_true rfl) rfl) ?_)
  refine ae.an ⟨[(4,_)],[(103,.box 27 (aE x_3))]⟩ rfl (ab.ret (Fin.aw ?_))
  obtain rfl:=Option.some.inj h
  refine Fin.ag ⟨[(4,_)],[(103,_)]⟩ rfl (Fin.aq [.agg (aE x_3)] (.inl rfl) rfl (.cons (.agg aC rfl rfl rfl rfl) .nil) ⟨rfl,rfl⟩)
 ·refine ab.skip (Fin.ag ⟨[(2,_),(3,_),(4,_)],[(101,_),(102,_),(103,_)]⟩ rfl (Fin.then (ab.seq (ab.aa ?_))))
  refine Oc (af bq rfl rfl) (Oc (lp aj) (Oc (af aV rfl rfl) (Oc (lp aj) ?_)))
  obtain ⟨x_4,e7,h⟩:=aD h
  refine Oc (ad (gX e7) oL rfl rfl) (Oc (aB (k:=104) bQ rfl) (Oc (ah aC rfl rfl rfl rfl (Nat.le_of_ble_eq_true rfl) rfl) ?_))
  refine ae.an ⟨[(2,_),(3,_),(4,_),(5,Pt 104 0)],[(101,_),(102,_),(103,_),(104,.box 27 (aE x_4))]⟩ rfl (ab.seq (ab.aa ?_))
  refine Oc (af bq rfl rfl) (Oc (lp aj) (Oc (af aV rfl rfl) (Oc (lp aj) ?_)))
  obtain ⟨x_5,e8,h⟩:=aD h
  refine Oc (ad (gX e8) oL rfl rfl) (Oc (aB (k:=105) bQ rfl) (Oc (ah aC rfl rfl rfl rfl (Nat.le_of_ble_eq_true rfl) rfl) ?_))
  refine ae.an ⟨[(4,_),(5,_),(6,Pt 105 0)],[(103,_),(104,_),(105,.box 27 (aE x_5))]⟩ rfl (ab.seq (ab.aa ?_))
  refine Oc (af bq rfl rfl) (Oc (lp aj) (Oc (af bq rfl rfl) (Oc (lp aj) ?_)))
  obtain ⟨x_6,e9,h⟩:=aD h
  refine Oc (ad (li e9) sT rfl rfl) (Oc (aB (k:=106) bn rfl) (Oc (ah aj rfl rfl rfl rfl (Nat.le_of_ble_eq_true rfl) rfl) ?_))
  refine ae.an ⟨[(4,_),(5,_),(6,_),(7,Pt 106 0)],[(103,_),(104,_),(105,_),(106,.box 25 (ar x_6))]⟩ rfl (ab.seq (ab.aa ?_))
  refine Oc (af aV rfl rfl) (Oc (lp aj) (Oc (af aV rfl rfl) (Oc (lp aj) ?_)))
  obtain ⟨x_7,e10,h⟩:=aD h
  refine Oc (ad (li e10) sT rfl rfl) (Oc (aB (k:=107) bn rfl) (Oc (ah aj rfl rfl rfl rfl (Nat.le_of_ble_eq_true rfl) rfl) ?_))
  refine ae.an ⟨[(4,_),(7,_),(8,Pt 107 0)],[(103,_),(106,_),(107,.box 25 (ar x_7))]⟩ rfl (ab.seq (ab.aa ?_))
  refine Oc (lp aj) (Oc (lp aj) ?_)
  obtain ⟨x_8,e11,h⟩:=aD h
  refine Oc (ad (gX e11) oL rfl rfl) (Oc (ah aC rfl rfl rfl rfl (Nat.le_of_ble_eq_true rfl) rfl) ?_)
  refine ae.an ⟨[(4,_)],[(103,.box 27 (aE x_8))]⟩ rfl (ab.ret ?_)
  obtain rfl:=Option.some.inj h
  refine Fin.ag ⟨[(4,_)],[(103,_)]⟩ rfl (Fin.aq [.agg (aE x_8)] (.inl rfl) rfl (.cons (.agg aC rfl rfl rfl rfl) .nil) ⟨rfl,rfl⟩)
def ew (F:Nat) (a0:az) (b0:az):Option ug :=
 (bu F a0).bind fun x_1=>(bE (!(!x_1)) (bu F b0)).bind fun x_2=>if ((!x_1) || (!x_2)) = true then (bN (⟨(⟨(⟨(⟨false,false,aU.zero⟩:br),(⟨false,false,aU.zero⟩:br)⟩:bz),(⟨0,0,0⟩:aO)⟩:az),1⟩:ug) fun x_3=>some x_3) else ((fE F a0.U b0.U).bind fun x_4=>if (decide (x_4.E ≠ 0)) = true then (bN (⟨(⟨(⟨(⟨false,false,aU.zero⟩:br),(⟨false,false,aU.zero⟩:br)⟩:bz),(⟨0,0,0⟩:aO)⟩:az),x_4.E⟩:ug) fun x_5=>some x_5) else ((lc F a0.V b0.V).bind fun x_6=>(bL F x_6 x_4.U).bind fun x_7=>some x_7))
theorem nO {F:Nat} {a0:az} {b0:az} {r:ug} (h:ew F a0 b0 = some r):aA Tryz.prog (bd mx) 44 [] [.agg (ao a0),.agg (ao b0)] (Is [] (.b (.agg (dZ r)))):=by
 unfold ew at h
 refine aA.intro 34 Tryz.func44 Tryz.ntmps44 rfl (by simp) fun E=>?_
 show ab _ E ⟨34,[],[]⟩ _ ⟨[(0,.b (.agg (ao a0))),(1,.b (.agg (ao b0)))],[]⟩ _
 refine ab.seq (ab.aa ?_)
 refine Oc (aL (k:=101) rfl rfl) (Oc (aL (k:=102) rfl rfl) (Oc (aB (k:=103) mj rfl) ?_))
 refine ae.an ⟨[(2,Pt 101 0),(3,Pt 102 0),(4,Pt 103 0)],[(101,.box 31 (ao a0)),(102,.box 31 (ao b0)),(103,.box 69 (.bool false :: .bool false :: (eW aU.zero ++ (.bool false :: .bool false :: (eW aU.zero ++ ([.i 0,.i 0,.i 0,.i 0]))))))]⟩ rfl (ab.seq (ab.seq (ab.aa ?_)))
 refine Oc (lp aJ) ?_
 obtain ⟨x_1,e1,h⟩:=aD h
 refine Oc (ad (bM e1) nK rfl rfl) (Oc (aT rfl) (Oc om ?_))
 refine cx (!(!x_1)) [] (fun g2=>trivial) (fun g2=>lp aJ) (ae.ag ⟨[(2,_),(3,_),(4,_),(9,B (!x_1)),(10,.dh (!(!x_1)) (.agg (ao b0)))],[(101,_),(102,_),(103,_)]⟩ rfl ?_)
 obtain ⟨x_2,e4,h⟩:=aD h
 refine cx (!(!x_1)) [10] (fun g3=>⟨g3,trivial⟩) (fun g3=>ad (bM (gc e4 g3)) nK rfl rfl) (cx (!(!x_1)) [11] (fun g5=>⟨g5,trivial⟩) (fun g5=>aT rfl) (Oc (aQ (fun e=>by rw [e]; rfl) rfl rfl rfl rfl) (ae.an ⟨[(2,_),(3,_),(4,_),(13,B ((!x_1) || (!x_2)))],[(101,_),(102,_),(103,_)]⟩ rfl (ab.ite h rfl (fun _ h=>?_) (fun _ h=>?_)))))
 ·refine ab.seq (ab.aa ?_)
  refine ae.dO dZ h rfl (aS fV rfl rfl) (fun x_3 h=>?_)
  refine Oc (ah cf rfl rfl rfl rfl (Nat.le_of_ble_eq_true rfl) rfl) (ae.an ⟨[(4,_)],[(103,.box 69 (dZ x_3))]⟩ rfl (ab.ret (Fin.aw ?_)))
  obtain rfl:=Option.some.inj h
  refine Fin.ag ⟨[(4,_)],[(103,_)]⟩ rfl (Fin.aq [.agg (dZ x_3)] (.inl rfl) rfl (.cons (.agg cf rfl rfl rfl rfl) .nil) ⟨rfl,rfl⟩)
 ·refine ab.skip (Fin.ag ⟨[(2,_),(3,_),(4,_)],[(101,_),(102,_),(103,_)]⟩ rfl (Fin.then (ab.seq (ab.aa ?_))))
  refine Oc (af cy rfl rfl) (Oc (lp aY) (Oc (af cy rfl rfl) (Oc (lp aY) ?_)))
  obtain ⟨x_4,e6,h⟩:=aD h
  refine Oc (ad (pB e6) goes29 rfl rfl) (Oc (aB (k:=104) ml rfl) (Oc (ah fJ rfl rfl rfl rfl (Nat.le_of_ble_eq_true rfl) rfl) ?_))
  refine ae.an ⟨[(2,_),(3,_),(4,_),(5,Pt 104 0)],[(101,_),(102,_),(103,_),(104,.box 57 (lI x_4))]⟩ rfl (ab.seq (ab.seq (ab.aa ?_)))
  refine Oc (af l4 rfl rfl) (Oc (au j9 rfl rfl rfl) (Oc (di rfl rfl) ?_))
  refine ae.an ⟨[(2,_),(3,_),(4,_),(5,_),(22,B (decide (x_4.E ≠ 0)))],[(101,_),(102,_),(103,_),(104,_)]⟩ rfl (ab.ite h rfl (fun _ h=>?_) (fun _ h=>?_))
  ·refine ab.seq (ab.aa ?_)
   refine Oc (af l4 rfl rfl) (Oc (au j9 rfl rfl rfl) ?_)
   refine ae.dO dZ h rfl (aS fV rfl rfl) (fun x_5 h=>?_)
   refine Oc (ah cf rfl rfl rfl rfl (Nat.le_of_ble_eq_true rfl) rfl) (ae.an ⟨[(4,_)],[(103,.box 69 (dZ x_5))]⟩ rfl (ab.ret (Fin.aw ?_)))
   obtain rfl:=Option.some.inj h
   refine Fin.ag ⟨[(4,_)],[(103,_)]⟩ rfl (Fin.aq [.agg (dZ x_5)] (.inl rfl) rfl (.cons (.agg cf rfl rfl rfl rfl) .nil) ⟨rfl,rfl⟩)
  ·refine ab.skip (Fin.ag ⟨[(2,_),(3,_),(4,_),(5,_)],[(101,_),(102,_),(103,_),(104,_)]⟩ rfl (Fin.then (ab.seq ?_)))
   refine ab.ag ⟨[(2,_),(3,_),(4,_),(5,_)],[(101,_),(102,_),(103,_),(104,_)]⟩ rfl ?_
   obtain ⟨x_6,e7,h⟩:=aD h
   obtain ⟨x_7,e8,h⟩:=aD h
   refine ab.bm mixed 8 [Pt 101 0,.b (.agg (aE a0.V)),Pt 102 0,.b (.agg (aE b0.V)),.b (.agg (aE x_6)),Pt 104 0,.b (.agg (aP x_4.U)),.b (.agg (dZ x_7))] [4] [103] (s':=⟨[(4,_)],[(103,.box 69 (dZ x_7))]⟩) rfl ⟨fun _=>.p (af bU rfl rfl),fun _=>.p (lp aC),fun _=>.p (af bU rfl rfl),fun _=>.p (lp aC),fun _=>.p (ad (qD e7) Ar rfl rfl),fun _=>.p (af tQ rfl rfl),fun _=>.p (lp aY),fun _=>.p (ad (c9 e8) vG rfl rfl),trivial⟩ ⟨_,by exact .p (ah cf rfl rfl rfl rfl (Nat.le_of_ble_eq_true rfl) rfl),rfl⟩ rfl (ab.ret ?_)
   obtain rfl:=Option.some.inj h
   refine Fin.ag ⟨[(4,_)],[(103,_)]⟩ rfl (Fin.aq [.agg (dZ x_7)] (.inl rfl) rfl (.cons (.agg cf rfl rfl rfl rfl) .nil) ⟨rfl,rfl⟩)
def nZ (F:Nat) (x0:bz):Option Int :=
 (dx F x0).bind fun x_1=>if (!x_1) = true then (some 0) else ((gD F x0.N).bind fun x_2=>some x_2)
theorem uy {F:Nat} {x0:bz} {r:Int} (h:nZ F x0 = some r):aA Tryz.prog (bd mx) 39 [] [.agg (aE x0)] (Is [] (.b (.one (.i r)))):=by
 unfold nZ at h
 refine aA.intro 9 Tryz.func39 Tryz.ntmps39 rfl (by simp) fun E=>?_
 show ab _ E ⟨9,[],[]⟩ _ ⟨[(0,.b (.agg (aE x0)))],[]⟩ _
 refine ab.seq (ab.aa ?_)
 refine Oc (aL (k:=101) rfl rfl) (Oc oa ?_)
 refine ae.an ⟨[(1,Pt 101 0)],[(101,.box 27 (aE x0))]⟩ rfl (ab.seq (ab.seq (ab.aa ?_)))
 refine Oc (lp aC) ?_
 obtain ⟨x_1,e1,h⟩:=aD h
 refine Oc (ad (dp e1) j3 rfl rfl) (Oc (aT rfl) ?_)
 refine ae.an ⟨[(1,_),(5,B (!x_1))],[(101,_)]⟩ rfl (ab.ite h rfl (fun _ h=>?_) (fun _ h=>?_))
 ·refine ab.seq (ab.aa ?_)
  refine Oc oa (ae.an ⟨[(2,I 0)],[]⟩ rfl (ab.ret (Fin.aw ?_)))
  obtain rfl:=Option.some.inj h
  refine Fin.ag ⟨[(2,_)],[]⟩ rfl (Fin.aq [.one (.i 0)] (.inl rfl) rfl (.cons (.tmp rfl) .nil) ⟨rfl,rfl⟩)
 ·refine ab.skip (Fin.ag ⟨[(1,_)],[(101,_)]⟩ rfl (Fin.then (ab.seq (ab.aa ?_))))
  refine Oc (af bq rfl rfl) (Oc (lp aj) ?_)
  obtain ⟨x_2,e2,h⟩:=aD h
  refine Oc (ad (iN e2) sd rfl rfl) (Oc oa ?_)
  refine ae.an ⟨[(2,I x_2)],[]⟩ rfl (ab.ret ?_)
  obtain rfl:=Option.some.inj h
  refine Fin.ag ⟨[(2,_)],[]⟩ rfl (Fin.aq [.one (.i x_2)] (.inl rfl) rfl (.cons (.tmp rfl) .nil) ⟨rfl,rfl⟩)
def jR (F:Nat) (a0:az) (b0:az):Option (az × Int) :=
 (cY F [a0,b0]).bind fun x_1=>(bE x_1 (nZ F b0.V)).bind fun x_2=>if (x_1 && (decide (x_2 = 0))) = true then (bN (⟨(⟨(⟨false,false,aU.zero⟩:br),(⟨false,false,aU.zero⟩:br)⟩:bz),(⟨0,0,0⟩:aO)⟩:az) fun x_3=>some (x_3,31)) else (Option.bind (cL F (⟨21,27⟩:yQ) a0 b0) (b9 fun x_4 x_5=>some (x_4,x_5)))
theorem qP {F:Nat} {a0:az} {b0:az} {r:az × Int} (h:jR F a0 b0 = some r):aA Tryz.prog (bd mx) 40 [] [.agg (ao a0),.agg (ao b0)] (Is [] (.eY [.agg (ao r.1),.one (.i r.2)])):=by
 unfold jR at h
 refine aA.intro 23 Tryz.func40 Tryz.ntmps40 rfl (by simp) fun E=>?_
 show ab _ E ⟨23,[],[]⟩ _ ⟨[(0,.b (.agg (ao a0))),(1,.b (.agg (ao b0)))],[]⟩ _
 refine ab.seq (ab.aa ?_)
 refine Oc (aL (k:=101) rfl rfl) (Oc (aL (k:=102) rfl rfl) (Oc (aB (k:=103) dw rfl) (Oc oa ?_)))
 refine ae.an ⟨[(2,Pt 101 0),(3,Pt 102 0),(4,Pt 103 0)],[(101,.box 31 (ao a0)),(102,.box 31 (ao b0)),(103,.box 31 (.bool false :: .bool false :: (eW aU.zero ++ (.bool false :: .bool false :: (eW aU.zero ++ ([.i 0,.i 0,.i 0]))))))]⟩ rfl (ab.seq (ab.seq (ab.aa ?_)))
 refine Oc (lp aJ) (Oc (lp aJ) (Oc (bc (k:=104) (es:=[a0,b0].map ao) oC rfl rfl (cE fun _=>rfl) rfl (by decide) (by decide) rfl) ?_))
 obtain ⟨x_1,e1,h⟩:=aD h
 refine Oc (ep (fh e1) tL rfl CP.du) (ae.ag ⟨[(2,_),(3,_),(4,_),(9,B x_1)],[(101,_),(102,_),(103,_)]⟩ rfl (Oc om (cG x_1 [] (fun g2=>by exact trivial) (fun g2=>af bU rfl rfl) (cG x_1 [11] (fun g3=>by exact ⟨g3,trivial⟩) (fun g3=>lp aC) ?_))))
 obtain ⟨x_2,e5,h⟩:=aD h
 refine cG x_1 [12] (fun g4=>⟨g4,trivial⟩) (fun g4=>ad (uy (gc e5 g4)) D5 rfl rfl) (cG x_1 [13] (fun g6=>⟨g6,trivial⟩) (fun g6=>cR rfl rfl) (Oc (aG (fun e=>e) rfl rfl rfl rfl) (ae.an ⟨[(2,_),(3,_),(4,_),(15,B (x_1 && (decide (x_2 = 0))))],[(101,_),(102,_),(103,_)]⟩ rfl (ab.ite h rfl (fun _ h=>?_) (fun _ h=>?_)))))
 ·refine ab.seq (ab.aa ?_)
  refine ae.dO ao h rfl (aS dr rfl rfl) (fun x_3 h=>?_)
  refine Oc (ah aJ rfl rfl rfl rfl (Nat.le_of_ble_eq_true rfl) rfl) (Oc oa ?_)
  refine ae.an ⟨[(4,_),(5,I 31)],[(103,.box 31 (ao x_3))]⟩ rfl (ab.ret (Fin.aw ?_))
  obtain rfl:=Option.some.inj h
  refine Fin.ag ⟨[(4,_),(5,_)],[(103,_)]⟩ rfl (Fin.aq [.agg (ao x_3),.one (.i 31)] (.inl rfl) rfl (.cons (.agg aJ rfl rfl rfl rfl) (.cons (.tmp rfl) .nil)) ⟨rfl,rfl⟩)
 ·refine ab.skip (Fin.ag ⟨[(2,_),(3,_),(4,_)],[(101,_),(102,_),(103,_)]⟩ rfl (Fin.then (ab.seq (ab.aa ?_))))
  refine Oc (aS oX rfl rfl) (Oc (lp aJ) (Oc (lp aJ) ?_))
  obtain ⟨⟨x_4,x_5⟩,e7,h⟩:=aD h
  refine Oc (ad (fK e7) xT rfl rfl) (Oc (ay rfl rfl) ?_)
  refine ae.ag ⟨[(4,_),(20,.eY [.agg (ao x_4),.one (.i x_5)]),(21,.b (.agg (ao x_4)))],[(103,_)]⟩ rfl (Oc (ay rfl rfl) (Oc (ah aJ rfl rfl rfl rfl (Nat.le_of_ble_eq_true rfl) rfl) (Oc oa ?_)))
  refine ae.an ⟨[(4,_),(5,I x_5)],[(103,.box 31 (ao x_4))]⟩ rfl (ab.ret ?_)
  obtain rfl:=Option.some.inj h
  refine Fin.ag ⟨[(4,_),(5,_)],[(103,_)]⟩ rfl (Fin.aq [.agg (ao x_4),.one (.i x_5)] (.inl rfl) rfl (.cons (.agg aJ rfl rfl rfl rfl) (.cons (.tmp rfl) .nil)) ⟨rfl,rfl⟩)
def l6 (F:Nat) (x0:bz):Option Int :=
 (dX F x0).bind fun x_1=>if (!x_1) = true then (some 0) else ((fO F x0.N).bind fun x_2=>some x_2)
theorem tk {F:Nat} {x0:bz} {r:Int} (h:l6 F x0 = some r):aA Tryz.prog (bd mx) 97 [] [.agg (aE x0)] (Is [] (.b (.one (.i r)))):=by
 unfold l6 at h
 refine aA.intro 9 Tryz.func97 Tryz.ntmps97 rfl (by simp) fun E=>?_
 show ab _ E ⟨9,[],[]⟩ _ ⟨[(0,.b (.agg (aE x0)))],[]⟩ _
 refine ab.seq (ab.aa ?_)
 refine Oc (aL (k:=101) rfl rfl) (Oc oa ?_)
 refine ae.an ⟨[(1,Pt 101 0)],[(101,.box 27 (aE x0))]⟩ rfl (ab.seq (ab.seq (ab.aa ?_)))
 refine Oc (lp aC) ?_
 obtain ⟨x_1,e1,h⟩:=aD h
 refine Oc (ad (dD e1) lF rfl rfl) (Oc (aT rfl) ?_)
 refine ae.an ⟨[(1,_),(5,B (!x_1))],[(101,_)]⟩ rfl (ab.ite h rfl (fun _ h=>?_) (fun _ h=>?_))
 ·refine ab.seq (ab.aa ?_)
  refine Oc oa (ae.an ⟨[(2,I 0)],[]⟩ rfl (ab.ret (Fin.aw ?_)))
  obtain rfl:=Option.some.inj h
  refine Fin.ag ⟨[(2,_)],[]⟩ rfl (Fin.aq [.one (.i 0)] (.inl rfl) rfl (.cons (.tmp rfl) .nil) ⟨rfl,rfl⟩)
 ·refine ab.skip (Fin.ag ⟨[(1,_)],[(101,_)]⟩ rfl (Fin.then (ab.seq (ab.aa ?_))))
  refine Oc (af bq rfl rfl) (Oc (lp aj) ?_)
  obtain ⟨x_2,e2,h⟩:=aD h
  refine Oc (ad (gk e2) nj rfl rfl) (Oc oa ?_)
  refine ae.an ⟨[(2,I x_2)],[]⟩ rfl (ab.ret ?_)
  obtain rfl:=Option.some.inj h
  refine Fin.ag ⟨[(2,_)],[]⟩ rfl (Fin.aq [.one (.i x_2)] (.inl rfl) rfl (.cons (.tmp rfl) .nil) ⟨rfl,rfl⟩)
def fF (F:Nat) (u0:aO) (v0:aO):Option Made :=
 (bH F u0).bind fun x_1=>(bE (!(!x_1)) (bH F v0)).bind fun x_2=>if ((!x_1) || (!x_2)) = true then (some (⟨(⟨0,0,0⟩:aO),1⟩:Made)) else (bN (⟨IntKind.i64.wrap (u0.M - v0.M),IntKind.i64.wrap (u0.Kg - v0.Kg),IntKind.i64.wrap (u0.S - v0.S)⟩:aO) fun x_3=>(de F x_3).bind fun x_4=>some x_4)
theorem pC {F:Nat} {u0:aO} {v0:aO} {r:Made} (h:fF F u0 v0 = some r):aA Tryz.prog (bd mx) 30 [] [.agg (aP u0),.agg (aP v0)] (Is [] (.b (.agg (lI r)))):=by
 unfold fF at h
 refine aA.intro 31 Tryz.func30 Tryz.ntmps30 rfl (by simp) fun E=>?_
 show ab _ E ⟨31,[],[]⟩ _ ⟨[(0,.b (.agg (aP u0))),(1,.b (.agg (aP v0)))],[]⟩ _
 refine ab.seq (ab.aa ?_)
 refine Oc (aL (k:=101) rfl rfl) (Oc (aL (k:=102) rfl rfl) (Oc (aB (k:=103) ml rfl) ?_))
 refine ae.an ⟨[(2,Pt 101 0),(3,Pt 102 0),(4,Pt 103 0)],[(101,.box 29 (aP u0)),(102,.box 29 (aP v0)),(103,.box 57 [.i 0,.i 0,.i 0,.i 0])]⟩ rfl (ab.seq (ab.seq (ab.aa ?_)))
 refine Oc (lp aY) ?_
 obtain ⟨x_1,e1,h⟩:=aD h
 refine Oc (ad (cg e1) p6 rfl rfl) (Oc (aT rfl) (Oc om ?_))
 refine cx (!(!x_1)) [] (fun g2=>trivial) (fun g2=>lp aY) (ae.ag ⟨[(2,_),(3,_),(4,_),(8,B (!x_1)),(9,.dh (!(!x_1)) (.agg (aP v0)))],[(101,_),(102,_),(103,_)]⟩ rfl ?_)
 obtain ⟨x_2,e4,h⟩:=aD h
 refine cx (!(!x_1)) [9] (fun g3=>⟨g3,trivial⟩) (fun g3=>ad (cg (gc e4 g3)) p6 rfl rfl) (cx (!(!x_1)) [10] (fun g5=>⟨g5,trivial⟩) (fun g5=>aT rfl) (Oc (aQ (fun e=>by rw [e]; rfl) rfl rfl rfl rfl) (ae.an ⟨[(2,_),(3,_),(4,_),(12,B ((!x_1) || (!x_2)))],[(101,_),(102,_),(103,_)]⟩ rfl (ab.ite h rfl (fun _ h=>?_) (fun _ h=>?_)))))
 ·refine ab.seq (ab.aa ?_)
  refine Oc (aS n7 rfl rfl) (Oc (ah fJ rfl rfl rfl rfl (Nat.le_of_ble_eq_true rfl) rfl) ?_)
  refine ae.an ⟨[(4,_)],[(103,.box 57 [.i 0,.i 0,.i 0,.i 1])]⟩ rfl (ab.ret (Fin.aw ?_))
  obtain rfl:=Option.some.inj h
  refine Fin.ag ⟨[(4,_)],[(103,_)]⟩ rfl (Fin.aq [.agg [.i 0,.i 0,.i 0,.i 1]] (.inl rfl) rfl (.cons (.agg fJ rfl rfl rfl rfl) .nil) ⟨rfl,rfl⟩)
 ·refine ab.skip (Fin.ag ⟨[(2,_),(3,_),(4,_)],[(101,_),(102,_),(103,_)]⟩ rfl (Fin.then (ab.seq (ab.aa ?_))))
  refine Oc (af iz rfl rfl) (Oc (au bG rfl rfl rfl) (Oc (af iz rfl rfl) (Oc (au bG rfl rfl rfl) (Oc (b7 rfl rfl) (Oc (af iy rfl rfl) ?_)))))
  refine Oc (au bG rfl rfl rfl) (ae.ag ⟨[(2,_),(3,_),(4,_),(18,I (IntKind.i64.wrap (u0.M - v0.M))),(20,I u0.Kg)],[(101,_),(102,_),(103,_)]⟩ rfl (Oc (af iy rfl rfl) (Oc (au bG rfl rfl rfl) (Oc (b7 rfl rfl) (Oc (af iw rfl rfl) (Oc (au bG rfl rfl rfl) (Oc (af iw rfl rfl) ?_)))))))
  refine Oc (au bG rfl rfl rfl) (Oc (b7 rfl rfl) ?_)
  refine ae.ag ⟨[(4,_),(18,_),(23,I (IntKind.i64.wrap (u0.Kg - v0.Kg))),(28,I (IntKind.i64.wrap (u0.S - v0.S)))],[(103,_)]⟩ rfl (ae.dO aP h rfl (aS dV rfl rfl) (fun x_3 h=>?_))
  obtain ⟨x_4,e6,h⟩:=aD h
  refine Oc (ad (gN e6) As rfl rfl) (Oc (ah fJ rfl rfl rfl rfl (Nat.le_of_ble_eq_true rfl) rfl) ?_)
  refine ae.an ⟨[(4,_)],[(103,.box 57 (lI x_4))]⟩ rfl (ab.ret ?_)
  obtain rfl:=Option.some.inj h
  refine Fin.ag ⟨[(4,_)],[(103,_)]⟩ rfl (Fin.aq [.agg (lI x_4)] (.inl rfl) rfl (.cons (.agg fJ rfl rfl rfl rfl) .nil) ⟨rfl,rfl⟩)
def mn (F:Nat) (x0:bz) (y0:bz):Option bz :=
 (dX F y0).bind fun x_1=>if (!x_1) = true then ((kg F).bind fun x_2=>some x_2) else ((gH F y0.D y0.N).bind fun x_3=>(lc F x0 x_3).bind fun x_4=>some x_4)
theorem uq {F:Nat} {x0:bz} {y0:bz} {r:bz} (h:mn F x0 y0 = some r):aA Tryz.prog (bd mx) 57 [] [.agg (aE x0),.agg (aE y0)] (Is [] (.b (.agg (aE r)))):=by
 unfold mn at h
 refine aA.intro 16 Tryz.func57 Tryz.ntmps57 rfl (by simp) fun E=>?_
 show ab _ E ⟨16,[],[]⟩ _ ⟨[(0,.b (.agg (aE x0))),(1,.b (.agg (aE y0)))],[]⟩ _
 refine ab.seq (ab.aa ?_)
 refine Oc (aL (k:=101) rfl rfl) (Oc (aL (k:=102) rfl rfl) (Oc (aB (k:=103) bQ rfl) ?_))
 refine ae.an ⟨[(2,Pt 101 0),(3,Pt 102 0),(4,Pt 103 0)],[(101,.box 27 (aE x0)),(102,.box 27 (aE y0)),(103,.box 27 dM)]⟩ rfl (ab.seq (ab.seq (ab.aa ?_)))
 refine Oc (lp aC) ?_
 obtain ⟨x_1,e1,h⟩:=aD h
 refine Oc (ad (dD e1) lF rfl rfl) (Oc (aT rfl) ?_)
 refine ae.an ⟨[(2,_),(3,_),(4,_),(7,B (!x_1))],[(101,_),(102,_),(103,_)]⟩ rfl (ab.ite h rfl (fun _ h=>?_) (fun _ h=>?_))
 ·refine ab.seq (ab.aa ?_)
  obtain ⟨x_2,e2,h⟩:=aD h
  refine Oc (ad (lh e2) sU rfl rfl) (Oc (ah aC rfl rfl rfl rfl (Nat.le_of_ble_eq_true rfl) rfl) ?_)
  refine ae.an ⟨[(4,_)],[(103,.box 27 (aE x_2))]⟩ rfl (ab.ret (Fin.aw ?_))
  obtain rfl:=Option.some.inj h
  refine Fin.ag ⟨[(4,_)],[(103,_)]⟩ rfl (Fin.aq [.agg (aE x_2)] (.inl rfl) rfl (.cons (.agg aC rfl rfl rfl rfl) .nil) ⟨rfl,rfl⟩)
 ·refine ab.skip (Fin.ag ⟨[(2,_),(3,_),(4,_)],[(101,_),(102,_),(103,_)]⟩ rfl (Fin.then (ab.seq ?_)))
  refine ab.ag ⟨[(2,_),(3,_),(4,_)],[(101,_),(102,_),(103,_)]⟩ rfl ?_
  obtain ⟨x_3,e3,h⟩:=aD h
  obtain ⟨x_4,e4,h⟩:=aD h
  refine ab.bm mixed 7 [.b (.agg (aE x0)),Pt 102 18,.b (.agg (ar y0.D)),Pt 102 0,.b (.agg (ar y0.N)),.b (.agg (aE x_3)),.b (.agg (aE x_4))] [4] [103] (s':=⟨[(4,_)],[(103,.box 27 (aE x_4))]⟩) rfl ⟨fun _=>.p (lp aC),fun _=>.p (af aV rfl rfl),fun _=>.p (lp aj),fun _=>.p (af bq rfl rfl),fun _=>.p (lp aj),fun _=>.p (ad (gX e3) oL rfl rfl),fun _=>.p (ad (qD e4) Ar rfl rfl),trivial⟩ ⟨_,by exact .p (ah aC rfl rfl rfl rfl (Nat.le_of_ble_eq_true rfl) rfl),rfl⟩ rfl (ab.ret ?_)
  obtain rfl:=Option.some.inj h
  refine Fin.ag ⟨[(4,_)],[(103,_)]⟩ rfl (Fin.aq [.agg (aE x_4)] (.inl rfl) rfl (.cons (.agg aC rfl rfl rfl rfl) .nil) ⟨rfl,rfl⟩)
def eV (F:Nat) (a0:az) (b0:az):Option ug :=
 (bu F a0).bind fun x_1=>(bE (!(!x_1)) (bu F b0)).bind fun x_2=>if ((!x_1) || (!x_2)) = true then (bN (⟨(⟨(⟨(⟨false,false,aU.zero⟩:br),(⟨false,false,aU.zero⟩:br)⟩:bz),(⟨0,0,0⟩:aO)⟩:az),1⟩:ug) fun x_3=>some x_3) else ((l6 F b0.V).bind fun x_4=>if (decide (x_4 = 0)) = true then (bN (⟨(⟨(⟨(⟨false,false,aU.zero⟩:br),(⟨false,false,aU.zero⟩:br)⟩:bz),(⟨0,0,0⟩:aO)⟩:az),31⟩:ug) fun x_5=>some x_5) else ((fF F a0.U b0.U).bind fun x_6=>if (decide (x_6.E ≠ 0)) = true then (bN (⟨(⟨(⟨(⟨false,false,aU.zero⟩:br),(⟨false,false,aU.zero⟩:br)⟩:bz),(⟨0,0,0⟩:aO)⟩:az),x_6.E⟩:ug) fun x_7=>some x_7) else ((mn F a0.V b0.V).bind fun x_8=>(bL F x_8 x_6.U).bind fun x_9=>some x_9)))
theorem oo {F:Nat} {a0:az} {b0:az} {r:ug} (h:eV F a0 b0 = some r):aA Tryz.prog (bd mx) 45 [] [.agg (ao a0),.agg (ao b0)] (Is [] (.b (.agg (dZ r)))):=by
 unfold eV at h
 refine aA.intro 39 Tryz.func45 Tryz.ntmps45 rfl (by simp) fun E=>?_
 show ab _ E ⟨39,[],[]⟩ _ ⟨[(0,.b (.agg (ao a0))),(1,.b (.agg (ao b0)))],[]⟩ _
 refine ab.seq (ab.aa ?_)
 refine Oc (aL (k:=101) rfl rfl) (Oc (aL (k:=102) rfl rfl) (Oc (aB (k:=103) mj rfl) ?_))
 refine ae.an ⟨[(2,Pt 101 0),(3,Pt 102 0),(4,Pt 103 0)],[(101,.box 31 (ao a0)),(102,.box 31 (ao b0)),(103,.box 69 (.bool false :: .bool false :: (eW aU.zero ++ (.bool false :: .bool false :: (eW aU.zero ++ ([.i 0,.i 0,.i 0,.i 0]))))))]⟩ rfl (ab.seq (ab.seq (ab.aa ?_)))
 refine Oc (lp aJ) ?_
 obtain ⟨x_1,e1,h⟩:=aD h
 refine Oc (ad (bM e1) nK rfl rfl) (Oc (aT rfl) (Oc om ?_))
 refine cx (!(!x_1)) [] (fun g2=>trivial) (fun g2=>lp aJ) (ae.ag ⟨[(2,_),(3,_),(4,_),(9,B (!x_1)),(10,.dh (!(!x_1)) (.agg (ao b0)))],[(101,_),(102,_),(103,_)]⟩ rfl ?_)
 obtain ⟨x_2,e4,h⟩:=aD h
 refine cx (!(!x_1)) [10] (fun g3=>⟨g3,trivial⟩) (fun g3=>ad (bM (gc e4 g3)) nK rfl rfl) (cx (!(!x_1)) [11] (fun g5=>⟨g5,trivial⟩) (fun g5=>aT rfl) (Oc (aQ (fun e=>by rw [e]; rfl) rfl rfl rfl rfl) (ae.an ⟨[(2,_),(3,_),(4,_),(13,B ((!x_1) || (!x_2)))],[(101,_),(102,_),(103,_)]⟩ rfl (ab.ite h rfl (fun _ h=>?_) (fun _ h=>?_)))))
 ·refine ab.seq (ab.aa ?_)
  refine ae.dO dZ h rfl (aS fV rfl rfl) (fun x_3 h=>?_)
  refine Oc (ah cf rfl rfl rfl rfl (Nat.le_of_ble_eq_true rfl) rfl) (ae.an ⟨[(4,_)],[(103,.box 69 (dZ x_3))]⟩ rfl (ab.ret (Fin.aw ?_)))
  obtain rfl:=Option.some.inj h
  refine Fin.ag ⟨[(4,_)],[(103,_)]⟩ rfl (Fin.aq [.agg (dZ x_3)] (.inl rfl) rfl (.cons (.agg cf rfl rfl rfl rfl) .nil) ⟨rfl,rfl⟩)
 ·refine ab.skip (Fin.ag ⟨[(2,_),(3,_),(4,_)],[(101,_),(102,_),(103,_)]⟩ rfl (Fin.then (ab.seq (ab.seq (ab.aa ?_)))))
  refine Oc (af bU rfl rfl) (Oc (lp aC) ?_)
  obtain ⟨x_4,e6,h⟩:=aD h
  refine Oc (ad (tk e6) DU rfl rfl) (Oc (cR rfl rfl) ?_)
  refine ae.an ⟨[(2,_),(3,_),(4,_),(18,B (decide (x_4 = 0)))],[(101,_),(102,_),(103,_)]⟩ rfl (ab.ite h rfl (fun _ h=>?_) (fun _ h=>?_))
  ·refine ab.seq (ab.aa ?_)
   refine ae.dO dZ h rfl (aS fV rfl rfl) (fun x_5 h=>?_)
   refine Oc (ah cf rfl rfl rfl rfl (Nat.le_of_ble_eq_true rfl) rfl) (ae.an ⟨[(4,_)],[(103,.box 69 (dZ x_5))]⟩ rfl (ab.ret (Fin.aw ?_)))
   obtain rfl:=Option.some.inj h
   refine Fin.ag ⟨[(4,_)],[(103,_)]⟩ rfl (Fin.aq [.agg (dZ x_5)] (.inl rfl) rfl (.cons (.agg cf rfl rfl rfl rfl) .nil) ⟨rfl,rfl⟩)
  ·refine ab.skip (Fin.ag ⟨[(2,_),(3,_),(4,_)],[(101,_),(102,_),(103,_)]⟩ rfl (Fin.then (ab.seq (ab.aa ?_))))
   refine Oc (af cy rfl rfl) (Oc (lp aY) (Oc (af cy rfl rfl) (Oc (lp aY) ?_)))
   obtain ⟨x_6,e7,h⟩:=aD h
   refine Oc (ad (pC e7) goes30 rfl rfl) (Oc (aB (k:=104) ml rfl) (Oc (ah fJ rfl rfl rfl rfl (Nat.le_of_ble_eq_true rfl) rfl) ?_))
   refine ae.an ⟨[(2,_),(3,_),(4,_),(5,Pt 104 0)],[(101,_),(102,_),(103,_),(104,.box 57 (lI x_6))]⟩ rfl (ab.seq (ab.seq (ab.aa ?_)))
   refine Oc (af l4 rfl rfl) (Oc (au j9 rfl rfl rfl) (Oc (di rfl rfl) ?_))
   refine ae.an ⟨[(2,_),(3,_),(4,_),(5,_),(27,B (decide (x_6.E ≠ 0)))],[(101,_),(102,_),(103,_),(104,_)]⟩ rfl (ab.ite h rfl (fun _ h=>?_) (fun _ h=>?_))
   ·refine ab.seq (ab.aa ?_)
    refine Oc (af l4 rfl rfl) (Oc (au j9 rfl rfl rfl) ?_)
    refine ae.dO dZ h rfl (aS fV rfl rfl) (fun x_7 h=>?_)
    refine Oc (ah cf rfl rfl rfl rfl (Nat.le_of_ble_eq_true rfl) rfl) (ae.an ⟨[(4,_)],[(103,.box 69 (dZ x_7))]⟩ rfl (ab.ret (Fin.aw ?_)))
    obtain rfl:=Option.some.inj h
    refine Fin.ag ⟨[(4,_)],[(103,_)]⟩ rfl (Fin.aq [.agg (dZ x_7)] (.inl rfl) rfl (.cons (.agg cf rfl rfl rfl rfl) .nil) ⟨rfl,rfl⟩)
   ·refine ab.skip (Fin.ag ⟨[(2,_),(3,_),(4,_),(5,_)],[(101,_),(102,_),(103,_),(104,_)]⟩ rfl (Fin.then (ab.seq ?_)))
    refine ab.ag ⟨[(2,_),(3,_),(4,_),(5,_)],[(101,_),(102,_),(103,_),(104,_)]⟩ rfl ?_
    obtain ⟨x_8,e8,h⟩:=aD h
    obtain ⟨x_9,e9,h⟩:=aD h
    refine ab.bm mixed 8 [Pt 101 0,.b (.agg (aE a0.V)),Pt 102 0,.b (.agg (aE b0.V)),.b (.agg (aE x_8)),Pt 104 0,.b (.agg (aP x_6.U)),.b (.agg (dZ x_9))] [4] [103] (s':=⟨[(4,_)],[(103,.box 69 (dZ x_9))]⟩) rfl ⟨fun _=>.p (af bU rfl rfl),fun _=>.p (lp aC),fun _=>.p (af bU rfl rfl),fun _=>.p (lp aC),fun _=>.p (ad (uq e8) D3 rfl rfl),fun _=>.p (af tQ rfl rfl),fun _=>.p (lp aY),fun _=>.p (ad (c9 e9) vG rfl rfl),trivial⟩ ⟨_,by exact .p (ah cf rfl rfl rfl rfl (Nat.le_of_ble_eq_true rfl) rfl),rfl⟩ rfl (ab.ret ?_)
    obtain rfl:=Option.some.inj h
    refine Fin.ag ⟨[(4,_)],[(103,_)]⟩ rfl (Fin.aq [.agg (dZ x_9)] (.inl rfl) rfl (.cons (.agg cf rfl rfl rfl rfl) .nil) ⟨rfl,rfl⟩)
def mB (F:Nat) (u0:aO) (n0:Int):Option (aO × Int) :=
 Option.bind (eU F (⟨0,0,0⟩:aO) u0 n0) (b9 fun x_1 x_2=>some (x_1,x_2))
theorem wV {F:Nat} {u0:aO} {n0:Int} {r:aO × Int} (h:mB F u0 n0 = some r):aA Tryz.prog (bd mx) 28 [] [.agg (aP u0),.one (.i n0)] (Is [] (.eY [.agg (aP r.1),.one (.i r.2)])):=by
 unfold mB at h
 refine aA.intro 12 Tryz.func28 Tryz.ntmps28 rfl (by simp) fun E=>?_
 show ab _ E ⟨12,[],[]⟩ _ ⟨[(0,.b (.agg (aP u0))),(1,I n0)],[]⟩ _
 refine ab.seq (ab.aa ?_)
 refine Oc (aL (k:=101) rfl rfl) (Oc (aB (k:=102) k7 rfl) (Oc oa ?_))
 refine ae.an ⟨[(1,I n0),(2,Pt 101 0),(4,Pt 102 0)],[(101,.box 29 (aP u0)),(102,.box 29 [.i 0,.i 0,.i 0])]⟩ rfl (ab.seq (ab.aa ?_))
 refine Oc (aS dV rfl rfl) (Oc (lp aY) (Oc om ?_))
 obtain ⟨⟨x_1,x_2⟩,e1,h⟩:=aD h
 refine Oc (ad (iE e1) xV rfl rfl) (Oc (ay rfl rfl) ?_)
 refine ae.ag ⟨[(4,_),(9,.eY [.agg (aP x_1),.one (.i x_2)]),(10,.b (.agg (aP x_1)))],[(102,_)]⟩ rfl (Oc (ay rfl rfl) (Oc (ah aY rfl rfl rfl rfl (Nat.le_of_ble_eq_true rfl) rfl) (Oc oa ?_)))
 refine ae.an ⟨[(4,_),(5,I x_2)],[(102,.box 29 (aP x_1))]⟩ rfl (ab.ret ?_)
 obtain rfl:=Option.some.inj h
 refine Fin.ag ⟨[(4,_),(5,_)],[(102,_)]⟩ rfl (Fin.aq [.agg (aP x_1),.one (.i x_2)] (.inl rfl) rfl (.cons (.agg aY rfl rfl rfl rfl) (.cons (.tmp rfl) .nil)) ⟨rfl,rfl⟩)
def oc (F:Nat) (n0:br):Option bz :=
 (lN F).bind fun x_1=>(jn F n0 x_1).bind fun x_2=>some x_2
theorem yH {F:Nat} {n0:br} {r:bz} (h:oc F n0 = some r):aA Tryz.prog (bd mx) 73 [] [.agg (ar n0)] (Is [] (.b (.agg (aE r)))):=by
 unfold oc at h
 refine aA.intro 6 Tryz.func73 Tryz.ntmps73 rfl (by simp) fun E=>?_
 show ab _ E ⟨6,[],[]⟩ _ ⟨[(0,.b (.agg (ar n0)))],[]⟩ _
 refine ab.seq (ab.aa ?_)
 refine Oc (aL (k:=101) rfl rfl) (Oc (aB (k:=102) bQ rfl) ?_)
 refine ae.an ⟨[(1,Pt 101 0),(2,Pt 102 0)],[(101,.box 25 (ar n0)),(102,.box 27 dM)]⟩ rfl (ab.seq ?_)
 obtain ⟨x_1,e1,h⟩:=aD h
 obtain ⟨x_2,e2,h⟩:=aD h
 refine ab.bm mixed 3 [.b (.agg (ar n0)),.b (.agg (ar x_1)),.b (.agg (aE x_2))] [2] [102] (s':=⟨[(2,_)],[(102,.box 27 (aE x_2))]⟩) rfl ⟨fun _=>.p (lp aj),fun _=>.p (ad (mG e1) vH rfl rfl),fun _=>.p (ad (eg e2) lE rfl rfl),trivial⟩ ⟨_,by exact .p (ah aC rfl rfl rfl rfl (Nat.le_of_ble_eq_true rfl) rfl),rfl⟩ rfl (ab.ret ?_)
 obtain rfl:=Option.some.inj h
 refine Fin.ag ⟨[(2,_)],[(102,_)]⟩ rfl (Fin.aq [.agg (aE x_2)] (.inl rfl) rfl (.cons (.agg aC rfl rfl rfl rfl) .nil) ⟨rfl,rfl⟩)
def ly (F:Nat) (n0:Int):Option bz :=
 (jA F n0).bind fun x_1=>(oc F x_1).bind fun x_2=>some x_2
theorem kF {F:Nat} {n0:Int} {r:bz} (h:ly F n0 = some r):aA Tryz.prog (bd mx) 20 [] [.one (.i n0)] (Is [] (.b (.agg (aE r)))):=by
 unfold ly at h
 refine aA.intro 6 Tryz.func20 Tryz.ntmps20 rfl (by simp) fun E=>?_
 show ab _ E ⟨6,[],[]⟩ _ ⟨[(0,I n0)],[]⟩ _
 refine ab.seq (ab.aa ?_)
 refine Oc (aB (k:=101) bQ rfl) (ae.an ⟨[(0,I n0),(2,Pt 101 0)],[(101,.box 27 dM)]⟩ rfl (ab.seq (ab.aa ?_)))
 refine Oc om ?_
 obtain ⟨x_1,e1,h⟩:=aD h
 refine Oc (ad (il e1) nJ rfl rfl) ?_
 obtain ⟨x_2,e2,h⟩:=aD h
 refine Oc (ad (yH e2) goes73 rfl rfl) (Oc (ah aC rfl rfl rfl rfl (Nat.le_of_ble_eq_true rfl) rfl) ?_)
 refine ae.an ⟨[(2,_)],[(101,.box 27 (aE x_2))]⟩ rfl (ab.ret ?_)
 obtain rfl:=Option.some.inj h
 refine Fin.ag ⟨[(2,_)],[(101,_)]⟩ rfl (Fin.aq [.agg (aE x_2)] (.inl rfl) rfl (.cons (.agg aC rfl rfl rfl rfl) .nil) ⟨rfl,rfl⟩)
def kn (F:Nat) (x0:bz) (n0:Int):Option bz :=
 (ly F 1).bind fun x_1=>Option.bind (iter F (b9 fun out_3 x_4=>if (decide (x_4 < (max n0 (IntKind.i64.wrap (-n0))))) = true then ((lO F out_3 x0).bind fun x_6=>some (.inl (x_6,IntKind.i64.wrap (x_4 + 1)))) else (some (.inr out_3))) (x_1,0)) (fun out_2=>if (decide (n0 < 0)) = true then ((ly F 1).bind fun x_7=>(ng F x_7 out_2).bind fun x_8=>some x_8) else (some out_2))
theorem uN {F:Nat} {x0:bz} {n0:Int} {r:bz} (h:kn F x0 n0 = some r):aA Tryz.prog (bd mx) 98 [] [.agg (aE x0),.one (.i n0)] (Is [] (.b (.agg (aE r)))):=by
 unfold kn at h
 refine aA.intro 23 Tryz.func98 Tryz.ntmps98 rfl (by simp) fun E=>?_
 show ab _ E ⟨23,[],[]⟩ _ ⟨[(0,.b (.agg (aE x0))),(1,I n0)],[]⟩ _
 refine ab.seq (ab.aa ?_)
 refine Oc (aL (k:=101) rfl rfl) (Oc (aB (k:=102) bQ rfl) ?_)
 refine ae.an ⟨[(1,I n0),(2,Pt 101 0),(4,Pt 102 0)],[(101,.box 27 (aE x0)),(102,.box 27 dM)]⟩ rfl (ab.seq (ab.aa ?_))
 obtain ⟨x_1,e1,h⟩:=aD h
 refine Oc (ad (kF e1) se rfl rfl) (Oc (aB (k:=103) bQ rfl) (Oc (ah aC rfl rfl rfl rfl (Nat.le_of_ble_eq_true rfl) rfl) ?_))
 refine ae.an ⟨[(1,_),(2,_),(4,_),(5,Pt 103 0)],[(101,_),(102,_),(103,.box 27 (aE x_1))]⟩ rfl ?_
 obtain ⟨v2,h3,h⟩:=aD h
 refine ab.cB (v:=v2) (fun (out_2:bz)=>⟨[(1,I n0),(4,Pt 102 0),(5,Pt 103 0)],[(102,.box 27 dM),(103,.box 27 (aE out_2))]⟩) (fun z=>z) ?_ ?_
 ·refine ab.seq (ab.aa ?_)
  refine Oc om (Oc om (Oc (lz rfl) (Oc (tG rfl rfl) (Oc om ?_))))
  refine ae.an ⟨[(1,_),(2,_),(4,_),(5,_),(10,I (max n0 (IntKind.i64.wrap (-n0)))),(11,I 0)],[(101,_),(102,_),(103,_)]⟩ rfl (ab.block (ab.cW h3 (b9 fun (out_3:bz) (x_4:Int)=>⟨[(1,I n0),(2,Pt 101 0),(4,Pt 102 0),(5,Pt 103 0),(10,I (max n0 (IntKind.i64.wrap (-n0)))),(11,I x_4)],[(101,.box 27 (aE x0)),(102,.box 27 dM),(103,.box 27 (aE out_3))]⟩) [1,2,4,5,10,11] [101,102,103] rfl ?_))
  rintro ⟨out_3,x_4⟩ o4 h5 hy6
  refine ab.seq (ab.aa ?_)
  refine Oc (bP rfl rfl) (ae.an ⟨[(1,_),(2,_),(4,_),(5,_),(10,_),(11,_),(12,B (decide (x_4 < (max n0 (IntKind.i64.wrap (-n0))))))],[(101,_),(102,_),(103,_)]⟩ rfl (ab.seq (ab.ite h5 rfl (fun _ h5=>?_) (fun _ h5=>?_))))
  ·refine ab.skip (Fin.ag ⟨[(1,_),(2,_),(4,_),(5,_),(10,_),(11,_)],[(101,_),(102,_),(103,_)]⟩ rfl (Fin.then (ab.seq (ab.block (ab.aa ?_)))))
   refine Oc (lp aC) (Oc (lp aC) ?_)
   obtain ⟨x_6,e7,h5⟩:=aD h5
   refine Oc (ad (mH e7) vK rfl rfl) (Oc (ah aC rfl rfl rfl rfl (Nat.le_of_ble_eq_true rfl) rfl) ?_)
   refine ae.nil (Fin.aI (Fin.ag ⟨[(1,_),(2,_),(4,_),(5,_),(10,_),(11,_)],[(101,_),(102,_),(103,.box 27 (aE x_6))]⟩ rfl (Fin.then (ab.aa ?_))))
   refine Oc (bg rfl rfl) (Oc om ?_)
   refine ae.nil ?_
   exact Fin.b6 [1,2,4,5,10,11] [101,102,103] (x_6,IntKind.i64.wrap (x_4 + 1)) (Option.some.inj h5) rfl
  ·refine ab.exit (Fin.aF ?_)
   obtain rfl:=hy6 _ (Option.some.inj h5).symm
   refine Fin.aF (Fin.aX ?_)
   exact Fin.join [1,4,5] [102,103] out_3 rfl rfl
 ·rintro out_2 hv
  subst v2
  refine ab.seq (ab.seq (ab.aa ?_))
  refine Oc om (Oc (bP rfl rfl) ?_)
  refine ae.an ⟨[(4,_),(5,_),(18,B (decide (n0 < 0)))],[(102,_),(103,_)]⟩ rfl (ab.ite h rfl (fun _ h=>?_) (fun _ h=>?_))
  ·refine ab.seq (ab.ag ⟨[(4,_),(5,_)],[(102,_),(103,_)]⟩ rfl ?_)
   obtain ⟨x_7,e8,h⟩:=aD h
   obtain ⟨x_8,e9,h⟩:=aD h
   refine ab.bm mixed 3 [.b (.agg (aE x_7)),.b (.agg (aE out_2)),.b (.agg (aE x_8))] [4] [102] (s':=⟨[(4,_)],[(102,.box 27 (aE x_8))]⟩) rfl ⟨fun _=>.p (ad (kF e8) se rfl rfl),fun _=>.p (lp aC),fun _=>.p (ad (oZ e9) xX rfl rfl),trivial⟩ ⟨_,by exact .p (ah aC rfl rfl rfl rfl (Nat.le_of_ble_eq_true rfl) rfl),rfl⟩ rfl (ab.ret (Fin.aw ?_))
   obtain rfl:=Option.some.inj h
   refine Fin.ag ⟨[(4,_)],[(102,_)]⟩ rfl (Fin.aq [.agg (aE x_8)] (.inl rfl) rfl (.cons (.agg aC rfl rfl rfl rfl) .nil) ⟨rfl,rfl⟩)
  ·refine ab.skip (Fin.ag ⟨[(4,_),(5,_)],[(102,_),(103,_)]⟩ rfl (Fin.then (ab.seq (ab.aa ?_))))
   refine Oc (lp aC) (Oc (ah aC rfl rfl rfl rfl (Nat.le_of_ble_eq_true rfl) rfl) ?_)
   refine ae.an ⟨[(4,_)],[(102,.box 27 (aE out_2))]⟩ rfl (ab.ret ?_)
   obtain rfl:=Option.some.inj h
   refine Fin.ag ⟨[(4,_)],[(102,_)]⟩ rfl (Fin.aq [.agg (aE out_2)] (.inl rfl) rfl (.cons (.agg aC rfl rfl rfl rfl) .nil) ⟨rfl,rfl⟩)
def kp (F:Nat) (a0:az) (n0:Int):Option (az × Int) :=
 (cY F [a0]).bind fun x_1=>if (!x_1) = true then (bN (⟨(⟨(⟨false,false,aU.zero⟩:br),(⟨false,false,aU.zero⟩:br)⟩:bz),(⟨0,0,0⟩:aO)⟩:az) fun x_2=>some (x_2,1)) else (Option.bind (mB F a0.U n0) (b9 fun x_3 x_4=>if (decide (x_4 ≠ 0)) = true then (bN (⟨(⟨(⟨false,false,aU.zero⟩:br),(⟨false,false,aU.zero⟩:br)⟩:bz),(⟨0,0,0⟩:aO)⟩:az) fun x_5=>some (x_5,x_4)) else ((bE (decide (n0 < 0)) (nZ F a0.V)).bind fun x_6=>if ((decide (n0 < 0)) && (decide (x_6 = 0))) = true then (bN (⟨(⟨(⟨false,false,aU.zero⟩:br),(⟨false,false,aU.zero⟩:br)⟩:bz),(⟨0,0,0⟩:aO)⟩:az) fun x_7=>some (x_7,31)) else ((kn F a0.V n0).bind fun x_8=>Option.bind (fu F x_8 x_3) (b9 fun x_9 x_10=>some (x_9,x_10))))))
theorem uP {F:Nat} {a0:az} {n0:Int} {r:az × Int} (h:kp F a0 n0 = some r):aA Tryz.prog (bd mx) 46 [] [.agg (ao a0),.one (.i n0)] (Is [] (.eY [.agg (ao r.1),.one (.i r.2)])):=by
 unfold kp at h
 refine aA.intro 41 Tryz.func46 Tryz.ntmps46 rfl (by simp) fun E=>?_
 show ab _ E ⟨41,[],[]⟩ _ ⟨[(0,.b (.agg (ao a0))),(1,I n0)],[]⟩ _
 refine ab.seq (ab.aa ?_)
 refine Oc (aL (k:=101) rfl rfl) (Oc (aB (k:=102) dw rfl) (Oc oa ?_))
 refine ae.an ⟨[(1,I n0),(2,Pt 101 0),(4,Pt 102 0)],[(101,.box 31 (ao a0)),(102,.box 31 (.bool false :: .bool false :: (eW aU.zero ++ (.bool false :: .bool false :: (eW aU.zero ++ ([.i 0,.i 0,.i 0]))))))]⟩ rfl (ab.seq (ab.seq (ab.aa ?_)))
 refine Oc (lp aJ) (Oc (bc (k:=103) (es:=[a0].map ao) oC rfl rfl (cE fun _=>rfl) rfl (by decide) (by decide) rfl) ?_)
 obtain ⟨x_1,e1,h⟩:=aD h
 refine Oc (ep (fh e1) tL rfl CP.du) (Oc (aT rfl) ?_)
 refine ae.an ⟨[(1,_),(2,_),(4,_),(11,B (!x_1))],[(101,_),(102,_)]⟩ rfl (ab.ite h rfl (fun _ h=>?_) (fun _ h=>?_))
 ·refine ab.seq (ab.aa ?_)
  refine ae.dO ao h rfl (aS dr rfl rfl) (fun x_2 h=>?_)
  refine Oc (ah aJ rfl rfl rfl rfl (Nat.le_of_ble_eq_true rfl) rfl) (Oc oa ?_)
  refine ae.an ⟨[(4,_),(5,I 1)],[(102,.box 31 (ao x_2))]⟩ rfl (ab.ret (Fin.aw ?_))
  obtain rfl:=Option.some.inj h
  refine Fin.ag ⟨[(4,_),(5,_)],[(102,_)]⟩ rfl (Fin.aq [.agg (ao x_2),.one (.i 1)] (.inl rfl) rfl (.cons (.agg aJ rfl rfl rfl rfl) (.cons (.tmp rfl) .nil)) ⟨rfl,rfl⟩)
 ·refine ab.skip (Fin.ag ⟨[(1,_),(2,_),(4,_)],[(101,_),(102,_)]⟩ rfl (Fin.then (ab.seq (ab.aa ?_))))
  refine Oc (af cy rfl rfl) (Oc (lp aY) (Oc om ?_))
  obtain ⟨⟨x_3,x_4⟩,e2,h⟩:=aD h
  refine Oc (ad (wV e2) goes28 rfl rfl) (Oc om ?_)
  refine ae.ag ⟨[(1,_),(2,_),(4,_),(13,.eY [.agg (aP x_3),.one (.i x_4)])],[(101,_),(102,_)]⟩ rfl (Oc (ay rfl rfl) (Oc (ay rfl rfl) (Oc (aB (k:=104) k7 rfl) (Oc (ah aY rfl rfl rfl rfl (Nat.le_of_ble_eq_true rfl) rfl) (Oc oa ?_)))))
  refine ae.an ⟨[(1,_),(2,_),(4,_),(6,Pt 104 0),(7,I x_4)],[(101,_),(102,_),(104,.box 29 (aP x_3))]⟩ rfl (ab.seq (ab.seq (ab.aa ?_)))
  refine Oc om (Oc (di rfl rfl) ?_)
  refine ae.an ⟨[(1,_),(2,_),(4,_),(6,_),(7,_),(21,B (decide (x_4 ≠ 0)))],[(101,_),(102,_),(104,_)]⟩ rfl (ab.ite h rfl (fun _ h=>?_) (fun _ h=>?_))
  ·refine ab.seq (ab.aa ?_)
   refine ae.dO ao h rfl (aS dr rfl rfl) (fun x_5 h=>?_)
   refine Oc om (Oc (ah aJ rfl rfl rfl rfl (Nat.le_of_ble_eq_true rfl) rfl) (Oc oa ?_))
   refine ae.an ⟨[(4,_),(5,I x_4)],[(102,.box 31 (ao x_5))]⟩ rfl (ab.ret (Fin.aw ?_))
   obtain rfl:=Option.some.inj h
   refine Fin.ag ⟨[(4,_),(5,_)],[(102,_)]⟩ rfl (Fin.aq [.agg (ao x_5),.one (.i x_4)] (.inl rfl) rfl (.cons (.agg aJ rfl rfl rfl rfl) (.cons (.tmp rfl) .nil)) ⟨rfl,rfl⟩)
  ·refine ab.skip (Fin.ag ⟨[(1,_),(2,_),(4,_),(6,_)],[(101,_),(102,_),(104,_)]⟩ rfl (Fin.then (ab.seq (ab.seq (ab.aa ?_)))))
   refine Oc om (Oc (bP rfl rfl) (Oc om ?_))
   refine cG (decide (n0 < 0)) [] (fun g3=>trivial) (fun g3=>af bU rfl rfl) (cG (decide (n0 < 0)) [27] (fun g4=>⟨g4,trivial⟩) (fun g4=>lp aC) (ae.ag ⟨[(1,_),(2,_),(4,_),(6,_),(26,B (decide (n0 < 0))),(28,.dh (decide (n0 < 0)) (.agg (aE a0.V)))],[(101,_),(102,_),(104,_)]⟩ rfl ?_))
   obtain ⟨x_6,e6,h⟩:=aD h
   refine cG (decide (n0 < 0)) [28] (fun g5=>⟨g5,trivial⟩) (fun g5=>ad (uy (gc e6 g5)) D5 rfl rfl) (cG (decide (n0 < 0)) [29] (fun g7=>⟨g7,trivial⟩) (fun g7=>cR rfl rfl) (Oc (aG (fun e=>e) rfl rfl rfl rfl) (ae.an ⟨[(1,_),(2,_),(4,_),(6,_),(31,B ((decide (n0 < 0)) && (decide (x_6 = 0))))],[(101,_),(102,_),(104,_)]⟩ rfl (ab.ite h rfl (fun _ h=>?_) (fun _ h=>?_)))))
   ·refine ab.seq (ab.aa ?_)
    refine ae.dO ao h rfl (aS dr rfl rfl) (fun x_7 h=>?_)
    refine Oc (ah aJ rfl rfl rfl rfl (Nat.le_of_ble_eq_true rfl) rfl) (Oc oa ?_)
    refine ae.an ⟨[(4,_),(5,I 31)],[(102,.box 31 (ao x_7))]⟩ rfl (ab.ret (Fin.aw ?_))
    obtain rfl:=Option.some.inj h
    refine Fin.ag ⟨[(4,_),(5,_)],[(102,_)]⟩ rfl (Fin.aq [.agg (ao x_7),.one (.i 31)] (.inl rfl) rfl (.cons (.agg aJ rfl rfl rfl rfl) (.cons (.tmp rfl) .nil)) ⟨rfl,rfl⟩)
   ·refine ab.skip (Fin.ag ⟨[(1,_),(2,_),(4,_),(6,_)],[(101,_),(102,_),(104,_)]⟩ rfl (Fin.then (ab.seq ?_)))
    refine ab.ag ⟨[(1,_),(2,_),(4,_),(6,_)],[(101,_),(102,_),(104,_)]⟩ rfl ?_
    obtain ⟨x_8,e8,h⟩:=aD h
    obtain ⟨⟨x_9,x_10⟩,e9,h⟩:=aD h
    refine ab.bm mixed 8 [Pt 101 0,.b (.agg (aE a0.V)),I n0,.b (.agg (aE x_8)),.b (.agg (aP x_3)),.eY [.agg (ao x_9),.one (.i x_10)],.b (.agg (ao x_9)),I x_10] [4,5] [102] (s':=⟨[(4,_),(5,I x_10)],[(102,.box 31 (ao x_9))]⟩) rfl ⟨fun _=>.p (af bU rfl rfl),fun _=>.p (lp aC),fun _=>.p om,fun _=>.p (ad (uN e8) goes98 rfl rfl),fun _=>.p (lp aY),fun _=>.p (ad (jI e9) Ax rfl rfl),fun _=>.p (ay rfl rfl),fun _=>.p (ay rfl rfl),trivial⟩ ⟨_,by exact .p (ah aJ rfl rfl rfl rfl (Nat.le_of_ble_eq_true rfl) rfl),⟨_,by exact .p oa,rfl⟩⟩ rfl (ab.ret ?_)
    obtain rfl:=Option.some.inj h
    refine Fin.ag ⟨[(4,_),(5,_)],[(102,_)]⟩ rfl (Fin.aq [.agg (ao x_9),.one (.i x_10)] (.inl rfl) rfl (.cons (.agg aJ rfl rfl rfl rfl) (.cons (.tmp rfl) .nil)) ⟨rfl,rfl⟩)
def fD (F:Nat) (u0:aO) (n0:Int):Option Made :=
 (bH F u0).bind fun x_1=>(bE (!(!x_1)) (c8 F n0)).bind fun x_2=>if ((!x_1) || (!x_2)) = true then (some (⟨(⟨0,0,0⟩:aO),1⟩:Made)) else (bN (⟨IntKind.i64.wrap (n0 * u0.M),IntKind.i64.wrap (n0 * u0.Kg),IntKind.i64.wrap (n0 * u0.S)⟩:aO) fun x_3=>(de F x_3).bind fun x_4=>some x_4)
theorem pA {F:Nat} {u0:aO} {n0:Int} {r:Made} (h:fD F u0 n0 = some r):aA Tryz.prog (bd mx) 31 [] [.agg (aP u0),.one (.i n0)] (Is [] (.b (.agg (lI r)))):=by
 unfold fD at h
 refine aA.intro 28 Tryz.func31 Tryz.ntmps31 rfl (by simp) fun E=>?_
 show ab _ E ⟨28,[],[]⟩ _ ⟨[(0,.b (.agg (aP u0))),(1,I n0)],[]⟩ _
 refine ab.seq (ab.aa ?_)
 refine Oc (aL (k:=101) rfl rfl) (Oc (aB (k:=102) ml rfl) ?_)
 refine ae.an ⟨[(1,I n0),(2,Pt 101 0),(4,Pt 102 0)],[(101,.box 29 (aP u0)),(102,.box 57 [.i 0,.i 0,.i 0,.i 0])]⟩ rfl (ab.seq (ab.seq (ab.aa ?_)))
 refine Oc (lp aY) ?_
 obtain ⟨x_1,e1,h⟩:=aD h
 refine Oc (ad (cg e1) p6 rfl rfl) (Oc (aT rfl) (Oc om ?_))
 refine cx (!(!x_1)) [] (fun g2=>trivial) (fun g2=>om) (ae.ag ⟨[(1,_),(2,_),(4,_),(8,B (!x_1)),(9,.dh (!(!x_1)) (.one (.i n0)))],[(101,_),(102,_)]⟩ rfl ?_)
 obtain ⟨x_2,e4,h⟩:=aD h
 refine cx (!(!x_1)) [9] (fun g3=>⟨g3,trivial⟩) (fun g3=>ad (eO (gc e4 g3)) xU rfl rfl) (cx (!(!x_1)) [10] (fun g5=>⟨g5,trivial⟩) (fun g5=>aT rfl) (Oc (aQ (fun e=>by rw [e]; rfl) rfl rfl rfl rfl) (ae.an ⟨[(1,_),(2,_),(4,_),(12,B ((!x_1) || (!x_2)))],[(101,_),(102,_)]⟩ rfl (ab.ite h rfl (fun _ h=>?_) (fun _ h=>?_)))))
 ·refine ab.seq (ab.aa ?_)
  refine Oc (aS n7 rfl rfl) (Oc (ah fJ rfl rfl rfl rfl (Nat.le_of_ble_eq_true rfl) rfl) ?_)
  refine ae.an ⟨[(4,_)],[(102,.box 57 [.i 0,.i 0,.i 0,.i 1])]⟩ rfl (ab.ret (Fin.aw ?_))
  obtain rfl:=Option.some.inj h
  refine Fin.ag ⟨[(4,_)],[(102,_)]⟩ rfl (Fin.aq [.agg [.i 0,.i 0,.i 0,.i 1]] (.inl rfl) rfl (.cons (.agg fJ rfl rfl rfl rfl) .nil) ⟨rfl,rfl⟩)
 ·refine ab.skip (Fin.ag ⟨[(1,_),(2,_),(4,_)],[(101,_),(102,_)]⟩ rfl (Fin.then (ab.seq (ab.aa ?_))))
  refine Oc om (Oc (af iz rfl rfl) (Oc (au bG rfl rfl rfl) (Oc (eP rfl rfl) (Oc om (Oc (af iy rfl rfl) ?_)))))
  refine Oc (au bG rfl rfl rfl) (ae.ag ⟨[(1,_),(2,_),(4,_),(17,I (IntKind.i64.wrap (n0 * u0.M))),(18,I n0),(20,I u0.Kg)],[(101,_),(102,_)]⟩ rfl (Oc (eP rfl rfl) (Oc om (Oc (af iw rfl rfl) (Oc (au bG rfl rfl rfl) (Oc (eP rfl rfl) ?_))))))
  refine ae.dO aP h rfl (aS dV rfl rfl) (fun x_3 h=>?_)
  obtain ⟨x_4,e6,h⟩:=aD h
  refine Oc (ad (gN e6) As rfl rfl) (Oc (ah fJ rfl rfl rfl rfl (Nat.le_of_ble_eq_true rfl) rfl) ?_)
  refine ae.an ⟨[(4,_)],[(102,.box 57 (lI x_4))]⟩ rfl (ab.ret ?_)
  obtain rfl:=Option.some.inj h
  refine Fin.ag ⟨[(4,_)],[(102,_)]⟩ rfl (Fin.aq [.agg (lI x_4)] (.inl rfl) rfl (.cons (.agg fJ rfl rfl rfl rfl) .nil) ⟨rfl,rfl⟩)
def kT (F:Nat) (n0:Int):Option bz :=
 (gQ F n0).bind fun x_1=>(k9 F).bind fun x_2=>(gH F x_1 x_2).bind fun x_3=>some x_3
theorem so {F:Nat} {n0:Int} {r:bz} (h:kT F n0 = some r):aA Tryz.prog (bd mx) 52 [] [.one (.i n0)] (Is [] (.b (.agg (aE r)))):=by
 unfold kT at h
 refine aA.intro 7 Tryz.func52 Tryz.ntmps52 rfl (by simp) fun E=>?_
 show ab _ E ⟨7,[],[]⟩ _ ⟨[(0,I n0)],[]⟩ _
 refine ab.seq (ab.aa ?_)
 refine Oc (aB (k:=101) bQ rfl) (ae.an ⟨[(0,I n0),(2,Pt 101 0)],[(101,.box 27 dM)]⟩ rfl (ab.seq (ab.aa ?_)))
 refine Oc om ?_
 obtain ⟨x_1,e1,h⟩:=aD h
 refine Oc (ad (gp e1) kX rfl rfl) ?_
 obtain ⟨x_2,e2,h⟩:=aD h
 refine Oc (ad (nB e2) ve rfl rfl) ?_
 obtain ⟨x_3,e3,h⟩:=aD h
 refine Oc (ad (gX e3) oL rfl rfl) (Oc (ah aC rfl rfl rfl rfl (Nat.le_of_ble_eq_true rfl) rfl) ?_)
 refine ae.an ⟨[(2,_)],[(101,.box 27 (aE x_3))]⟩ rfl (ab.ret ?_)
 obtain rfl:=Option.some.inj h
 refine Fin.ag ⟨[(2,_)],[(101,_)]⟩ rfl (Fin.aq [.agg (aE x_3)] (.inl rfl) rfl (.cons (.agg aC rfl rfl rfl rfl) .nil) ⟨rfl,rfl⟩)
end Go.Proofs.YtcbbilehdaaffaaGreatDoor

