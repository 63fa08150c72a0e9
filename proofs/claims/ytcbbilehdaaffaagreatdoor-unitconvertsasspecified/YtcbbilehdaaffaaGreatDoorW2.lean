/- printed walks -/
import Derived.Test.YtcbbilehdaaffaaGreatDoorW1
namespace Go.Proofs.YtcbbilehdaaffaaGreatDoor
open Go.Sk
set_option maxHeartbeats 1000000
set_option maxRecDepth 4000
set_option linter.unusedSimpArgs false
set_option linter.unusedVariables false
variable {mx : Int}
def ic (F:Nat) (fn0:Nat) (x0:bN) (y0:bN):Option bN :=
 if fn0 = 22 then qZ F x0 y0 else if fn0 = 94 then wg F x0 y0 else if fn0 = 25 then lZ F x0 y0 else if fn0 = 21 then nq F x0 y0 else none
theorem qf {F:Nat} {fn0:Nat} {x0:bN} {y0:bN} {r:bN} (h:ic F fn0 x0 y0 = some r):az Tryz.prog (bj mx) fn0 [] [.agg (aI x0),.agg (aI y0)] (Is [] (.b (.agg (aI r)))):=by
 unfold ic at h
 split at h
 ·next e=>subst e; exact qK h
 ·next=>
  split at h
  ·next e=>subst e; exact zE h
  ·next=>
   split at h
   ·next e=>subst e; exact nK h
   ·next=>
    split at h
    ·next e=>subst e; exact qJ h
    ·next=>
     simp at h
theorem qg {F:Nat} {fn0:Nat} {x0:bN} {y0:bN} {r:bN} (h:ic F fn0 x0 y0 = some r):bn Tryz.prog fn0:=by
 unfold ic at h
 split at h
 ·next e=>subst e; exact y7
 ·next=>
  split at h
  ·next e=>subst e; exact goes94
  ·next=>
   split at h
   ·next e=>subst e; exact vO
   ·next=>
    split at h
    ·next e=>subst e; exact y8
    ·next=>
     simp at h
def nQ (F:Nat) (u0:aX) (v0:aX):Option (aX × Int) :=
 if (decide (u0 ≠ v0)) = true then (some ((⟨0,0,0⟩:aX),110)) else (some (u0,0))
theorem s3 {F:Nat} {u0:aX} {v0:aX} {r:aX × Int} (h:nQ F u0 v0 = some r):az Tryz.prog (bj mx) 87 [] [.agg (aZ u0),.agg (aZ v0)] (Is [] (.fE [.agg (aZ r.1),.one (.i r.2)])):=by
 unfold nQ at h
 refine az.intro 11 Tryz.func87 Tryz.ntmps87 rfl (by simp) fun E=>?_
 show ab _ E ⟨11,[],[]⟩ _ ⟨[(0,.b (.agg (aZ u0))),(1,.b (.agg (aZ v0)))],[]⟩ _
 refine ab.seq (ab.aa ?_)
 refine Oc (aS (k:=101) rfl rfl) (Oc (aS (k:=102) rfl rfl) (Oc (aA (k:=103) lr rfl) (Oc oa ?_)))
 refine ad.aj ⟨[(2,Pt 101 0),(3,Pt 102 0),(4,Pt 103 0)],[(101,.box 29 (aZ u0)),(102,.box 29 (aZ v0)),(103,.box 29 [.i 0,.i 0,.i 0])]⟩ rfl (ab.seq (ab.seq (ab.aa ?_)))
 refine Oc (lp bz) (Oc (lp bz) (Oc (hZ (tv u0 v0) rfl rfl l5) ?_))
 refine ad.aj ⟨[(2,_),(4,_),(8,B (decide (u0 ≠ v0)))],[(101,_),(103,_)]⟩ rfl (ab.ite h rfl (fun _ h=>?_) (fun _ h=>?_))
 ·refine ab.seq (ab.aa ?_)
  refine Oc (aV ff rfl rfl) (Oc (ag bz rfl rfl rfl rfl (Nat.le_of_ble_eq_true rfl) rfl) (Oc oa ?_))
  refine ad.aj ⟨[(4,_),(5,I 110)],[(103,_)]⟩ rfl (ab.ret (Fin.ar ?_))
  obtain rfl:=Option.some.inj h
  refine Fin.ah ⟨[(4,_),(5,_)],[(103,_)]⟩ rfl (Fin.aq [.agg [.i 0,.i 0,.i 0],.one (.i 110)] (.inl rfl) rfl (.cons (.agg bz rfl rfl rfl rfl) (.cons (.tmp rfl) .nil)) ⟨rfl,rfl⟩)
 ·refine ab.skip (Fin.ah ⟨[(2,_),(4,_)],[(101,_),(103,_)]⟩ rfl (Fin.then (ab.seq (ab.aa ?_))))
  refine Oc (lp bz) (Oc (ag bz rfl rfl rfl rfl (Nat.le_of_ble_eq_true rfl) rfl) (Oc oa ?_))
  refine ad.aj ⟨[(4,_),(5,I 0)],[(103,.box 29 (aZ u0))]⟩ rfl (ab.ret ?_)
  obtain rfl:=Option.some.inj h
  refine Fin.ah ⟨[(4,_),(5,_)],[(103,_)]⟩ rfl (Fin.aq [.agg (aZ u0),.one (.i 0)] (.inl rfl) rfl (.cons (.agg bz rfl rfl rfl rfl) (.cons (.tmp rfl) .nil)) ⟨rfl,rfl⟩)
def gl (F:Nat) (u0:aX):Option A3 :=
 some (⟨u0.M,u0.Kg,u0.S⟩:A3)
theorem kE {F:Nat} {u0:aX} {r:A3} (h:gl F u0 = some r):az Tryz.prog (bj mx) 71 [] [.agg (aZ u0)] (Is [] (.b (.agg ((eA3 .i64) r)))):=by
 unfold gl at h
 refine az.intro 10 Tryz.func71 Tryz.ntmps71 rfl (by simp) fun E=>?_
 show ab _ E ⟨10,[],[]⟩ _ ⟨[(0,.b (.agg (aZ u0)))],[]⟩ _
 refine ab.seq (ab.aa ?_)
 refine Oc (aS (k:=101) rfl rfl) (Oc (aA (k:=102) Dh rfl) ?_)
 refine ad.aj ⟨[(1,Pt 101 0),(2,Pt 102 0)],[(101,.box 29 (aZ u0)),(102,.box 97 ((eA3 .i64) A3.zero))]⟩ rfl (ab.seq (ab.aa ?_))
 refine Oc (af kZ rfl rfl) (Oc (ax bW rfl rfl rfl) (Oc (af kY rfl rfl) (Oc (ax bW rfl rfl rfl) (Oc (af kX rfl rfl) (Oc (ax bW rfl rfl rfl) ?_)))))
 refine Oc (fg BC rfl rfl) (Oc (ag Ai rfl rfl rfl rfl (Nat.le_of_ble_eq_true rfl) rfl) ?_)
 refine ad.aj ⟨[(2,_)],[(102,.box 97 (aZ u0))]⟩ rfl (ab.ret ?_)
 obtain rfl:=Option.some.inj h
 refine Fin.ah ⟨[(2,_)],[(102,_)]⟩ rfl (Fin.aq [.agg (aZ u0)] (.inl rfl) rfl (.cons (.agg Ai rfl rfl rfl rfl) .nil) ⟨rfl,rfl⟩)
def iA (F:Nat) (n0:Int):Option Bool :=
 some ((decide ((-16) ≤ n0)) && (decide (n0 ≤ 16)))
theorem n5 {F:Nat} {n0:Int} {r:Bool} (h:iA F n0 = some r):az Tryz.prog (bj mx) 85 [] [.one (.i n0)] (Is [] (.b (.one (.bool r)))):=by
 unfold iA at h
 refine az.intro 9 Tryz.func85 Tryz.ntmps85 rfl (by simp) fun E=>?_
 show ab _ E ⟨9,[],[]⟩ _ ⟨[(0,I n0)],[]⟩ _
 refine ab.seq (ab.aa ?_)
 refine Oc oa (ad.aj ⟨[(0,I n0)],[]⟩ rfl (ab.seq (ab.aa ?_)))
 refine Oc om (Oc (fy rfl rfl) (Oc om ?_))
 refine bU (decide ((-16) ≤ n0)) [] (fun g1=>trivial) (fun g1=>om) (bU (decide ((-16) ≤ n0)) [6] (fun g2=>by exact ⟨g2,trivial⟩) (fun g2=>lh rfl rfl) (Oc (aD (fun e=>e) rfl rfl rfl rfl) (Oc oa ?_)))
 refine ad.aj ⟨[(2,B ((decide ((-16) ≤ n0)) && (decide (n0 ≤ 16))))],[]⟩ rfl (ab.ret ?_)
 obtain rfl:=Option.some.inj h
 refine Fin.ah ⟨[(2,_)],[]⟩ rfl (Fin.aq [.one (.bool ((decide ((-16) ≤ n0)) && (decide (n0 ≤ 16))))] (.inl rfl) rfl (.cons (.tmp rfl) .nil) ⟨rfl,rfl⟩)
def dj (F:Nat) (u0:aX):Option Bool :=
 Option.bind ((gl F u0).bind fun x_1=>iter F (fun x_2=>if (decide (x_2 < 3)) = true then ((bB x_1.l x_2).bind fun x_3=>(iA F x_3).bind fun x_4=>if (!x_4) = true then (some (.inr (.inr false))) else (some (.inl (IntKind.i64.wrap (x_2 + 1))))) else (some (.inr (.inl ())))) 0) (j4 (fun _=>some true) (fun y=>some y))
theorem gM {F:Nat} {u0:aX} {r:Bool} (h:dj F u0 = some r):az Tryz.prog (bj mx) 32 [] [.agg (aZ u0)] (Is [] (.b (.one (.bool r)))):=by
 unfold dj at h
 refine az.intro 14 Tryz.func32 Tryz.ntmps32 rfl (by simp) fun E=>?_
 show ab _ E ⟨14,[],[]⟩ _ ⟨[(0,.b (.agg (aZ u0)))],[]⟩ _
 refine ab.seq (ab.aa ?_)
 refine Oc (aS (k:=101) rfl rfl) (Oc oa ?_)
 refine ad.aj ⟨[(1,Pt 101 0)],[(101,.box 29 (aZ u0))]⟩ rfl ?_
 obtain ⟨v1,h2,h⟩:=aE h
 refine ab.cB (v:=v1) (fun (_:Unit)=>⟨[],[]⟩) (fun z=>.inl z) ?_ ?_
 ·refine ab.seq (ab.aa ?_)
  refine Oc (lp bz) ?_
  obtain ⟨x_1,e3,h2⟩:=aE h2
  refine Oc (ae (kE e3) CY rfl rfl) (Oc om ?_)
  refine ad.aj ⟨[(6,.b (.agg ((eA3 .i64) x_1))),(7,I 0)],[]⟩ rfl (ab.block (ab.cS h2 (fun (x_2:Int)=>⟨[(6,.b (.agg ((eA3 .i64) x_1))),(7,I x_2)],[]⟩) [6,7] [] rfl ?_))
  rintro x_2 o4 h5 hy6
  refine ab.seq (ab.aa ?_)
  refine Oc (bK rfl rfl) (ad.aj ⟨[(6,_),(7,_),(8,B (decide (x_2 < 3)))],[]⟩ rfl (ab.seq (ab.ite h5 rfl (fun _ h5=>?_) (fun _ h5=>?_))))
  ·refine ab.skip (Fin.ah ⟨[(6,_),(7,_)],[]⟩ rfl (Fin.then (ab.seq (ab.block (ab.seq (ab.aa ?_))))))
   obtain ⟨x_3,e7,h5⟩:=aE h5
   refine Oc (o9 (m:=3) Ah bW rfl rfl (bp e7) (b9 e7) (fZ (e:=CP.int .i64) e7)) (Oc oa ?_)
   refine ad.aj ⟨[(4,I x_3),(6,_),(7,_)],[]⟩ rfl (ab.seq (ab.aa ?_))
   refine Oc om ?_
   obtain ⟨x_4,e8,h5⟩:=aE h5
   refine Oc (ae (n5 e8) CW rfl rfl) (Oc (bq rfl) ?_)
   refine ad.aj ⟨[(6,_),(7,_),(12,B (!x_4))],[]⟩ rfl (ab.ite h5 rfl (fun _ h5=>?_) (fun _ h5=>?_))
   ·refine ab.seq (ab.aa ?_)
    refine Oc oa (ad.aj ⟨[(2,B false)],[]⟩ rfl (ab.ret (Fin.aL (Fin.ar ?_))))
    obtain rfl:=hy6 _ (Option.some.inj h5).symm
    refine Fin.ar (Fin.aL (Fin.ar ?_))
    obtain rfl:=Option.some.inj h
    refine Fin.ah ⟨[(2,_)],[]⟩ rfl (Fin.aq [.one (.bool false)] (.inl rfl) rfl (.cons (.tmp rfl) .nil) ⟨rfl,rfl⟩)
   ·refine ab.skip (Fin.aH (Fin.ah ⟨[(6,_),(7,_)],[]⟩ rfl (Fin.then (ab.aa ?_))))
    refine Oc (bb rfl rfl) (Oc om ?_)
    refine ad.nil ?_
    exact Fin.bR [6,7] [] (IntKind.i64.wrap (x_2 + 1)) (Option.some.inj h5) rfl
  ·refine ab.exit (Fin.aG ?_)
   obtain rfl:=hy6 _ (Option.some.inj h5).symm
   refine Fin.aG (Fin.aY ?_)
   exact Fin.join [] [] () rfl rfl
 ·rintro _ hv
  subst v1
  refine ab.seq (ab.aa ?_)
  refine Oc oa (ad.aj ⟨[(2,B true)],[]⟩ rfl (ab.ret ?_))
  obtain rfl:=Option.some.inj h
  refine Fin.ah ⟨[(2,_)],[]⟩ rfl (Fin.aq [.one (.bool true)] (.inl rfl) rfl (.cons (.tmp rfl) .nil) ⟨rfl,rfl⟩)
def fl (F:Nat) (u0:aX) (v0:aX) (n0:Int):Option (aX × Int) :=
 (dj F u0).bind fun x_1=>(bA (!(!x_1)) (dj F v0)).bind fun x_2=>(bA (!((!x_1) || (!x_2))) (iA F n0)).bind fun x_3=>if (((!x_1) || (!x_2)) || (!x_3)) = true then (some ((⟨0,0,0⟩:aX),1)) else (bD (IntKind.i64.wrap (u0.M + (IntKind.i64.wrap (n0 * v0.M)))) fun x_4=>bD (IntKind.i64.wrap (u0.Kg + (IntKind.i64.wrap (n0 * v0.Kg)))) fun x_5=>bD (IntKind.i64.wrap (u0.S + (IntKind.i64.wrap (n0 * v0.S)))) fun x_6=>(dj F (⟨x_4,x_5,x_6⟩:aX)).bind fun x_7=>if (!x_7) = true then (some ((⟨0,0,0⟩:aX),2)) else (some ((⟨x_4,x_5,x_6⟩:aX),0)))
theorem jG {F:Nat} {u0:aX} {v0:aX} {n0:Int} {r:aX × Int} (h:fl F u0 v0 n0 = some r):az Tryz.prog (bj mx) 82 [] [.agg (aZ u0),.agg (aZ v0),.one (.i n0)] (Is [] (.fE [.agg (aZ r.1),.one (.i r.2)])):=by
 unfold fl at h
 refine az.intro 50 Tryz.func82 Tryz.ntmps82 rfl (by simp) fun E=>?_
 show ab _ E ⟨50,[],[]⟩ _ ⟨[(0,.b (.agg (aZ u0))),(1,.b (.agg (aZ v0))),(2,I n0)],[]⟩ _
 refine ab.seq (ab.aa ?_)
 refine Oc (aS (k:=101) rfl rfl) (Oc (aS (k:=102) rfl rfl) (Oc (aA (k:=103) lr rfl) (Oc oa ?_)))
 refine ad.aj ⟨[(2,I n0),(3,Pt 101 0),(4,Pt 102 0),(6,Pt 103 0)],[(101,.box 29 (aZ u0)),(102,.box 29 (aZ v0)),(103,.box 29 [.i 0,.i 0,.i 0])]⟩ rfl (ab.seq (ab.seq (ab.aa ?_)))
 refine Oc (lp bz) ?_
 obtain ⟨x_1,e1,h⟩:=aE h
 refine Oc (ae (gM e1) tW rfl rfl) (Oc (bq rfl) (Oc om ?_))
 refine cN (!(!x_1)) [] (fun g2=>trivial) (fun g2=>lp bz) (ad.ah ⟨[(2,_),(3,_),(4,_),(6,_),(12,B (!x_1)),(13,.dA (!(!x_1)) (.agg (aZ v0)))],[(101,_),(102,_),(103,_)]⟩ rfl ?_)
 obtain ⟨x_2,e4,h⟩:=aE h
 refine cN (!(!x_1)) [13] (fun g3=>⟨g3,trivial⟩) (fun g3=>ae (gM (gc e4 g3)) tW rfl rfl) (cN (!(!x_1)) [14] (fun g5=>⟨g5,trivial⟩) (fun g5=>bq rfl) (Oc (aU (fun e=>by rw [e]; rfl) rfl rfl rfl rfl) (Oc om ?_)))
 refine cN (!((!x_1) || (!x_2))) [] (fun g6=>trivial) (fun g6=>om) ?_
 obtain ⟨x_3,e8,h⟩:=aE h
 refine cN (!((!x_1) || (!x_2))) [18] (fun g7=>⟨g7,trivial⟩) (fun g7=>ae (n5 (gc e8 g7)) CW rfl rfl) (cN (!((!x_1) || (!x_2))) [19] (fun g9=>⟨g9,trivial⟩) (fun g9=>bq rfl) (Oc (aU (fun e=>by rw [e]; rfl) rfl rfl rfl rfl) (ad.aj ⟨[(2,_),(3,_),(4,_),(6,_),(21,B (((!x_1) || (!x_2)) || (!x_3)))],[(101,_),(102,_),(103,_)]⟩ rfl (ab.ite h rfl (fun _ h=>?_) (fun _ h=>?_)))))
 ·refine ab.seq (ab.aa ?_)
  refine Oc (aV ff rfl rfl) (Oc (ag bz rfl rfl rfl rfl (Nat.le_of_ble_eq_true rfl) rfl) (Oc oa ?_))
  refine ad.aj ⟨[(6,_),(7,I 1)],[(103,_)]⟩ rfl (ab.ret (Fin.ar ?_))
  obtain rfl:=Option.some.inj h
  refine Fin.ah ⟨[(6,_),(7,_)],[(103,_)]⟩ rfl (Fin.aq [.agg [.i 0,.i 0,.i 0],.one (.i 1)] (.inl rfl) rfl (.cons (.agg bz rfl rfl rfl rfl) (.cons (.tmp rfl) .nil)) ⟨rfl,rfl⟩)
 ·refine ab.skip (Fin.ah ⟨[(2,_),(3,_),(4,_),(6,_)],[(101,_),(102,_),(103,_)]⟩ rfl (Fin.then (ab.seq (ab.aa ?_))))
  refine Oc (af kZ rfl rfl) (Oc (ax bW rfl rfl rfl) (Oc om (Oc (af kZ rfl rfl) (Oc (ax bW rfl rfl rfl) (Oc (fN rfl rfl) ?_)))))
  refine ad.cp .i64 h rfl (bb rfl rfl) (fun x_4 h=>?_)
  refine ad.ah ⟨[(2,_),(3,_),(4,_),(6,_),(29,I x_4)],[(101,_),(102,_),(103,_)]⟩ rfl (Oc (af kY rfl rfl) (Oc (ax bW rfl rfl rfl) (Oc om (Oc (af kY rfl rfl) (Oc (ax bW rfl rfl rfl) (Oc (fN rfl rfl) ?_))))))
  refine ad.cp .i64 h rfl (bb rfl rfl) (fun x_5 h=>?_)
  refine Oc (af kX rfl rfl) (ad.ah ⟨[(2,_),(4,_),(6,_),(29,_),(36,I x_5),(37,Pt 101 2)],[(101,_),(102,_),(103,_)]⟩ rfl (Oc (ax bW rfl rfl rfl) (Oc om (Oc (af kX rfl rfl) (Oc (ax bW rfl rfl rfl) (Oc (fN rfl rfl) ?_))))))
  refine ad.cp .i64 h rfl (bb rfl rfl) (fun x_6 h=>?_)
  refine Oc (aV ff rfl rfl) (Oc (aA (k:=104) lr rfl) (Oc (ag bz rfl rfl rfl rfl (Nat.le_of_ble_eq_true rfl) rfl) ?_))
  refine ad.aj ⟨[(6,_),(8,Pt 104 0)],[(103,_),(104,.box 29 [.i x_4,.i x_5,.i x_6])]⟩ rfl (ab.seq (ab.seq (ab.aa ?_)))
  refine Oc (lp bz) ?_
  obtain ⟨x_7,e10,h⟩:=aE h
  refine Oc (ae (gM e10) tW rfl rfl) (Oc (bq rfl) ?_)
  refine ad.aj ⟨[(6,_),(8,_),(47,B (!x_7))],[(103,_),(104,_)]⟩ rfl (ab.ite h rfl (fun _ h=>?_) (fun _ h=>?_))
  ·refine ab.seq (ab.aa ?_)
   refine Oc (aV ff rfl rfl) (Oc (ag bz rfl rfl rfl rfl (Nat.le_of_ble_eq_true rfl) rfl) (Oc oa ?_))
   refine ad.aj ⟨[(6,_),(7,I 2)],[(103,_)]⟩ rfl (ab.ret (Fin.ar ?_))
   obtain rfl:=Option.some.inj h
   refine Fin.ah ⟨[(6,_),(7,_)],[(103,_)]⟩ rfl (Fin.aq [.agg [.i 0,.i 0,.i 0],.one (.i 2)] (.inl rfl) rfl (.cons (.agg bz rfl rfl rfl rfl) (.cons (.tmp rfl) .nil)) ⟨rfl,rfl⟩)
  ·refine ab.skip (Fin.ah ⟨[(6,_),(8,_)],[(103,_),(104,_)]⟩ rfl (Fin.then (ab.seq (ab.aa ?_))))
   refine Oc (lp bz) (Oc (ag bz rfl rfl rfl rfl (Nat.le_of_ble_eq_true rfl) rfl) (Oc oa ?_))
   refine ad.aj ⟨[(6,_),(7,I 0)],[(103,.box 29 [.i x_4,.i x_5,.i x_6])]⟩ rfl (ab.ret ?_)
   obtain rfl:=Option.some.inj h
   refine Fin.ah ⟨[(6,_),(7,_)],[(103,_)]⟩ rfl (Fin.aq [.agg [.i x_4,.i x_5,.i x_6],.one (.i 0)] (.inl rfl) rfl (.cons (.agg bz rfl rfl rfl rfl) (.cons (.tmp rfl) .nil)) ⟨rfl,rfl⟩)
def lG (F:Nat) (u0:aX) (v0:aX):Option (aX × Int) :=
 Option.bind (fl F u0 v0 1) (b7 fun x_1 x_2=>some (x_1,x_2))
theorem uW {F:Nat} {u0:aX} {v0:aX} {r:aX × Int} (h:lG F u0 v0 = some r):az Tryz.prog (bj mx) 26 [] [.agg (aZ u0),.agg (aZ v0)] (Is [] (.fE [.agg (aZ r.1),.one (.i r.2)])):=by
 unfold lG at h
 refine az.intro 11 Tryz.func26 Tryz.ntmps26 rfl (by simp) fun E=>?_
 show ab _ E ⟨11,[],[]⟩ _ ⟨[(0,.b (.agg (aZ u0))),(1,.b (.agg (aZ v0)))],[]⟩ _
 refine ab.seq (ab.aa ?_)
 refine Oc (aS (k:=101) rfl rfl) (Oc (aS (k:=102) rfl rfl) (Oc (aA (k:=103) lr rfl) (Oc oa ?_)))
 refine ad.aj ⟨[(2,Pt 101 0),(3,Pt 102 0),(4,Pt 103 0)],[(101,.box 29 (aZ u0)),(102,.box 29 (aZ v0)),(103,.box 29 [.i 0,.i 0,.i 0])]⟩ rfl (ab.seq (ab.aa ?_))
 refine Oc (lp bz) (Oc (lp bz) ?_)
 obtain ⟨⟨x_1,x_2⟩,e1,h⟩:=aE h
 refine Oc (ae (jG e1) yX rfl rfl) (Oc (ay rfl rfl) (Oc (ay rfl rfl) (Oc (ag bz rfl rfl rfl rfl (Nat.le_of_ble_eq_true rfl) rfl) (Oc oa ?_))))
 refine ad.aj ⟨[(4,_),(5,I x_2)],[(103,.box 29 (aZ x_1))]⟩ rfl (ab.ret ?_)
 obtain rfl:=Option.some.inj h
 refine Fin.ah ⟨[(4,_),(5,_)],[(103,_)]⟩ rfl (Fin.aq [.agg (aZ x_1),.one (.i x_2)] (.inl rfl) rfl (.cons (.agg bz rfl rfl rfl rfl) (.cons (.tmp rfl) .nil)) ⟨rfl,rfl⟩)
def qE (F:Nat) (u0:aX) (v0:aX):Option (aX × Int) :=
 Option.bind (fl F u0 v0 (-1)) (b7 fun x_1 x_2=>some (x_1,x_2))
theorem uX {F:Nat} {u0:aX} {v0:aX} {r:aX × Int} (h:qE F u0 v0 = some r):az Tryz.prog (bj mx) 27 [] [.agg (aZ u0),.agg (aZ v0)] (Is [] (.fE [.agg (aZ r.1),.one (.i r.2)])):=by
 unfold qE at h
 refine az.intro 11 Tryz.func27 Tryz.ntmps27 rfl (by simp) fun E=>?_
 show ab _ E ⟨11,[],[]⟩ _ ⟨[(0,.b (.agg (aZ u0))),(1,.b (.agg (aZ v0)))],[]⟩ _
 refine ab.seq (ab.aa ?_)
 refine Oc (aS (k:=101) rfl rfl) (Oc (aS (k:=102) rfl rfl) (Oc (aA (k:=103) lr rfl) (Oc oa ?_)))
 refine ad.aj ⟨[(2,Pt 101 0),(3,Pt 102 0),(4,Pt 103 0)],[(101,.box 29 (aZ u0)),(102,.box 29 (aZ v0)),(103,.box 29 [.i 0,.i 0,.i 0])]⟩ rfl (ab.seq (ab.aa ?_))
 refine Oc (lp bz) (Oc (lp bz) ?_)
 obtain ⟨⟨x_1,x_2⟩,e1,h⟩:=aE h
 refine Oc (ae (jG e1) yX rfl rfl) (Oc (ay rfl rfl) (Oc (ay rfl rfl) (Oc (ag bz rfl rfl rfl rfl (Nat.le_of_ble_eq_true rfl) rfl) (Oc oa ?_))))
 refine ad.aj ⟨[(4,_),(5,I x_2)],[(103,.box 29 (aZ x_1))]⟩ rfl (ab.ret ?_)
 obtain rfl:=Option.some.inj h
 refine Fin.ah ⟨[(4,_),(5,_)],[(103,_)]⟩ rfl (Fin.aq [.agg (aZ x_1),.one (.i x_2)] (.inl rfl) rfl (.cons (.agg bz rfl rfl rfl rfl) (.cons (.tmp rfl) .nil)) ⟨rfl,rfl⟩)
def mH (F:Nat) (fn0:Nat) (u0:aX) (v0:aX):Option (aX × Int) :=
 if fn0 = 87 then nQ F u0 v0 else if fn0 = 26 then lG F u0 v0 else if fn0 = 27 then qE F u0 v0 else none
theorem x7 {F:Nat} {fn0:Nat} {u0:aX} {v0:aX} {r:aX × Int} (h:mH F fn0 u0 v0 = some r):az Tryz.prog (bj mx) fn0 [] [.agg (aZ u0),.agg (aZ v0)] (Is [] (.fE [.agg (aZ r.1),.one (.i r.2)])):=by
 unfold mH at h
 split at h
 ·next e=>subst e; exact s3 h
 ·next=>
  split at h
  ·next e=>subst e; exact uW h
  ·next=>
   split at h
   ·next e=>subst e; exact uX h
   ·next=>
    simp at h
theorem x8 {F:Nat} {fn0:Nat} {u0:aX} {v0:aX} {r:aX × Int} (h:mH F fn0 u0 v0 = some r):bn Tryz.prog fn0:=by
 unfold mH at h
 split at h
 ·next e=>subst e; exact goes87
 ·next=>
  split at h
  ·next e=>subst e; exact goes26
  ·next=>
   split at h
   ·next e=>subst e; exact goes27
   ·next=>
    simp at h
def kz (F:Nat) (c0:Int):Option Bool :=
 bD (((decide (97 ≤ c0)) && (decide (c0 ≤ 122))) || ((decide (65 ≤ c0)) && (decide (c0 ≤ 90)))) fun x_1=>some x_1
theorem qO {F:Nat} {c0:Int} {r:Bool} (h:kz F c0 = some r):az Tryz.prog (bj mx) 173 [] [.one (.int .i32 c0)] (Is [] (.b (.one (.bool r)))):=by
 unfold kz at h
 refine az.intro 17 Tryz.func173 Tryz.ntmps173 rfl (by simp) fun E=>?_
 show ab _ E ⟨17,[],[]⟩ _ ⟨[(0,.b (.one (.int .i32 c0)))],[]⟩ _
 refine ab.seq (ab.aa ?_)
 refine Oc oa (ad.aj ⟨[(0,.b (.one (.int .i32 c0)))],[]⟩ rfl (ab.seq (ab.aa ?_)))
 refine Oc om (Oc (fy rfl rfl) (Oc om ?_))
 refine bU (decide (97 ≤ c0)) [] (fun g1=>trivial) (fun g1=>om) (bU (decide (97 ≤ c0)) [6] (fun g2=>by exact ⟨g2,trivial⟩) (fun g2=>lh rfl rfl) (Oc (aD (fun e=>e) rfl rfl rfl rfl) (Oc om ?_)))
 refine ad.ah ⟨[(0,_),(9,B ((decide (97 ≤ c0)) && (decide (c0 ≤ 122))))],[]⟩ rfl (cN (!((decide (97 ≤ c0)) && (decide (c0 ≤ 122)))) [] (fun g3=>trivial) (fun g3=>om) (cN (!((decide (97 ≤ c0)) && (decide (c0 ≤ 122)))) [10] (fun g4=>by exact ⟨g4,trivial⟩) (fun g4=>fy rfl rfl) (cN (!((decide (97 ≤ c0)) && (decide (c0 ≤ 122)))) [11] (fun g5=>by exact ⟨g5,trivial⟩) (fun g5=>om) (ad.dy ((!((decide (97 ≤ c0)) && (decide (c0 ≤ 122)))) && (decide (65 ≤ c0))) 99 [] (.under rfl) (gu _ _) rfl rfl (fun g6=>by exact trivial) (fun g6=>om) (ad.dy ((!((decide (97 ≤ c0)) && (decide (c0 ≤ 122)))) && (decide (65 ≤ c0))) 99 [13] (.under rfl) (gu _ _) rfl rfl (fun g7=>by exact ⟨g7,trivial⟩) (fun g7=>lh rfl rfl) ?_)))))
 refine cN (!((decide (97 ≤ c0)) && (decide (c0 ≤ 122)))) [12] (fun g8=>⟨g8,trivial⟩) (fun g8=>aD (fun e=>by rw [g8,e]; rfl) rfl rfl rfl rfl) (ad.iJ h rfl (aU (fun e=>by rw [e]; rfl) rfl rfl rfl rfl) (fun x_1 h=>?_))
 refine Oc oa (ad.aj ⟨[(2,B x_1)],[]⟩ rfl (ab.ret ?_))
 obtain rfl:=Option.some.inj h
 refine Fin.ah ⟨[(2,_)],[]⟩ rfl (Fin.aq [.one (.bool x_1)] (.inl rfl) rfl (.cons (.tmp rfl) .nil) ⟨rfl,rfl⟩)
def jE (F:Nat) (c0:Int):Option Bool :=
 some ((decide (48 ≤ c0)) && (decide (c0 ≤ 57)))
theorem mh {F:Nat} {c0:Int} {r:Bool} (h:jE F c0 = some r):az Tryz.prog (bj mx) 120 [] [.one (.int .i32 c0)] (Is [] (.b (.one (.bool r)))):=by
 unfold jE at h
 refine az.intro 9 Tryz.func120 Tryz.ntmps120 rfl (by simp) fun E=>?_
 show ab _ E ⟨9,[],[]⟩ _ ⟨[(0,.b (.one (.int .i32 c0)))],[]⟩ _
 refine ab.seq (ab.aa ?_)
 refine Oc oa (ad.aj ⟨[(0,.b (.one (.int .i32 c0)))],[]⟩ rfl (ab.seq (ab.aa ?_)))
 refine Oc om (Oc (fy rfl rfl) (Oc om ?_))
 refine bU (decide (48 ≤ c0)) [] (fun g1=>trivial) (fun g1=>om) (bU (decide (48 ≤ c0)) [6] (fun g2=>by exact ⟨g2,trivial⟩) (fun g2=>lh rfl rfl) (Oc (aD (fun e=>e) rfl rfl rfl rfl) (Oc oa ?_)))
 refine ad.aj ⟨[(2,B ((decide (48 ≤ c0)) && (decide (c0 ≤ 57))))],[]⟩ rfl (ab.ret ?_)
 obtain rfl:=Option.some.inj h
 refine Fin.ah ⟨[(2,_)],[]⟩ rfl (Fin.aq [.one (.bool ((decide (48 ≤ c0)) && (decide (c0 ≤ 57))))] (.inl rfl) rfl (.cons (.tmp rfl) .nil) ⟨rfl,rfl⟩)
def jQ (F:Nat) (c0:Int):Option Bool :=
 (jE F c0).bind fun x_1=>some (!x_1)
theorem pV {F:Nat} {c0:Int} {r:Bool} (h:jQ F c0 = some r):az Tryz.prog (bj mx) 119 [] [.one (.int .i32 c0)] (Is [] (.b (.one (.bool r)))):=by
 unfold jQ at h
 refine az.intro 6 Tryz.func119 Tryz.ntmps119 rfl (by simp) fun E=>?_
 show ab _ E ⟨6,[],[]⟩ _ ⟨[(0,.b (.one (.int .i32 c0)))],[]⟩ _
 refine ab.seq (ab.aa ?_)
 refine Oc oa (ad.aj ⟨[(0,.b (.one (.int .i32 c0)))],[]⟩ rfl (ab.seq (ab.aa ?_)))
 refine Oc om ?_
 obtain ⟨x_1,e1,h⟩:=aE h
 refine Oc (ae (mh e1) A1 rfl rfl) (Oc (bq rfl) (Oc oa ?_))
 refine ad.aj ⟨[(2,B (!x_1))],[]⟩ rfl (ab.ret ?_)
 obtain rfl:=Option.some.inj h
 refine Fin.ah ⟨[(2,_)],[]⟩ rfl (Fin.aq [.one (.bool (!x_1))] (.inl rfl) rfl (.cons (.tmp rfl) .nil) ⟨rfl,rfl⟩)
def iP (F:Nat) (fn0:Nat) (c0:Int):Option Bool :=
 if fn0 = 173 then kz F c0 else if fn0 = 120 then jE F c0 else if fn0 = 119 then jQ F c0 else none
theorem x9 {F:Nat} {fn0:Nat} {c0:Int} {r:Bool} (h:iP F fn0 c0 = some r):az Tryz.prog (bj mx) fn0 [] [.one (.int .i32 c0)] (Is [] (.b (.one (.bool r)))):=by
 unfold iP at h
 split at h
 ·next e=>subst e; exact qO h
 ·next=>
  split at h
  ·next e=>subst e; exact mh h
  ·next=>
   split at h
   ·next e=>subst e; exact pV h
   ·next=>
    simp at h
theorem ya {F:Nat} {fn0:Nat} {c0:Int} {r:Bool} (h:iP F fn0 c0 = some r):bn Tryz.prog fn0:=by
 unfold iP at h
 split at h
 ·next e=>subst e; exact goes173
 ·next=>
  split at h
  ·next e=>subst e; exact A1
  ·next=>
   split at h
   ·next e=>subst e; exact goes119
   ·next=>
    simp at h
def mQ (F:Nat) (n0:bt):Option bN :=
 (kH F).bind fun x_1=>(iS F n0 x_1).bind fun x_2=>some x_2
theorem wU {F:Nat} {n0:bt} {r:bN} (h:mQ F n0 = some r):az Tryz.prog (bj mx) 73 [] [.agg (au n0)] (Is [] (.b (.agg (aI r)))):=by
 unfold mQ at h
 refine az.intro 6 Tryz.func73 Tryz.ntmps73 rfl (by simp) fun E=>?_
 show ab _ E ⟨6,[],[]⟩ _ ⟨[(0,.b (.agg (au n0)))],[]⟩ _
 refine ab.seq (ab.aa ?_)
 refine Oc (aS (k:=101) rfl rfl) (Oc (aA (k:=102) bO rfl) ?_)
 refine ad.aj ⟨[(1,Pt 101 0),(2,Pt 102 0)],[(101,.box 25 (au n0)),(102,.box 27 eh)]⟩ rfl (ab.seq ?_)
 obtain ⟨x_1,e1,h⟩:=aE h
 obtain ⟨x_2,e2,h⟩:=aE h
 refine ab.bP mixed 3 [.b (.agg (au n0)),.b (.agg (au x_1)),.b (.agg (aI x_2))] [2] [102] (s':=⟨[(2,_)],[(102,.box 27 (aI x_2))]⟩) rfl ⟨fun _=>.p (lp ao),fun _=>.p (ae (lJ e1) tU rfl rfl),fun _=>.p (ae (dP e2) ku rfl rfl),trivial⟩ ⟨_,by exact .p (ag aC rfl rfl rfl rfl (Nat.le_of_ble_eq_true rfl) rfl),rfl⟩ rfl (ab.ret ?_)
 obtain rfl:=Option.some.inj h
 refine Fin.ah ⟨[(2,_)],[(102,_)]⟩ rfl (Fin.aq [.agg (aI x_2)] (.inl rfl) rfl (.cons (.agg aC rfl rfl rfl rfl) .nil) ⟨rfl,rfl⟩)
def ml (F:Nat) (n0:Int):Option bN :=
 (ja F n0).bind fun x_1=>(mQ F x_1).bind fun x_2=>some x_2
theorem mS {F:Nat} {n0:Int} {r:bN} (h:ml F n0 = some r):az Tryz.prog (bj mx) 20 [] [.one (.i n0)] (Is [] (.b (.agg (aI r)))):=by
 unfold ml at h
 refine az.intro 6 Tryz.func20 Tryz.ntmps20 rfl (by simp) fun E=>?_
 show ab _ E ⟨6,[],[]⟩ _ ⟨[(0,I n0)],[]⟩ _
 refine ab.seq (ab.aa ?_)
 refine Oc (aA (k:=101) bO rfl) (ad.aj ⟨[(0,I n0),(2,Pt 101 0)],[(101,.box 27 eh)]⟩ rfl (ab.seq (ab.aa ?_)))
 refine Oc om ?_
 obtain ⟨x_1,e1,h⟩:=aE h
 refine Oc (ae (gO e1) mq rfl rfl) ?_
 obtain ⟨x_2,e2,h⟩:=aE h
 refine Oc (ae (wU e2) goes73 rfl rfl) (Oc (ag aC rfl rfl rfl rfl (Nat.le_of_ble_eq_true rfl) rfl) ?_)
 refine ad.aj ⟨[(2,_)],[(101,.box 27 (aI x_2))]⟩ rfl (ab.ret ?_)
 obtain rfl:=Option.some.inj h
 refine Fin.ah ⟨[(2,_)],[(101,_)]⟩ rfl (Fin.aq [.agg (aI x_2)] (.inl rfl) rfl (.cons (.agg aC rfl rfl rfl rfl) .nil) ⟨rfl,rfl⟩)
def iL (F:Nat) (r0s:bg) (r0q:aw) (r0sign:Int):Option Int :=
 some 1
theorem nX {F:Nat} {r0s:bg} {r0q:aw} {r0sign:Int} {r:Int} (h:iL F r0s r0q r0sign = some r):az Tryz.prog (bj mx) 68 [(1,.box 94 (.str r0s :: (ap r0q ++ ([.i r0sign]))))] [.ptr 1 0] (Is [(1,.box 94 (.str r0s :: (ap r0q ++ ([.i r]))))] (.fE [])):=by
 unfold iL at h
 refine az.intro 5 Tryz.func68 Tryz.ntmps68 rfl (by simp) fun E=>?_
 show ab _ E ⟨5,[1],[1]⟩ _ ⟨[(0,Pt 1 0)],[(1,.box 94 (.str r0s :: (ap r0q ++ ([.i r0sign]))))]⟩ _
 refine ab.aa (Oc om (Oc (aR rfl) (Oc (af pN rfl rfl) (Oc (bQ bW rfl rfl rfl (Nat.le_of_ble_eq_true rfl) rfl) ?_))))
 refine ad.nil ?_
 obtain rfl:=Option.some.inj h
 refine Fin.ah ⟨[],[(1,.box 94 (.str r0s :: (ap r0q ++ ([.i 1]))))]⟩ rfl ?_
 exact Fin.result [] (.inr rfl) rfl (.nil) ⟨rfl,rfl⟩
def jf (F:Nat) (r0s:bg) (r0q:aw) (r0sign:Int):Option Int :=
 some (-1)
theorem oc {F:Nat} {r0s:bg} {r0q:aw} {r0sign:Int} {r:Int} (h:jf F r0s r0q r0sign = some r):az Tryz.prog (bj mx) 69 [(1,.box 94 (.str r0s :: (ap r0q ++ ([.i r0sign]))))] [.ptr 1 0] (Is [(1,.box 94 (.str r0s :: (ap r0q ++ ([.i r]))))] (.fE [])):=by
 unfold jf at h
 refine az.intro 5 Tryz.func69 Tryz.ntmps69 rfl (by simp) fun E=>?_
 show ab _ E ⟨5,[1],[1]⟩ _ ⟨[(0,Pt 1 0)],[(1,.box 94 (.str r0s :: (ap r0q ++ ([.i r0sign]))))]⟩ _
 refine ab.aa (Oc om (Oc (aR rfl) (Oc (af pN rfl rfl) (Oc (bQ bW rfl rfl rfl (Nat.le_of_ble_eq_true rfl) rfl) ?_))))
 refine ad.nil ?_
 obtain rfl:=Option.some.inj h
 refine Fin.ah ⟨[],[(1,.box 94 (.str r0s :: (ap r0q ++ ([.i (-1)]))))]⟩ rfl ?_
 exact Fin.result [] (.inr rfl) rfl (.nil) ⟨rfl,rfl⟩
def dL (F:Nat) (s0:bg) (f0:Nat) (truth0:Bool):Option Int :=
 Option.bind (iter F (fun xp_1=>if decide (xp_1 < s0.length) = true then ((iP F f0 (gx s0 xp_1)).bind fun x_2=>if (x_2 == truth0) = true then (some (.inr (.inr (xp_1:Nat)))) else (some (.inl (fY s0 xp_1)))) else (some (.inr (.inl ())))) 0) (j4 (fun _=>some (-1)) (fun y=>some y))
theorem jH {F:Nat} {s0:bg} {f0:Nat} {truth0:Bool} {r:Int} (h:dL F s0 f0 truth0 = some r):az Tryz.prog (bj mx) 191 [] [.one (.str s0),.one (.raw (.func (.func f0) #[] #[])),.one (.bool truth0)] (Is [] (.b (.one (.i r)))):=by
 unfold dL at h
 refine az.intro 21 Tryz.func191 Tryz.ntmps191 rfl (by simp) fun E=>?_
 show ab _ E ⟨21,[],[]⟩ _ ⟨[(0,.b (.one (.str s0))),(1,.b (.one (.raw (.func (.func f0) #[] #[])))),(2,B truth0)],[]⟩ _
 refine ab.seq (ab.aa ?_)
 refine Oc oa (ad.aj ⟨[(0,.b (.one (.str s0))),(1,.b (.one (.raw (.func (.func f0) #[] #[])))),(2,B truth0)],[]⟩ rfl ?_)
 obtain ⟨v1,h2,h⟩:=aE h
 refine ab.cB (v:=v1) (fun (_:Unit)=>⟨[],[]⟩) (fun z=>.inl z) ?_ ?_
 ·refine ab.seq (ab.aa ?_)
  refine Oc om (Oc (nU (k:=101) eg rfl rfl) ?_)
  refine ad.aj ⟨[(1,_),(2,_),(10,Pt 101 0)],[(101,.s8 s0 0)]⟩ rfl (ab.block (ab.cS h2 (fun (xp_1:Nat)=>⟨[(1,.b (.one (.raw (.func (.func f0) #[] #[])))),(2,B truth0),(10,Pt 101 0)],[(101,.s8 s0 xp_1)]⟩) [1,2,10] [101] rfl ?_))
  rintro xp_1 o3 h4 hy5
  refine ab.seq (ab.aa ?_)
  refine ad.ite h4 (fun hc6 h4=>?_) (fun hc6 h4=>?_)
  ·refine Oc (oZ rfl rfl (of_decide_eq_true hc6)) (Oc (ay rfl rfl) ?_)
   refine ad.aj ⟨[(1,_),(2,_),(10,_),(11,.fE [.one (.bool true),.one (.i (xp_1:Nat)),.one (.int .i32 (gx s0 xp_1))]),(12,B true)],[(101,.s8 s0 (fY s0 xp_1))]⟩ rfl (ab.seq (ab.Ae rfl (ab.skip (Fin.ah ⟨[(1,_),(2,_),(10,_),(11,_)],[(101,_)]⟩ rfl (Fin.then (ab.block (ab.seq (ab.aa ?_))))))))
   refine Oc (ay rfl rfl) (Oc (ay rfl rfl) (Oc oa (Oc oa ?_)))
   refine ad.aj ⟨[(1,_),(2,_),(7,I (xp_1:Nat)),(8,.b (.one (.int .i32 (gx s0 xp_1)))),(10,_)],[(101,_)]⟩ rfl (ab.seq (ab.aa ?_))
   refine Oc om (Oc om ?_)
   obtain ⟨x_2,e7,h4⟩:=aE h4
   refine Oc (pR (x9 e7) (ya e7) rfl rfl rfl) (Oc om (Oc (sK uQ rfl rfl) ?_))
   refine ad.aj ⟨[(1,_),(2,_),(7,_),(10,_),(19,B (x_2 == truth0))],[(101,_)]⟩ rfl (ab.ite h4 rfl (fun _ h4=>?_) (fun _ h4=>?_))
   ·refine ab.seq (ab.aa ?_)
    refine Oc om (Oc oa ?_)
    refine ad.aj ⟨[(6,I (xp_1:Nat))],[]⟩ rfl (ab.ret (Fin.aL ?_))
    obtain rfl:=hy5 _ (Option.some.inj h4).symm
    refine Fin.ar (Fin.aL (Fin.ar ?_))
    obtain rfl:=Option.some.inj h
    refine Fin.ah ⟨[(6,_)],[]⟩ rfl (Fin.aq [.one (.i (xp_1:Nat))] (.inl rfl) rfl (.cons (.tmp rfl) .nil) ⟨rfl,rfl⟩)
   ·refine ab.skip (Fin.aH ?_)
    exact Fin.bR [1,2,10] [101] (fY s0 xp_1) (Option.some.inj h4) rfl
  ·refine Oc (oY rfl rfl (Nat.not_lt.1 (of_decide_eq_false hc6))) (Oc (ay rfl rfl) ?_)
   refine ad.aj ⟨[(1,_),(2,_),(10,_),(11,.fE [.one (.bool false)]),(12,B false)],[(101,_)]⟩ rfl (ab.seq (ab.xj rfl (ab.exit (Fin.aG ?_))))
   obtain rfl:=hy5 _ (Option.some.inj h4).symm
   refine Fin.aG (Fin.aY ?_)
   exact Fin.join [] [] () rfl rfl
 ·rintro _ hv
  subst v1
  refine ab.seq (ab.aa ?_)
  refine Oc oa (ad.aj ⟨[(6,I (-1))],[]⟩ rfl (ab.ret ?_))
  obtain rfl:=Option.some.inj h
  refine Fin.ah ⟨[(6,_)],[]⟩ rfl (Fin.aq [.one (.i (-1))] (.inl rfl) rfl (.cons (.tmp rfl) .nil) ⟨rfl,rfl⟩)
def dG (F:Nat) (s0:bg) (f0:Nat):Option bg :=
 (dL F s0 f0 false).bind fun x_1=>if (decide (x_1 = (-1))) = true then (some []) else ((ld s0 x_1).bind fun x_2=>some x_2)
theorem lQ {F:Nat} {s0:bg} {f0:Nat} {r:bg} (h:dG F s0 f0 = some r):az Tryz.prog (bj mx) 196 [] [.one (.str s0),.one (.raw (.func (.func f0) #[] #[]))] (Is [] (.b (.one (.str r)))):=by
 unfold dG at h
 refine az.intro 14 Tryz.func196 Tryz.ntmps196 rfl (by simp) fun E=>?_
 show ab _ E ⟨14,[],[]⟩ _ ⟨[(0,.b (.one (.str s0))),(1,.b (.one (.raw (.func (.func f0) #[] #[]))))],[]⟩ _
 refine ab.seq (ab.aa ?_)
 refine Oc oa (ad.aj ⟨[(0,.b (.one (.str s0))),(1,.b (.one (.raw (.func (.func f0) #[] #[]))))],[]⟩ rfl (ab.seq (ab.aa ?_)))
 refine Oc om (Oc om ?_)
 obtain ⟨x_1,e1,h⟩:=aE h
 refine Oc (ae (jH e1) AM rfl rfl) (Oc oa ?_)
 refine ad.aj ⟨[(0,_),(5,I x_1)],[]⟩ rfl (ab.seq (ab.seq (ab.aa ?_)))
 refine Oc om (Oc (cy rfl rfl) ?_)
 refine ad.aj ⟨[(0,_),(5,_),(10,B (decide (x_1 = (-1))))],[]⟩ rfl (ab.ite h rfl (fun _ h=>?_) (fun _ h=>?_))
 ·refine ab.seq (ab.aa ?_)
  refine Oc oa (ad.aj ⟨[(4,.b (.one (.str [])))],[]⟩ rfl (ab.ret (Fin.ar ?_)))
  obtain rfl:=Option.some.inj h
  refine Fin.ah ⟨[(4,_)],[]⟩ rfl (Fin.aq [.one (.str [])] (.inl rfl) rfl (.cons (.tmp rfl) .nil) ⟨rfl,rfl⟩)
 ·refine ab.skip (Fin.ah ⟨[(0,_),(5,_)],[]⟩ rfl (Fin.then (ab.seq (ab.aa ?_))))
  refine Oc om (Oc om ?_)
  obtain ⟨x_2,e2,h⟩:=aE h
  refine Oc (gk eg e2 rfl rfl) (Oc oa ?_)
  refine ad.aj ⟨[(4,.b (.one (.str x_2)))],[]⟩ rfl (ab.ret ?_)
  obtain rfl:=Option.some.inj h
  refine Fin.ah ⟨[(4,_)],[]⟩ rfl (Fin.aq [.one (.str x_2)] (.inl rfl) rfl (.cons (.tmp rfl) .nil) ⟨rfl,rfl⟩)
def cV (F:Nat) (is0:Nat) (r0s:bg) (r0q:aw) (r0sign:Int):Option (bg × bg) :=
 (dG F r0s is0).bind fun x_1=>(oh r0s (IntKind.i64.wrap ((r0s.length:Int) - (x_1.length:Int)))).bind fun x_2=>some (x_2,x_1)
theorem jK {F:Nat} {is0:Nat} {r0s:bg} {r0q:aw} {r0sign:Int} {r:bg × bg} (h:cV F is0 r0s r0q r0sign = some r):az Tryz.prog (bj mx) 172 [(1,.box 94 (.str r0s :: (ap r0q ++ ([.i r0sign]))))] [.ptr 1 0,.one (.raw (.func (.func is0) #[] #[]))] (Is [(1,.box 94 (.str r.2 :: (ap r0q ++ ([.i r0sign]))))] (.b (.one (.str r.1)))):=by
 unfold cV at h
 refine az.intro 31 Tryz.func172 Tryz.ntmps172 rfl (by simp) fun E=>?_
 show ab _ E ⟨31,[1],[1]⟩ _ ⟨[(0,Pt 1 0),(1,.b (.one (.raw (.func (.func is0) #[] #[]))))],[(1,.box 94 (.str r0s :: (ap r0q ++ ([.i r0sign]))))]⟩ _
 refine ab.seq (ab.aa ?_)
 refine Oc oa (ad.aj ⟨[(0,Pt 1 0),(1,.b (.one (.raw (.func (.func is0) #[] #[]))))],[(1,.box 94 (.str r0s :: (ap r0q ++ ([.i r0sign]))))]⟩ rfl (ab.seq (ab.aa ?_)))
 refine Oc om (Oc (aR rfl) (Oc (af dp rfl rfl) (Oc (ax fj rfl rfl rfl) (Oc om ?_))))
 obtain ⟨x_1,e1,h⟩:=aE h
 refine Oc (ae (lQ e1) goes196 rfl rfl) (Oc oa ?_)
 refine ad.aj ⟨[(0,_),(5,.b (.one (.str x_1)))],[(1,_)]⟩ rfl (ab.seq ?_)
 obtain ⟨x_2,e2,h⟩:=aE h
 refine ab.bP mixed 14 [Pt 1 0,Pt 1 0,Pt 1 0,.b (.one (.str r0s)),Pt 1 0,Pt 1 0,Pt 1 0,.b (.one (.str r0s)),I (r0s.length:Int),.b (.one (.str x_1)),I (x_1.length:Int),I (IntKind.i64.wrap ((r0s.length:Int) - (x_1.length:Int))),.b (.one (.str x_2)),.b (.one (.str x_2))] [0,5,6] [1] (s':=⟨[(0,_),(5,_),(6,.b (.one (.str x_2)))],[(1,_)]⟩) rfl ⟨fun _=>.p om,fun _=>.p (aR rfl),fun _=>.p (af dp rfl rfl),fun _=>.p (ax fj rfl rfl rfl),fun _=>.p om,fun _=>.p (aR rfl),fun _=>.p (af dp rfl rfl),fun _=>.p (ax fj rfl rfl rfl),fun _=>.p (b6 eg rfl),fun _=>.p om,fun _=>.p (b6 eg rfl),fun _=>.p (bX rfl rfl),fun _=>.p (lL eg e2 rfl rfl),fun _=>.p oa,trivial⟩ rfl rfl (ab.seq (ab.aa ?_))
 refine Oc om (Oc om (Oc (aR rfl) (Oc (af dp rfl rfl) (Oc (bQ fj rfl rfl rfl (Nat.le_of_ble_eq_true rfl) rfl) ?_))))
 refine ad.aj ⟨[(6,_)],[(1,.box 94 (.str x_1 :: (ap r0q ++ ([.i r0sign]))))]⟩ rfl (ab.seq (ab.aa ?_))
 refine Oc om (Oc oa ?_)
 refine ad.aj ⟨[(4,.b (.one (.str x_2)))],[(1,_)]⟩ rfl (ab.ret ?_)
 obtain rfl:=Option.some.inj h
 refine Fin.ah ⟨[(4,_)],[(1,_)]⟩ rfl ?_
 exact Fin.result [.one (.str x_2)] (.inl rfl) rfl (.cons (.tmp rfl) .nil) ⟨rfl,rfl⟩
def fp (F:Nat) (r0s:bg) (r0q:aw) (r0sign:Int):Option (bg × bg) :=
 (dM F r0s [49]).bind fun x_1=>(bA (!x_1) (dM F r0s [37])).bind fun x_2=>if (x_1 || x_2) = true then ((oh r0s 1).bind fun x_3=>(ld r0s 1).bind fun x_4=>some (x_3,x_4)) else (Option.bind (cV F 173 r0s r0q r0sign) (b7 fun x_5 x_6=>some (x_5,x_6)))
theorem od {F:Nat} {r0s:bg} {r0q:aw} {r0sign:Int} {r:bg × bg} (h:fp F r0s r0q r0sign = some r):az Tryz.prog (bj mx) 132 [(1,.box 94 (.str r0s :: (ap r0q ++ ([.i r0sign]))))] [.ptr 1 0] (Is [(1,.box 94 (.str r.2 :: (ap r0q ++ ([.i r0sign]))))] (.b (.one (.str r.1)))):=by
 unfold fp at h
 refine az.intro 32 Tryz.func132 Tryz.ntmps132 rfl (by simp) fun E=>?_
 show ab _ E ⟨32,[1],[1]⟩ _ ⟨[(0,Pt 1 0)],[(1,.box 94 (.str r0s :: (ap r0q ++ ([.i r0sign]))))]⟩ _
 refine ab.seq (ab.aa ?_)
 refine Oc oa (ad.aj ⟨[(0,Pt 1 0)],[(1,.box 94 (.str r0s :: (ap r0q ++ ([.i r0sign]))))]⟩ rfl (ab.seq (ab.seq (ab.aa ?_))))
 refine Oc om (Oc (aR rfl) (Oc (af dp rfl rfl) (Oc (ax fj rfl rfl rfl) ?_)))
 obtain ⟨x_1,e1,h⟩:=aE h
 refine Oc (ae (gF e1) wA rfl rfl) (ad.ah ⟨[(0,_),(8,B x_1)],[(1,_)]⟩ rfl (Oc om (cN (!x_1) [] (fun g2=>by exact trivial) (fun g2=>om) (cN (!x_1) [10] (fun g3=>by exact ⟨g3,trivial⟩) (fun g3=>aR rfl) (cN (!x_1) [11] (fun g4=>by exact ⟨g4,trivial⟩) (fun g4=>af dp rfl rfl) ?_)))))
 refine cN (!x_1) [12] (fun g5=>⟨g5,trivial⟩) (fun g5=>ax fj rfl rfl rfl) ?_
 obtain ⟨x_2,e7,h⟩:=aE h
 refine cN (!x_1) [13] (fun g6=>⟨g6,trivial⟩) (fun g6=>ae (gF (gc e7 g6)) wA rfl rfl) (Oc (aU (fun e=>by rw [e]; rfl) rfl rfl rfl rfl) (ad.aj ⟨[(0,_),(15,B (x_1 || x_2))],[(1,_)]⟩ rfl (ab.ite h rfl (fun _ h=>?_) (fun _ h=>?_))))
 ·refine ab.seq (ab.aa ?_)
  refine Oc om (Oc (aR rfl) (Oc (af dp rfl rfl) (Oc (ax fj rfl rfl rfl) ?_)))
  obtain ⟨x_3,e8,h⟩:=aE h
  refine Oc (lL eg e8 rfl rfl) (Oc oa ?_)
  refine ad.aj ⟨[(0,_),(3,.b (.one (.str x_3)))],[(1,_)]⟩ rfl (ab.seq (ab.aa ?_))
  refine Oc om (Oc om (Oc (aR rfl) (Oc (af dp rfl rfl) (Oc (ax fj rfl rfl rfl) ?_))))
  obtain ⟨x_4,e9,h⟩:=aE h
  refine Oc (gk eg e9 rfl rfl) (Oc (aR rfl) (Oc (af dp rfl rfl) (Oc (bQ fj rfl rfl rfl (Nat.le_of_ble_eq_true rfl) rfl) ?_)))
  refine ad.aj ⟨[(3,_)],[(1,.box 94 (.str x_4 :: (ap r0q ++ ([.i r0sign]))))]⟩ rfl (ab.seq (ab.aa ?_))
  refine Oc om (Oc oa ?_)
  refine ad.aj ⟨[(2,.b (.one (.str x_3)))],[(1,_)]⟩ rfl (ab.ret (Fin.ar ?_))
  obtain rfl:=Option.some.inj h
  refine Fin.ah ⟨[(2,_)],[(1,_)]⟩ rfl ?_
  exact Fin.result [.one (.str x_3)] (.inl rfl) rfl (.cons (.tmp rfl) .nil) ⟨rfl,rfl⟩
 ·refine ab.skip (Fin.ah ⟨[(0,_)],[(1,_)]⟩ rfl (Fin.then (ab.seq (ab.aa ?_))))
  refine Oc om ?_
  obtain ⟨⟨x_5,x_6⟩,e10,h⟩:=aE h
  refine Oc (jU (own_a:=[(1,_)]) (jK e10) AR rfl ⟨rfl,trivial⟩ rfl rfl) (Oc oa ?_)
  refine ad.aj ⟨[(2,.b (.one (.str x_5)))],[(1,.box 94 (.str x_6 :: (ap r0q ++ ([.i r0sign]))))]⟩ rfl (ab.ret ?_)
  obtain rfl:=Option.some.inj h
  refine Fin.ah ⟨[(2,_)],[(1,_)]⟩ rfl ?_
  exact Fin.result [.one (.str x_5)] (.inl rfl) rfl (.cons (.tmp rfl) .nil) ⟨rfl,rfl⟩
def dr (F:Nat) (s0:bg) (prefix0:bg):Option Bool :=
 (bA (decide ((prefix0.length:Int) ≤ (s0.length:Int))) (oh s0 (prefix0.length:Int))).bind fun x_1=>bD ((decide ((prefix0.length:Int) ≤ (s0.length:Int))) && (decide (x_1 = prefix0))) fun x_2=>some x_2
theorem lN {F:Nat} {s0:bg} {prefix0:bg} {r:Bool} (h:dr F s0 prefix0 = some r):az Tryz.prog (bj mx) 165 [] [.one (.str s0),.one (.str prefix0)] (Is [] (.b (.one (.bool r)))):=by
 unfold dr at h
 refine az.intro 18 Tryz.func165 Tryz.ntmps165 rfl (by simp) fun E=>?_
 show ab _ E ⟨18,[],[]⟩ _ ⟨[(0,.b (.one (.str s0))),(1,.b (.one (.str prefix0)))],[]⟩ _
 refine ab.seq (ab.aa ?_)
 refine Oc oa (ad.aj ⟨[(0,.b (.one (.str s0))),(1,.b (.one (.str prefix0)))],[]⟩ rfl (ab.seq (ab.aa ?_)))
 refine Oc om (Oc (b6 eg rfl) (Oc om (Oc (b6 eg rfl) (Oc (fy rfl rfl) ?_))))
 refine ad.ah ⟨[(0,_),(1,_),(9,B (decide ((prefix0.length:Int) ≤ (s0.length:Int))))],[]⟩ rfl (Oc om (bU (decide ((prefix0.length:Int) ≤ (s0.length:Int))) [] (fun g1=>by exact trivial) (fun g1=>om) (bU (decide ((prefix0.length:Int) ≤ (s0.length:Int))) [] (fun g2=>by exact trivial) (fun g2=>om) (bU (decide ((prefix0.length:Int) ≤ (s0.length:Int))) [12] (fun g3=>by exact ⟨g3,trivial⟩) (fun g3=>b6 eg rfl) ?_))))
 obtain ⟨x_1,e5,h⟩:=aE h
 refine bU (decide ((prefix0.length:Int) ≤ (s0.length:Int))) [11,13] (fun g4=>⟨g4,g4,trivial⟩) (fun g4=>lL eg (gc e5 g4) rfl rfl) (bU (decide ((prefix0.length:Int) ≤ (s0.length:Int))) [] (fun g6=>trivial) (fun g6=>om) (bU (decide ((prefix0.length:Int) ≤ (s0.length:Int))) [14,15] (fun g7=>by exact ⟨g7,g7,trivial⟩) (fun g7=>bh rfl rfl) (ad.iJ h rfl (aD (fun e=>e) rfl rfl rfl rfl) (fun x_2 h=>?_))))
 refine Oc oa (ad.aj ⟨[(4,B x_2)],[]⟩ rfl (ab.ret ?_))
 obtain rfl:=Option.some.inj h
 refine Fin.ah ⟨[(4,_)],[]⟩ rfl (Fin.aq [.one (.bool x_2)] (.inl rfl) rfl (.cons (.tmp rfl) .nil) ⟨rfl,rfl⟩)
def eD (F:Nat) (s0:bg) (prefix0:bg):Option (bg × Bool) :=
 (dr F s0 prefix0).bind fun x_1=>if (!x_1) = true then (some (s0,false)) else ((ld s0 (prefix0.length:Int)).bind fun x_2=>some (x_2,true))
theorem lO {F:Nat} {s0:bg} {prefix0:bg} {r:bg × Bool} (h:eD F s0 prefix0 = some r):az Tryz.prog (bj mx) 163 [] [.one (.str s0),.one (.str prefix0)] (Is [] (.fE [.one (.str r.1),.one (.bool r.2)])):=by
 unfold eD at h
 refine az.intro 15 Tryz.func163 Tryz.ntmps163 rfl (by simp) fun E=>?_
 show ab _ E ⟨15,[],[]⟩ _ ⟨[(0,.b (.one (.str s0))),(1,.b (.one (.str prefix0)))],[]⟩ _
 refine ab.seq (ab.aa ?_)
 refine Oc oa (Oc oa ?_)
 refine ad.aj ⟨[(0,.b (.one (.str s0))),(1,.b (.one (.str prefix0)))],[]⟩ rfl (ab.seq (ab.seq (ab.aa ?_)))
 refine Oc om (Oc om ?_)
 obtain ⟨x_1,e1,h⟩:=aE h
 refine Oc (ae (lN e1) goes165 rfl rfl) (Oc (bq rfl) ?_)
 refine ad.aj ⟨[(0,_),(1,_),(9,B (!x_1))],[]⟩ rfl (ab.ite h rfl (fun _ h=>?_) (fun _ h=>?_))
 ·refine ab.seq (ab.aa ?_)
  refine Oc om (Oc oa (Oc oa ?_))
  refine ad.aj ⟨[(4,.b (.one (.str s0))),(5,B false)],[]⟩ rfl (ab.ret (Fin.ar ?_))
  obtain rfl:=Option.some.inj h
  refine Fin.ah ⟨[(4,_),(5,_)],[]⟩ rfl (Fin.aq [.one (.str s0),.one (.bool false)] (.inl rfl) rfl (.cons (.tmp rfl) (.cons (.tmp rfl) .nil)) ⟨rfl,rfl⟩)
 ·refine ab.skip (Fin.ah ⟨[(0,_),(1,_)],[]⟩ rfl (Fin.then (ab.seq (ab.aa ?_))))
  refine Oc om (Oc om (Oc (b6 eg rfl) ?_))
  obtain ⟨x_2,e2,h⟩:=aE h
  refine Oc (gk eg e2 rfl rfl) (Oc oa (Oc oa ?_))
  refine ad.aj ⟨[(4,.b (.one (.str x_2))),(5,B true)],[]⟩ rfl (ab.ret ?_)
  obtain rfl:=Option.some.inj h
  refine Fin.ah ⟨[(4,_),(5,_)],[]⟩ rfl (Fin.aq [.one (.str x_2),.one (.bool true)] (.inl rfl) rfl (.cons (.tmp rfl) (.cons (.tmp rfl) .nil)) ⟨rfl,rfl⟩)
def cZ (F:Nat) (s0:bg) (prefix0:bg):Option (bg × Bool) :=
 Option.bind (eD F s0 prefix0) (b7 fun x_1 x_2=>some (x_1,x_2))
theorem gG {F:Nat} {s0:bg} {prefix0:bg} {r:bg × Bool} (h:cZ F s0 prefix0 = some r):az Tryz.prog (bj mx) 117 [] [.one (.str s0),.one (.str prefix0)] (Is [] (.fE [.one (.str r.1),.one (.bool r.2)])):=by
 unfold cZ at h
 refine az.intro 11 Tryz.func117 Tryz.ntmps117 rfl (by simp) fun E=>?_
 show ab _ E ⟨11,[],[]⟩ _ ⟨[(0,.b (.one (.str s0))),(1,.b (.one (.str prefix0)))],[]⟩ _
 refine ab.seq (ab.aa ?_)
 refine Oc oa (Oc oa ?_)
 refine ad.aj ⟨[(0,.b (.one (.str s0))),(1,.b (.one (.str prefix0)))],[]⟩ rfl (ab.seq (ab.aa ?_))
 refine Oc om (Oc om ?_)
 obtain ⟨⟨x_1,x_2⟩,e1,h⟩:=aE h
 refine Oc (ae (lO e1) goes163 rfl rfl) (Oc (ay rfl rfl) (Oc (ay rfl rfl) (Oc oa (Oc oa ?_))))
 refine ad.aj ⟨[(4,.b (.one (.str x_1))),(5,B x_2)],[]⟩ rfl (ab.ret ?_)
 obtain rfl:=Option.some.inj h
 refine Fin.ah ⟨[(4,_),(5,_)],[]⟩ rfl (Fin.aq [.one (.str x_1),.one (.bool x_2)] (.inl rfl) rfl (.cons (.tmp rfl) (.cons (.tmp rfl) .nil)) ⟨rfl,rfl⟩)
def dF (F:Nat) (r0s:bg) (r0q:aw) (r0sign:Int):Option (Int × Int × bg) :=
 Option.bind (cZ F r0s [94]) (b7 fun x_1 x_2=>if (!x_2) = true then (some (1,0,r0s)) else (Option.bind (cZ F x_1 [45]) (b7 fun x_3 x_4=>Option.bind (cV F 120 x_3 r0q r0sign) (b7 fun x_5 x_6=>Option.bind (iter F (b7 fun n_8 xp_9=>if decide (xp_9 < x_5.length) = true then (bD (IntKind.i32.wrap ((gx x_5 xp_9) - 48)) fun x_11=>bD (IntKind.i64.wrap ((IntKind.i64.wrap (n_8 * 10)) + (IntKind.i64.wrap x_11))) fun x_12=>some (.inl (min x_12 17,fY x_5 xp_9))) else (some (.inr n_8))) (0,0)) (fun n_7=>(bA ((!((decide (x_5 = [])) || (decide (16 < n_7)))) && (decide (1 < (x_5.length:Int)))) (bB x_5 0)).bind fun x_13=>bD (((decide (x_5 = [])) || (decide (16 < n_7))) || ((decide (1 < (x_5.length:Int))) && (decide ((x_13.toNat:Int) = 48)))) fun x_14=>if (x_14 || (x_4 && (decide (n_7 = 0)))) = true then (some (0,280,x_6)) else (Option.bind (if x_4 = true then (some (IntKind.i64.wrap (-n_7))) else (some n_7)) (fun n_15=>some (n_15,0,x_6))))))))
theorem lP {F:Nat} {r0s:bg} {r0q:aw} {r0sign:Int} {r:Int × Int × bg} (h:dF F r0s r0q r0sign = some r):az Tryz.prog (bj mx) 133 [(1,.box 94 (.str r0s :: (ap r0q ++ ([.i r0sign]))))] [.ptr 1 0] (Is [(1,.box 94 (.str r.2.2 :: (ap r0q ++ ([.i r0sign]))))] (.fE [.one (.i r.1),.one (.i r.2.1)])):=by
 unfold dF at h
 refine az.intro 69 Tryz.func133 Tryz.ntmps133 rfl (by simp) fun E=>?_
 show ab _ E ⟨69,[1],[1]⟩ _ ⟨[(0,Pt 1 0)],[(1,.box 94 (.str r0s :: (ap r0q ++ ([.i r0sign]))))]⟩ _
 refine ab.seq (ab.aa ?_)
 refine Oc oa (Oc oa ?_)
 refine ad.aj ⟨[(0,Pt 1 0)],[(1,.box 94 (.str r0s :: (ap r0q ++ ([.i r0sign]))))]⟩ rfl (ab.seq (ab.aa ?_))
 refine Oc om (Oc (aR rfl) (Oc (af dp rfl rfl) (Oc (ax fj rfl rfl rfl) ?_)))
 obtain ⟨⟨x_1,x_2⟩,e1,h⟩:=aE h
 refine Oc (ae (gG e1) wB rfl rfl) (ad.ah ⟨[(0,_),(15,.fE [.one (.str x_1),.one (.bool x_2)])],[(1,_)]⟩ rfl (Oc om (Oc (ay rfl rfl) (Oc (ay rfl rfl) (Oc oa (Oc oa ?_))))))
 refine ad.aj ⟨[(0,_),(4,.b (.one (.str x_1))),(5,B x_2)],[(1,_)]⟩ rfl (ab.seq (ab.seq (ab.aa ?_)))
 refine Oc om (Oc (bq rfl) ?_)
 refine ad.aj ⟨[(0,_),(4,_),(19,B (!x_2))],[(1,_)]⟩ rfl (ab.ite h rfl (fun _ h=>?_) (fun _ h=>?_))
 ·refine ab.seq (ab.aa ?_)
  refine Oc oa (Oc oa ?_)
  refine ad.aj ⟨[(2,I 1),(3,I 0)],[(1,_)]⟩ rfl (ab.ret (Fin.ar ?_))
  obtain rfl:=Option.some.inj h
  refine Fin.ah ⟨[(2,_),(3,_)],[(1,_)]⟩ rfl ?_
  exact Fin.result [.one (.i 1),.one (.i 0)] (.inl rfl) rfl (.cons (.tmp rfl) (.cons (.tmp rfl) .nil)) ⟨rfl,rfl⟩
 ·refine ab.skip (Fin.ah ⟨[(0,_),(4,_)],[(1,_)]⟩ rfl (Fin.then (ab.seq (ab.aa ?_))))
  refine Oc om (Oc om ?_)
  obtain ⟨⟨x_3,x_4⟩,e2,h⟩:=aE h
  refine Oc (ae (gG e2) wB rfl rfl) (Oc om (Oc (ay rfl rfl) ?_))
  refine ad.ah ⟨[(0,_),(20,.fE [.one (.str x_3),.one (.bool x_4)]),(21,Pt 1 0),(24,.b (.one (.str x_3)))],[(1,_)]⟩ rfl (Oc (ay rfl rfl) (Oc (aR rfl) (Oc (af dp rfl rfl) (Oc (bQ fj rfl rfl rfl (Nat.le_of_ble_eq_true rfl) rfl) (Oc oa ?_)))))
  refine ad.aj ⟨[(0,_),(5,B x_4)],[(1,.box 94 (.str x_3 :: (ap r0q ++ ([.i r0sign]))))]⟩ rfl (ab.seq (ab.aa ?_))
  refine Oc om ?_
  obtain ⟨⟨x_5,x_6⟩,e3,h⟩:=aE h
  refine Oc (jU (own_a:=[(1,_)]) (jK e3) AR rfl ⟨rfl,trivial⟩ rfl rfl) (Oc oa ?_)
  refine ad.aj ⟨[(5,_),(6,.b (.one (.str x_5)))],[(1,.box 94 (.str x_6 :: (ap r0q ++ ([.i r0sign]))))]⟩ rfl (ab.seq (ab.aa ?_))
  refine Oc oa (ad.aj ⟨[(5,_),(6,_),(7,I 0)],[(1,_)]⟩ rfl ?_)
  obtain ⟨v4,h5,h⟩:=aE h
  refine ab.cB (v:=v4) (fun (n_7:Int)=>⟨[(5,B x_4),(6,.b (.one (.str x_5))),(7,I n_7)],[(1,.box 94 (.str x_6 :: (ap r0q ++ ([.i r0sign]))))]⟩) (fun z=>z) ?_ ?_
  ·refine ab.seq (ab.aa ?_)
   refine Oc om (Oc (nU (k:=101) eg rfl rfl) ?_)
   refine ad.aj ⟨[(5,_),(6,_),(7,_),(31,Pt 101 0)],[(1,_),(101,.s8 x_5 0)]⟩ rfl (ab.block (ab.cS h5 (b7 fun (n_8:Int) (xp_9:Nat)=>⟨[(5,B x_4),(6,.b (.one (.str x_5))),(7,I n_8),(31,Pt 101 0)],[(1,.box 94 (.str x_6 :: (ap r0q ++ ([.i r0sign])))),(101,.s8 x_5 xp_9)]⟩) [5,6,7,31] [1,101] rfl ?_))
   rintro ⟨n_8,xp_9⟩ o6 h7 hy8
   refine ab.seq (ab.aa ?_)
   refine ad.ite h7 (fun hc9 h7=>?_) (fun hc9 h7=>?_)
   ·refine Oc (oZ rfl rfl (of_decide_eq_true hc9)) (Oc (ay rfl rfl) ?_)
    refine ad.aj ⟨[(5,_),(6,_),(7,_),(31,_),(32,.fE [.one (.bool true),.one (.i (xp_9:Nat)),.one (.int .i32 (gx x_5 xp_9))]),(33,B true)],[(1,_),(101,.s8 x_5 (fY x_5 xp_9))]⟩ rfl (ab.seq (ab.Ae rfl (ab.skip (Fin.ah ⟨[(5,_),(6,_),(7,_),(31,_),(32,_)],[(1,_),(101,_)]⟩ rfl (Fin.then (ab.block (ab.seq (ab.aa ?_))))))))
    refine Oc (ay rfl rfl) (Oc oa ?_)
    refine ad.aj ⟨[(5,_),(6,_),(7,_),(9,.b (.one (.int .i32 (gx x_5 xp_9)))),(31,_)],[(1,_),(101,_)]⟩ rfl (ab.aa (Oc om (Oc (fN rfl rfl) (Oc om ?_))))
    refine ad.cp .i32 h7 rfl (bX rfl rfl) (fun x_11 h7=>?_)
    refine Oc (aF Cs lc rfl) (ad.cp .i64 h7 rfl (bb rfl rfl) (fun x_12 h7=>?_))
    refine Oc (yM rfl rfl) (Oc oa ?_)
    refine ad.nil (Fin.aH ?_)
    exact Fin.bR [5,6,7,31] [1,101] (min x_12 17,fY x_5 xp_9) (Option.some.inj h7) rfl
   ·refine Oc (oY rfl rfl (Nat.not_lt.1 (of_decide_eq_false hc9))) (Oc (ay rfl rfl) ?_)
    refine ad.aj ⟨[(5,_),(6,_),(7,_),(31,_),(32,.fE [.one (.bool false)]),(33,B false)],[(1,_),(101,_)]⟩ rfl (ab.seq (ab.xj rfl (ab.exit (Fin.aG ?_))))
    obtain rfl:=hy8 _ (Option.some.inj h7).symm
    refine Fin.aG (Fin.aY ?_)
    exact Fin.join [5,6,7] [1] n_8 rfl rfl
  ·rintro n_7 hv
   subst v4
   refine ab.seq (ab.seq (ab.aa ?_))
   refine Oc om (Oc (bh rfl rfl) (Oc om ?_))
   refine cN (!(decide (x_5 = []))) [] (fun g10=>trivial) (fun g10=>om) (cN (!(decide (x_5 = []))) [45] (fun g11=>by exact ⟨g11,trivial⟩) (fun g11=>dB rfl rfl) (Oc (aU (fun e=>by rw [e]; rfl) rfl rfl rfl rfl) (Oc om ?_)))
   refine ad.ah ⟨[(5,_),(6,_),(7,_),(48,B ((decide (x_5 = [])) || (decide (16 < n_7))))],[(1,_)]⟩ rfl (cN (!((decide (x_5 = [])) || (decide (16 < n_7)))) [] (fun g12=>trivial) (fun g12=>om) (cN (!((decide (x_5 = [])) || (decide (16 < n_7)))) [49] (fun g13=>by exact ⟨g13,trivial⟩) (fun g13=>b6 eg rfl) (cN (!((decide (x_5 = [])) || (decide (16 < n_7)))) [50] (fun g14=>by exact ⟨g14,trivial⟩) (fun g14=>dB rfl rfl) (cN (!((decide (x_5 = [])) || (decide (16 < n_7)))) [51] (fun g15=>by exact ⟨g15,trivial⟩) (fun g15=>om) (ad.dy ((!((decide (x_5 = [])) || (decide (16 < n_7)))) && (decide (1 < (x_5.length:Int)))) 99 [] (.under rfl) (gu _ _) rfl rfl (fun g16=>by exact trivial) (fun g16=>om) ?_)))))
   obtain ⟨x_13,e18,h⟩:=aE h
   refine ad.dy ((!((decide (x_5 = [])) || (decide (16 < n_7)))) && (decide (1 < (x_5.length:Int)))) 99 [53] (.under rfl) (gu _ _) rfl rfl (fun g17=>⟨g17,trivial⟩) (fun g17=>cf eg rfl rfl (bp (gc e18 g17)) (gf (gc e18 g17))) (ad.dy ((!((decide (x_5 = [])) || (decide (16 < n_7)))) && (decide (1 < (x_5.length:Int)))) 99 [54] (.under rfl) (gu _ _) rfl rfl (fun g19=>⟨g19,trivial⟩) (fun g19=>cy rfl rfl) (ad.ah ⟨[(5,_),(7,_),(48,_),(52,.dA (!((decide (x_5 = [])) || (decide (16 < n_7)))) (.one (.bool (decide (1 < (x_5.length:Int)))))),(55,.dA ((!((decide (x_5 = [])) || (decide (16 < n_7)))) && (decide (1 < (x_5.length:Int)))) (.one (.bool (decide ((x_13.toNat:Int) = 48)))))],[(1,_)]⟩ rfl (cN (!((decide (x_5 = [])) || (decide (16 < n_7)))) [52] (fun g20=>⟨g20,trivial⟩) (fun g20=>aD (fun e=>by rw [g20,e]; rfl) rfl rfl rfl rfl) (ad.iJ h rfl (aU (fun e=>by rw [e]; rfl) rfl rfl rfl rfl) (fun x_14 h=>?_)))))
   refine Oc om (cN (!x_14) [] (fun g21=>by exact trivial) (fun g21=>om) (cN (!x_14) [59] (fun g22=>by exact ⟨g22,trivial⟩) (fun g22=>om) (ad.dy ((!x_14) && x_4) 99 [] (.under rfl) (gu _ _) rfl rfl (fun g23=>by exact trivial) (fun g23=>om) (ad.dy ((!x_14) && x_4) 99 [61] (.under rfl) (gu _ _) rfl rfl (fun g24=>by exact ⟨g24,trivial⟩) (fun g24=>cy rfl rfl) (cN (!x_14) [60] (fun g25=>by exact ⟨g25,trivial⟩) (fun g25=>aD (fun e=>by rw [g25,e]; rfl) rfl rfl rfl rfl) ?_)))))
   refine Oc (aU (fun e=>by rw [e]; rfl) rfl rfl rfl rfl) (ad.aj ⟨[(5,_),(7,_),(64,B (x_14 || (x_4 && (decide (n_7 = 0)))))],[(1,_)]⟩ rfl (ab.ite h rfl (fun _ h=>?_) (fun _ h=>?_)))
   ·refine ab.seq (ab.aa ?_)
    refine Oc oa (Oc oa ?_)
    refine ad.aj ⟨[(2,I 0),(3,I 280)],[(1,_)]⟩ rfl (ab.ret (Fin.ar ?_))
    obtain rfl:=Option.some.inj h
    refine Fin.ah ⟨[(2,_),(3,_)],[(1,_)]⟩ rfl ?_
    exact Fin.result [.one (.i 0),.one (.i 280)] (.inl rfl) rfl (.cons (.tmp rfl) (.cons (.tmp rfl) .nil)) ⟨rfl,rfl⟩
   ·refine ab.skip (Fin.ah ⟨[(5,_),(7,_)],[(1,_)]⟩ rfl (Fin.then ?_))
    obtain ⟨v26,h27,h⟩:=aE h
    refine ab.cB (v:=v26) (fun (n_15:Int)=>⟨[(7,I n_15)],[(1,.box 94 (.str x_6 :: (ap r0q ++ ([.i r0sign]))))]⟩) (fun z=>z) ?_ ?_
    ·refine ab.seq (ab.aa ?_)
     refine Oc om (ad.aj ⟨[(7,_),(65,B x_4)],[(1,_)]⟩ rfl (ab.ite h27 rfl (fun _ h27=>?_) (fun _ h27=>?_)))
     ·refine ab.aa (Oc om (Oc (mn rfl) (Oc oa ?_)))
      refine ad.nil ?_
      exact Fin.join [7] [1] (IntKind.i64.wrap (-n_7)) (Option.some.inj h27) rfl
     ·refine ab.skip ?_
      exact Fin.join [7] [1] n_7 (Option.some.inj h27) rfl
    ·rintro n_15 hv
     subst v26
     refine ab.seq (ab.aa ?_)
     refine Oc om (Oc oa (Oc oa ?_))
     refine ad.aj ⟨[(2,I n_15),(3,I 0)],[(1,_)]⟩ rfl (ab.ret ?_)
     obtain rfl:=Option.some.inj h
     refine Fin.ah ⟨[(2,_),(3,_)],[(1,_)]⟩ rfl ?_
     exact Fin.result [.one (.i n_15),.one (.i 0)] (.inl rfl) rfl (.cons (.tmp rfl) (.cons (.tmp rfl) .nil)) ⟨rfl,rfl⟩
def lB (F:Nat) (a0:Int) (b0:Int):Option bN :=
 (ja F a0).bind fun x_1=>(ja F b0).bind fun x_2=>(iS F x_1 x_2).bind fun x_3=>some x_3
theorem yj {F:Nat} {a0:Int} {b0:Int} {r:bN} (h:lB F a0 b0 = some r):az Tryz.prog (bj mx) 23 [] [.one (.i a0),.one (.i b0)] (Is [] (.b (.agg (aI r)))):=by
 unfold lB at h
 refine az.intro 10 Tryz.func23 Tryz.ntmps23 rfl (by simp) fun E=>?_
 show ab _ E ⟨10,[],[]⟩ _ ⟨[(0,I a0),(1,I b0)],[]⟩ _
 refine ab.seq (ab.aa ?_)
 refine Oc (aA (k:=101) bO rfl) (ad.aj ⟨[(0,I a0),(1,I b0),(4,Pt 101 0)],[(101,.box 27 eh)]⟩ rfl (ab.seq (ab.aa ?_)))
 refine Oc om ?_
 obtain ⟨x_1,e1,h⟩:=aE h
 refine Oc (ae (gO e1) mq rfl rfl) (Oc om ?_)
 refine ad.ah ⟨[(4,_),(6,.b (.agg (au x_1))),(7,I b0)],[(101,_)]⟩ rfl ?_
 obtain ⟨x_2,e2,h⟩:=aE h
 refine Oc (ae (gO e2) mq rfl rfl) ?_
 obtain ⟨x_3,e3,h⟩:=aE h
 refine Oc (ae (dP e3) ku rfl rfl) (Oc (ag aC rfl rfl rfl rfl (Nat.le_of_ble_eq_true rfl) rfl) ?_)
 refine ad.aj ⟨[(4,_)],[(101,.box 27 (aI x_3))]⟩ rfl (ab.ret ?_)
 obtain rfl:=Option.some.inj h
 refine Fin.ah ⟨[(4,_)],[(101,_)]⟩ rfl (Fin.aq [.agg (aI x_3)] (.inl rfl) rfl (.cons (.agg aC rfl rfl rfl rfl) .nil) ⟨rfl,rfl⟩)
def eu (F:Nat) (r0s:bg) (r0q:aw) (r0sign:Int):Option (Int × bg × aw × Int) :=
 Option.bind (fp F r0s r0q r0sign) (b7 fun x_1 x_2=>if (decide (x_1 = [])) = true then (some (280,x_2,r0q,r0sign)) else (Option.bind (iter F (fun x_3=>if (decide (x_3 < 23)) = true then (Option.bind ((bB cE x_3).bind fun x_4=>if (decide (x_4.name ≠ x_1)) = true then (some (.inl ())) else (Option.bind (dF F x_2 r0q r0sign) (kA fun x_5 x_6 x_7=>if (decide (x_6 ≠ 0)) = true then (some (.inr (x_6,x_7,r0q,r0sign))) else (Option.bind (fl F r0q.U x_4.unit (IntKind.i64.wrap (r0sign * x_5))) (b7 fun x_8 x_9=>if (decide (x_9 ≠ 0)) = true then (some (.inr (x_9,x_7,(⟨r0q.V,x_8⟩:aw),r0sign))) else (Option.bind (if (decide ((IntKind.i64.wrap (r0sign * x_5)) < 0)) = true then (some 21) else (some 25)) (fun combineNumbers_10=>Option.bind (iter F (b7 fun r_12 x_13=>if (decide (x_13 < (max x_5 (IntKind.i64.wrap (-x_5))))) = true then ((lB F x_4.n x_4.d).bind fun x_15=>(ic F combineNumbers_10 r_12.q.V x_15).bind fun x_16=>some (.inl ((⟨r_12.s,(⟨x_16,r_12.q.U⟩:aw),r_12.sign⟩:Reader),IntKind.i64.wrap (x_13 + 1)))) else (some (.inr r_12))) ((⟨x_7,(⟨r0q.V,x_8⟩:aw),r0sign⟩:Reader),0)) (fun r_11=>(dE F r_11.q.V).bind fun x_17=>if (!x_17) = true then (some (.inr (30,r_11.s,r_11.q,r_11.sign))) else (some (.inr (0,r_11.s,r_11.q,r_11.sign))))))))))) (j4 (fun _=>some (.inl (IntKind.i64.wrap (x_3 + 1)))) (fun y=>some (.inr (.inr y))))) else (some (.inr (.inl ())))) 0) (j4 (fun _=>some (5,x_2,r0q,r0sign)) (fun y=>some y))))
theorem mX {F:Nat} {r0s:bg} {r0q:aw} {r0sign:Int} {r:Int × bg × aw × Int} (h:eu F r0s r0q r0sign = some r):az Tryz.prog (bj mx) 70 [(1,.box 94 (.str r0s :: (ap r0q ++ ([.i r0sign]))))] [.ptr 1 0] (Is [(1,.box 94 (.str r.2.1 :: (ap r.2.2.1 ++ ([.i r.2.2.2]))))] (.b (.one (.i r.1)))):=by
 unfold eu at h
 refine az.intro 91 Tryz.func70 Tryz.ntmps70 rfl (by simp) fun E=>?_
 show ab _ E ⟨91,[1],[1]⟩ _ ⟨[(0,Pt 1 0)],[(1,.box 94 (.str r0s :: (ap r0q ++ ([.i r0sign]))))]⟩ _
 refine ab.seq (ab.aa ?_)
 refine Oc oa (ad.aj ⟨[(0,Pt 1 0)],[(1,.box 94 (.str r0s :: (ap r0q ++ ([.i r0sign]))))]⟩ rfl (ab.seq (ab.aa ?_)))
 refine Oc om ?_
 obtain ⟨⟨x_1,x_2⟩,e1,h⟩:=aE h
 refine Oc (jU (own_a:=[(1,_)]) (od e1) goes132 rfl ⟨rfl,trivial⟩ rfl rfl) (Oc oa ?_)
 refine ad.aj ⟨[(0,_),(3,.b (.one (.str x_1)))],[(1,.box 94 (.str x_2 :: (ap r0q ++ ([.i r0sign]))))]⟩ rfl (ab.seq (ab.seq (ab.aa ?_)))
 refine Oc om (Oc (bh rfl rfl) ?_)
 refine ad.aj ⟨[(0,_),(3,_),(12,B (decide (x_1 = [])))],[(1,_)]⟩ rfl (ab.ite h rfl (fun _ h=>?_) (fun _ h=>?_))
 ·refine ab.seq (ab.aa ?_)
  refine Oc oa (ad.aj ⟨[(2,I 280)],[(1,_)]⟩ rfl (ab.ret (Fin.ar ?_)))
  obtain rfl:=Option.some.inj h
  refine Fin.ah ⟨[(2,_)],[(1,_)]⟩ rfl ?_
  exact Fin.result [.one (.i 280)] (.inl rfl) rfl (.cons (.tmp rfl) .nil) ⟨rfl,rfl⟩
 ·refine ab.skip (Fin.ah ⟨[(0,_),(3,_)],[(1,_)]⟩ rfl (Fin.then ?_))
  obtain ⟨v2,h3,h⟩:=aE h
  refine ab.cB (v:=v2) (fun (_:Unit)=>⟨[],[(1,.box 94 (.str x_2 :: (ap r0q ++ ([.i r0sign]))))]⟩) (fun z=>.inl z) ?_ ?_
  ·refine ab.seq (ab.aa ?_)
   refine Oc (zG Dj BN BM rfl) (Oc om ?_)
   refine ad.aj ⟨[(0,_),(3,_),(13,.b (.agg (cE.map ky).flatten)),(14,I 0)],[(1,_)]⟩ rfl (ab.block (ab.cS h3 (fun (x_3:Int)=>⟨[(0,Pt 1 0),(3,.b (.one (.str x_1))),(13,.b (.agg (cE.map ky).flatten)),(14,I x_3)],[(1,.box 94 (.str x_2 :: (ap r0q ++ ([.i r0sign]))))]⟩) [0,3,13,14] [1] rfl ?_))
   rintro x_3 o4 h5 hy6
   refine ab.seq (ab.aa ?_)
   refine Oc (bK rfl rfl) (ad.aj ⟨[(0,_),(3,_),(13,_),(14,_),(15,B (decide (x_3 < 23)))],[(1,_)]⟩ rfl (ab.seq (ab.ite h5 rfl (fun _ h5=>?_) (fun _ h5=>?_))))
   ·refine ab.skip (Fin.ah ⟨[(0,_),(3,_),(13,_),(14,_)],[(1,_)]⟩ rfl (Fin.then ?_))
    obtain ⟨v7,h8,h5⟩:=aE h5
    refine ab.cB (v:=v7) (fun (_:Unit)=>⟨[(0,Pt 1 0),(3,.b (.one (.str x_1))),(13,.b (.agg (cE.map ky).flatten)),(14,I x_3)],[(1,.box 94 (.str x_2 :: (ap r0q ++ ([.i r0sign]))))]⟩) (fun z=>.inl z) ?_ ?_
    ·refine ab.block (ab.seq (ab.aa ?_))
     obtain ⟨x_4,e9,h8⟩:=aE h8
     refine Oc (yn (m:=23) Di xn rfl rfl (bp e9) (b9 e9) (ix_flat (e:=ky) (sz:=6) (fun _=>rfl) e9)) (Oc (aA (k:=101) By rfl) (Oc (ag xn rfl rfl rfl rfl (Nat.le_of_ble_eq_true rfl) rfl) ?_))
     refine ad.aj ⟨[(0,_),(3,_),(5,Pt 101 0),(13,_),(14,_)],[(1,_),(101,.box 142 (ky x_4))]⟩ rfl (ab.seq (ab.seq (ab.aa ?_)))
     refine Oc (af zu rfl rfl) (Oc (ax fj rfl rfl rfl) (Oc om (Oc (qL rfl rfl) ?_)))
     refine ad.aj ⟨[(0,_),(3,_),(5,_),(13,_),(14,_),(20,B (decide (x_4.name ≠ x_1)))],[(1,_),(101,_)]⟩ rfl (ab.ite h8 rfl (fun _ h8=>?_) (fun _ h8=>?_))
     ·refine ab.exit (Fin.aG (Fin.aY ?_))
      exact Fin.join [0,3,13,14] [1] () (Option.some.inj h8) rfl
     ·refine ab.skip (Fin.ah ⟨[(0,_),(5,_)],[(1,_),(101,_)]⟩ rfl (Fin.then (ab.seq (ab.aa ?_))))
      refine Oc om ?_
      obtain ⟨⟨x_5,x_6,x_7⟩,e10,h8⟩:=aE h8
      refine Oc (jU (own_a:=[(1,_)]) (lP e10) goes133 rfl ⟨rfl,trivial⟩ rfl rfl) (Oc om (Oc (ay rfl rfl) (Oc (ay rfl rfl) (Oc oa (Oc oa ?_)))))
      refine ad.aj ⟨[(0,_),(5,_),(6,I x_5),(7,I x_6)],[(1,.box 94 (.str x_7 :: (ap r0q ++ ([.i r0sign])))),(101,_)]⟩ rfl (ab.seq (ab.seq (ab.aa ?_)))
      refine Oc om (Oc (dY rfl rfl) ?_)
      refine ad.aj ⟨[(0,_),(5,_),(6,_),(7,_),(27,B (decide (x_6 ≠ 0)))],[(1,_),(101,_)]⟩ rfl (ab.ite h8 rfl (fun _ h8=>?_) (fun _ h8=>?_))
      ·refine ab.seq (ab.aa ?_)
       refine Oc om (Oc oa ?_)
       refine ad.aj ⟨[(2,I x_6)],[(1,_)]⟩ rfl (ab.ret (Fin.ar (Fin.aL ?_)))
       obtain rfl:=Option.some.inj h8
       refine Fin.ar ?_
       obtain rfl:=hy6 _ (Option.some.inj h5).symm
       refine Fin.ar (Fin.aL (Fin.ar ?_))
       obtain rfl:=Option.some.inj h
       refine Fin.ah ⟨[(2,_)],[(1,_)]⟩ rfl ?_
       exact Fin.result [.one (.i x_6)] (.inl rfl) rfl (.cons (.tmp rfl) .nil) ⟨rfl,rfl⟩
      ·refine ab.skip (Fin.ah ⟨[(0,_),(5,_),(6,_)],[(1,_),(101,_)]⟩ rfl (Fin.then (ab.seq ?_)))
       refine ab.ah ⟨[(0,_),(5,_),(6,_)],[(1,_),(101,_)]⟩ rfl ?_
       obtain ⟨⟨x_8,x_9⟩,e11,h8⟩:=aE h8
       refine ab.pz mixed [false,false,false,false,false,false,false,false,false,false,false,false,false,false,false,false,false,false,false,false,false,true,false] [Pt 1 0,Pt 1 0,Pt 1 0,Pt 1 1,Pt 1 37,.b (.agg (aZ r0q.U)),Pt 101 3,.b (.agg (aZ x_4.unit)),Pt 1 0,Pt 1 0,Pt 1 40,I r0sign,I x_5,I (IntKind.i64.wrap (r0sign * x_5)),.fE [.agg (aZ x_8),.one (.i x_9)],.fE [.agg (aZ x_8),.one (.i x_9)],.b (.agg (aZ x_8)),I x_9,Pt 1 0,Pt 1 1,Pt 1 37,B true,I x_9] [⟨[false,false,false,false,false,false,false,false,false,false,false,false,false,false,false,false,false,false,false,false,false,false,false],[(0,Pt 1 0),(5,Pt 101 0),(6,I x_5)],[(1,.box 94 (.str x_7 :: (ap r0q ++ ([.i r0sign])))),(101,.box 142 (ky x_4))],[true,true,true,true,true,true,true,true,true,true,true,true,true,true,true,true,true,true,true,true,true,true,true],[]⟩,⟨[false,false,false,false,false,false,false,false,false,false,false,false,false,false,false,false,false,false,false,false,false,true,false],[(0,Pt 1 0),(5,Pt 101 0),(6,I x_5)],[(1,.box 94 (.str x_7 :: (aI r0q.V ++ (aZ x_8 ++ ([.i r0sign]))))),(101,.box 142 (ky x_4))],[true,true,true,true,true,true,true,true,true,true,true,true,true,true,true,true,true,true,true,true,true,true,true],[0,1,2,3,4,5,6,7,8,9,10,11,12,13,14,15,16,18,19,20,21]⟩] rfl (⟨by kernel_rfl,⟨⟨Pt 1 0,fun _=>rfl,fun _=>.p (by exact fW rfl)⟩,⟨Pt 1 0,fun _=>rfl,fun _=>.p (by exact fW rfl)⟩,⟨Pt 1 0,fun _=>rfl,fun _=>.p (by exact aR rfl)⟩,⟨Pt 1 1,fun _=>rfl,fun _=>.p (by exact af kW rfl rfl)⟩,⟨Pt 1 37,fun _=>rfl,fun _=>.p (by exact af c8 rfl rfl)⟩,⟨.b (.agg (aZ r0q.U)),fun _=>rfl,fun _=>.p (by exact aQ bz rfl rfl rfl rfl)⟩,⟨Pt 101 3,fun _=>rfl,fun _=>.p (by exact af zq rfl rfl)⟩,⟨.b (.agg (aZ x_4.unit)),fun _=>rfl,fun _=>.p (by exact aQ bz rfl rfl rfl rfl)⟩,⟨Pt 1 0,fun _=>rfl,fun _=>.p (by exact fW rfl)⟩,⟨Pt 1 0,fun _=>rfl,fun _=>.p (by exact aR rfl)⟩,⟨Pt 1 40,fun _=>rfl,fun _=>.p (by exact af pN rfl rfl)⟩,⟨I r0sign,fun _=>rfl,fun _=>.p (by exact ax bW rfl rfl rfl)⟩,⟨I x_5,fun _=>rfl,fun _=>.p (by exact fW rfl)⟩,⟨I (IntKind.i64.wrap (r0sign * x_5)),fun _=>rfl,fun _=>.p (by exact fN rfl rfl)⟩,⟨.fE [.agg (aZ x_8),.one (.i x_9)],fun _=>rfl,fun _=>.p (by exact ae (jG e11) yX rfl rfl)⟩,⟨.fE [.agg (aZ x_8),.one (.i x_9)],fun _=>rfl,fun _=>.p (by exact fW rfl)⟩,⟨.b (.agg (aZ x_8)),fun _=>rfl,fun _=>.p (by exact ay rfl rfl)⟩,⟨I x_9,fun _=>rfl,fun _=>.p (by exact ay rfl rfl)⟩,⟨Pt 1 0,fun _=>rfl,fun _=>.p (by exact aR rfl)⟩,⟨Pt 1 1,fun _=>rfl,fun _=>.p (by exact af kW rfl rfl)⟩,⟨Pt 1 37,fun _=>rfl,fun _=>.p (by exact af c8 rfl rfl)⟩,⟨_,none,.b (.one .any),rfl,(fun e=>by simp at e),rfl,rfl,fun _=>.qP [1,101] (by exact .p (by exact ag bz rfl rfl rfl rfl (Nat.le_of_ble_eq_true rfl) rfl)) (by exact rfl)⟩,trivial,trivial⟩,⟨by kernel_rfl,⟨trivial,trivial,trivial,trivial,trivial,trivial,trivial,trivial,trivial,trivial,trivial,trivial,trivial,trivial,trivial,trivial,trivial,⟨I x_9,fun _=>rfl,fun _=>.p (by exact ay rfl rfl)⟩,trivial,trivial,trivial,trivial,⟨I x_9,fun _=>rfl,fun _=>.p (by exact vr rfl)⟩,trivial⟩,trivial⟩⟩) rfl rfl rfl [0,5,6,7] [1,101] (s':=⟨[(0,_),(5,_),(6,_),(7,I x_9)],[(1,.box 94 (.str x_7 :: (aI r0q.V ++ (aZ x_8 ++ ([.i r0sign]))))),(101,_)]⟩) rfl ?_
       refine ab.seq (ab.seq (ab.aa ?_))
       refine Oc om (Oc (dY rfl rfl) ?_)
       refine ad.aj ⟨[(0,_),(5,_),(6,_),(7,_),(51,B (decide (x_9 ≠ 0)))],[(1,_),(101,_)]⟩ rfl (ab.ite h8 rfl (fun _ h8=>?_) (fun _ h8=>?_))
       ·refine ab.seq (ab.aa ?_)
        refine Oc om (Oc oa ?_)
        refine ad.aj ⟨[(2,I x_9)],[(1,_)]⟩ rfl (ab.ret (Fin.ar (Fin.aL ?_)))
        obtain rfl:=Option.some.inj h8
        refine Fin.ar ?_
        obtain rfl:=hy6 _ (Option.some.inj h5).symm
        refine Fin.ar (Fin.aL (Fin.ar ?_))
        obtain rfl:=Option.some.inj h
        refine Fin.ah ⟨[(2,_)],[(1,_)]⟩ rfl ?_
        exact Fin.result [.one (.i x_9)] (.inl rfl) rfl (.cons (.tmp rfl) .nil) ⟨rfl,rfl⟩
       ·refine ab.skip (Fin.ah ⟨[(0,_),(5,_),(6,_)],[(1,_),(101,_)]⟩ rfl (Fin.then (ab.seq (ab.aa ?_))))
        refine Oc oa (ad.aj ⟨[(0,_),(5,_),(6,_),(8,.b (.one (.raw (.func (.func 25) #[] #[]))))],[(1,_),(101,_)]⟩ rfl ?_)
        obtain ⟨v12,h13,h8⟩:=aE h8
        refine ab.cB (v:=v12) (fun (combineNumbers_10:Nat)=>⟨[(0,Pt 1 0),(5,Pt 101 0),(6,I x_5),(8,.b (.one (.raw (.func (.func combineNumbers_10) #[] #[]))))],[(1,.box 94 (.str x_7 :: (aI r0q.V ++ (aZ x_8 ++ ([.i r0sign]))))),(101,.box 142 (ky x_4))]⟩) (fun z=>z) ?_ ?_
        ·refine ab.seq (ab.aa ?_)
         refine Oc om (Oc (aR rfl) (Oc (af pN rfl rfl) (Oc (ax bW rfl rfl rfl) (Oc om (Oc (fN rfl rfl) ?_)))))
         refine Oc (bK rfl rfl) (ad.aj ⟨[(0,_),(5,_),(6,_),(8,_),(59,B (decide ((IntKind.i64.wrap (r0sign * x_5)) < 0)))],[(1,_),(101,_)]⟩ rfl (ab.ite h13 rfl (fun _ h13=>?_) (fun _ h13=>?_)))
         ·refine ab.aa (Oc oa (ad.nil ?_))
          exact Fin.join [0,5,6,8] [1,101] 21 (Option.some.inj h13) rfl
         ·refine ab.skip ?_
          exact Fin.join [0,5,6,8] [1,101] 25 (Option.some.inj h13) rfl
        ·rintro combineNumbers_10 hv
         subst v12
         obtain ⟨v14,h15,h8⟩:=aE h8
         refine ab.cB (v:=v14) (fun (r_11:Reader)=>⟨[(0,Pt 1 0)],[(1,.box 94 (ri r_11))]⟩) (fun z=>z) ?_ ?_
         ·refine ab.seq (ab.aa ?_)
          refine Oc om (Oc om (Oc (mn rfl) (Oc (tM rfl rfl) (Oc om ?_))))
          refine ad.aj ⟨[(0,_),(5,_),(8,_),(63,I (max x_5 (IntKind.i64.wrap (-x_5)))),(64,I 0)],[(1,_),(101,_)]⟩ rfl (ab.block (ab.cS h15 (b7 fun (r_12:Reader) (x_13:Int)=>⟨[(0,Pt 1 0),(5,Pt 101 0),(8,.b (.one (.raw (.func (.func combineNumbers_10) #[] #[])))),(63,I (max x_5 (IntKind.i64.wrap (-x_5)))),(64,I x_13)],[(1,.box 94 (ri r_12)),(101,.box 142 (ky x_4))]⟩) [0,5,8,63,64] [1,101] rfl ?_))
          rintro ⟨r_12,x_13⟩ o16 h17 hy18
          refine ab.seq (ab.aa ?_)
          refine Oc (bK rfl rfl) (ad.aj ⟨[(0,_),(5,_),(8,_),(63,_),(64,_),(65,B (decide (x_13 < (max x_5 (IntKind.i64.wrap (-x_5))))))],[(1,_),(101,_)]⟩ rfl (ab.seq (ab.ite h17 rfl (fun _ h17=>?_) (fun _ h17=>?_))))
          ·refine ab.skip (Fin.ah ⟨[(0,_),(5,_),(8,_),(63,_),(64,_)],[(1,_),(101,_)]⟩ rfl (Fin.then (ab.seq (ab.block ?_))))
           refine ab.ah ⟨[(0,_),(5,_),(8,_),(63,_),(64,_)],[(1,_),(101,_)]⟩ rfl ?_
           obtain ⟨x_15,e19,h17⟩:=aE h17
           obtain ⟨x_16,e20,h17⟩:=aE h17
           refine ab.jy mixed 16 [Pt 1 0,.b (.one (.raw (.func (.func combineNumbers_10) #[] #[]))),Pt 1 0,Pt 1 0,Pt 1 1,Pt 1 1,.b (.agg (aI r_12.q.V)),Pt 101 1,I x_4.n,Pt 101 2,I x_4.d,.b (.agg (aI x_15)),.b (.agg (aI x_16)),Pt 1 0,Pt 1 1,Pt 1 1] [0,5,8,63,64] [1,101] (s':=⟨[(0,_),(5,_),(8,_),(63,_),(64,_)],[(1,.box 94 (.str r_12.s :: (aI x_16 ++ (aZ r_12.q.U ++ ([.i r_12.sign]))))),(101,_)]⟩) rfl ⟨fun _=>.p om,fun _=>.p om,fun _=>.p om,fun _=>.p (aR rfl),fun _=>.p (af kW rfl rfl),fun _=>.p (af c9 rfl rfl),fun _=>.p (lp aC),fun _=>.p (af zt rfl rfl),fun _=>.p (ax bW rfl rfl rfl),fun _=>.p (af zr rfl rfl),fun _=>.p (ax bW rfl rfl rfl),fun _=>.p (ae (yj e19) goes23 rfl rfl),fun _=>.p (pR (qf e20) (qg e20) rfl rfl rfl),fun _=>.p (aR rfl),fun _=>.p (af kW rfl rfl),fun _=>.p (af c9 rfl rfl),trivial⟩ ⟨_,by exact .p (ag aC rfl rfl rfl rfl (Nat.le_of_ble_eq_true rfl) rfl),rfl⟩ rfl (Fin.aH (Fin.ah ⟨[(0,_),(5,_),(8,_),(63,_),(64,_)],[(1,_),(101,_)]⟩ rfl (Fin.then (ab.aa ?_))))
           refine Oc (bb rfl rfl) (Oc om ?_)
           refine ad.nil ?_
           exact Fin.bR [0,5,8,63,64] [1,101] ((⟨r_12.s,(⟨x_16,r_12.q.U⟩:aw),r_12.sign⟩:Reader),IntKind.i64.wrap (x_13 + 1)) (Option.some.inj h17) rfl
          ·refine ab.exit (Fin.aG ?_)
           obtain rfl:=hy18 _ (Option.some.inj h17).symm
           refine Fin.aG (Fin.aY ?_)
           exact Fin.join [0] [1] r_12 rfl rfl
         ·rintro r_11 hv
          subst v14
          refine ab.seq (ab.seq (ab.aa ?_))
          refine Oc om (Oc (aR rfl) (Oc (af kW rfl rfl) (Oc (af c9 rfl rfl) (Oc (lp aC) ?_))))
          obtain ⟨x_17,e21,h8⟩:=aE h8
          refine Oc (ae (dQ e21) kv rfl rfl) (Oc (bq rfl) ?_)
          refine ad.aj ⟨[(89,B (!x_17))],[(1,_)]⟩ rfl (ab.ite h8 rfl (fun _ h8=>?_) (fun _ h8=>?_))
          ·refine ab.seq (ab.aa ?_)
           refine Oc oa (ad.aj ⟨[(2,I 30)],[(1,_)]⟩ rfl (ab.ret (Fin.ar (Fin.aL ?_))))
           obtain rfl:=Option.some.inj h8
           refine Fin.ar ?_
           obtain rfl:=hy6 _ (Option.some.inj h5).symm
           refine Fin.ar (Fin.aL (Fin.ar ?_))
           obtain rfl:=Option.some.inj h
           refine Fin.ah ⟨[(2,_)],[(1,_)]⟩ rfl ?_
           exact Fin.result [.one (.i 30)] (.inl rfl) rfl (.cons (.tmp rfl) .nil) ⟨rfl,rfl⟩
          ·refine ab.skip (Fin.ah ⟨[],[(1,_)]⟩ rfl (Fin.then (ab.seq (ab.aa ?_))))
           refine Oc oa (ad.aj ⟨[(2,I 0)],[(1,_)]⟩ rfl (ab.ret (Fin.aL ?_)))
           obtain rfl:=Option.some.inj h8
           refine Fin.ar ?_
           obtain rfl:=hy6 _ (Option.some.inj h5).symm
           refine Fin.ar (Fin.aL (Fin.ar ?_))
           obtain rfl:=Option.some.inj h
           refine Fin.ah ⟨[(2,_)],[(1,_)]⟩ rfl ?_
           exact Fin.result [.one (.i 0)] (.inl rfl) rfl (.cons (.tmp rfl) .nil) ⟨rfl,rfl⟩
    ·rintro _ hv
     subst v7
     refine ab.aa (Oc (bb rfl rfl) (Oc om ?_))
     refine ad.nil ?_
     exact Fin.bR [0,3,13,14] [1] (IntKind.i64.wrap (x_3 + 1)) (Option.some.inj h5) rfl
   ·refine ab.exit (Fin.aG ?_)
    obtain rfl:=hy6 _ (Option.some.inj h5).symm
    refine Fin.aG (Fin.aY ?_)
    exact Fin.join [] [1] () rfl rfl
  ·rintro _ hv
   subst v2
   refine ab.seq (ab.aa ?_)
   refine Oc oa (ad.aj ⟨[(2,I 5)],[(1,_)]⟩ rfl (ab.ret ?_))
   obtain rfl:=Option.some.inj h
   refine Fin.ah ⟨[(2,_)],[(1,_)]⟩ rfl ?_
   exact Fin.result [.one (.i 5)] (.inl rfl) rfl (.cons (.tmp rfl) .nil) ⟨rfl,rfl⟩
def fM (F:Nat) (s0:bg):Option (aw × Int) :=
 if (decide (100 < (s0.length:Int))) = true then (bD (⟨(⟨(⟨false,false,aP.zero⟩:bt),(⟨false,false,aP.zero⟩:bt)⟩:bN),(⟨0,0,0⟩:aX)⟩:aw) fun x_1=>some (x_1,2)) else ((ml F 1).bind fun x_2=>bD (⟨s0,(⟨x_2,(⟨0,0,0⟩:aX)⟩:aw),1⟩:Reader) fun x_3=>Option.bind (iter F (fun r_4=>Option.bind (eu F r_4.s r_4.q r_4.sign) (un4 fun x_5 x_6 x_7 x_8=>if (decide (x_5 ≠ 0)) = true then (bD (⟨(⟨(⟨false,false,aP.zero⟩:bt),(⟨false,false,aP.zero⟩:bt)⟩:bN),(⟨0,0,0⟩:aX)⟩:aw) fun x_9=>some (.inr (x_9,x_5))) else (if (decide (x_6 = [])) = true then (some (.inr (x_7,0))) else ((bB x_6 0).bind fun x_10=>if decide ((x_10.toNat:Int) = 42) = true then ((iL F x_6 x_7 x_8).bind fun x_11=>(ld x_6 1).bind fun x_12=>some (.inl (⟨x_12,x_7,x_11⟩:Reader))) else (if decide ((x_10.toNat:Int) = 47) = true then ((jf F x_6 x_7 x_8).bind fun x_13=>(ld x_6 1).bind fun x_14=>some (.inl (⟨x_14,x_7,x_13⟩:Reader))) else (bD (⟨(⟨(⟨false,false,aP.zero⟩:bt),(⟨false,false,aP.zero⟩:bt)⟩:bN),(⟨0,0,0⟩:aX)⟩:aw) fun x_15=>some (.inr (x_15,280)))))))) x_3) (fun y=>some y))
theorem iX {F:Nat} {s0:bg} {r:aw × Int} (h:fM F s0 = some r):az Tryz.prog (bj mx) 17 [] [.one (.str s0)] (Is [] (.fE [.agg (ap r.1),.one (.i r.2)])):=by
 unfold fM at h
 refine az.intro 58 Tryz.func17 Tryz.ntmps17 rfl (by simp) fun E=>?_
 show ab _ E ⟨58,[],[]⟩ _ ⟨[(0,.b (.one (.str s0)))],[]⟩ _
 refine ab.seq (ab.aa ?_)
 refine Oc (aA (k:=101) dD rfl) (Oc oa ?_)
 refine ad.aj ⟨[(0,.b (.one (.str s0))),(2,Pt 101 0)],[(101,.box 31 (.bool false :: .bool false :: (eW aP.zero ++ (.bool false :: .bool false :: (eW aP.zero ++ ([.i 0,.i 0,.i 0]))))))]⟩ rfl (ab.seq (ab.seq (ab.aa ?_)))
 refine Oc om (Oc (b6 eg rfl) (Oc (dB rfl rfl) ?_))
 refine ad.aj ⟨[(0,_),(2,_),(10,B (decide (100 < (s0.length:Int))))],[(101,_)]⟩ rfl (ab.ite h rfl (fun _ h=>?_) (fun _ h=>?_))
 ·refine ab.seq (ab.aa ?_)
  refine ad.ek ap h rfl (aV dI rfl rfl) (fun x_1 h=>?_)
  refine Oc (ag aW rfl rfl rfl rfl (Nat.le_of_ble_eq_true rfl) rfl) (Oc oa ?_)
  refine ad.aj ⟨[(2,_),(3,I 2)],[(101,.box 31 (ap x_1))]⟩ rfl (ab.ret (Fin.ar ?_))
  obtain rfl:=Option.some.inj h
  refine Fin.ah ⟨[(2,_),(3,_)],[(101,_)]⟩ rfl (Fin.aq [.agg (ap x_1),.one (.i 2)] (.inl rfl) rfl (.cons (.agg aW rfl rfl rfl rfl) (.cons (.tmp rfl) .nil)) ⟨rfl,rfl⟩)
 ·refine ab.skip (Fin.ah ⟨[(0,_),(2,_)],[(101,_)]⟩ rfl (Fin.then (ab.seq (ab.aa ?_))))
  refine Oc om ?_
  obtain ⟨x_2,e1,h⟩:=aE h
  refine Oc (ae (mS e1) tX rfl rfl) (Oc (aV dI rfl rfl) ?_)
  refine ad.ek ri h rfl (aV BD rfl rfl) (fun x_3 h=>?_)
  refine Oc (aS (k:=102) rfl rfl) (Oc oa ?_)
  refine ad.aj ⟨[(2,_),(4,Pt 102 0)],[(101,_),(102,.box 94 (ri x_3))]⟩ rfl (ab.seq (ab.aa ?_))
  refine Oc (zF (k:=103) undm95 rfl) (Oc om (Oc (sJ rfl rfl) (Oc (Av (l:=[]) qX rfl rfl rfl rfl) (Oc om (Oc (sJ rfl rfl) ?_)))))
  refine Oc (Av (l:=[(42,.pY 68 [.ptr 102 0] [])]) qX rfl rfl rfl rfl) (Oc om (Oc oa ?_))
  refine ad.aj ⟨[(2,_),(4,_),(5,.b (.row 103))],[(101,_),(102,_),(103,.mp (eM .u8 [(42,.pY 68 [.ptr 102 0] []),(47,.pY 69 [.ptr 102 0] [])]))]⟩ rfl (ab.block ?_)
  obtain ⟨v2,h3,h⟩:=aE h
  refine ab.cS h3 (fun (r_4:Reader)=>⟨[(2,Pt 101 0),(4,Pt 102 0),(5,.b (.row 103))],[(101,.box 31 (.bool false :: .bool false :: (eW aP.zero ++ (.bool false :: .bool false :: (eW aP.zero ++ ([.i 0,.i 0,.i 0])))))),(102,.box 94 (ri r_4)),(103,.mp (eM .u8 [(42,.pY 68 [.ptr 102 0] []),(47,.pY 69 [.ptr 102 0] [])]))]⟩) [2,4,5] [101,102,103] rfl ?_
  rintro r_4 o4 h5 hy6
  refine ab.block (ab.seq (ab.seq (ab.aa ?_)))
  refine Oc om ?_
  obtain ⟨⟨x_5,x_6,x_7,x_8⟩,e7,h5⟩:=aE h5
  refine Oc (jU (own_a:=[(102,_)]) ((mX e7).sw 1 102) goes70 rfl ⟨rfl,trivial⟩ rfl rfl) (Oc oa ?_)
  refine ad.aj ⟨[(2,_),(4,_),(5,_),(6,I x_5)],[(101,_),(102,.box 94 (.str x_6 :: (ap x_7 ++ ([.i x_8])))),(103,_)]⟩ rfl (ab.seq (ab.aa ?_))
  refine Oc om (Oc (dY rfl rfl) ?_)
  refine ad.aj ⟨[(2,_),(4,_),(5,_),(6,_),(26,B (decide (x_5 ≠ 0)))],[(101,_),(102,_),(103,_)]⟩ rfl (ab.ite h5 rfl (fun _ h5=>?_) (fun _ h5=>?_))
  ·refine ab.seq (ab.aa ?_)
   refine ad.ek ap h5 rfl (aV dI rfl rfl) (fun x_9 h5=>?_)
   refine Oc om (Oc (ag aW rfl rfl rfl rfl (Nat.le_of_ble_eq_true rfl) rfl) (Oc oa ?_))
   refine ad.aj ⟨[(2,_),(3,I x_5)],[(101,.box 31 (ap x_9))]⟩ rfl (ab.ret (Fin.ar (Fin.aL ?_)))
   obtain rfl:=hy6 _ (Option.some.inj h5).symm
   refine Fin.ar (Fin.aL ?_)
   obtain rfl:=Option.some.inj h
   refine Fin.ah ⟨[(2,_),(3,_)],[(101,_)]⟩ rfl (Fin.aq [.agg (ap x_9),.one (.i x_5)] (.inl rfl) rfl (.cons (.agg aW rfl rfl rfl rfl) (.cons (.tmp rfl) .nil)) ⟨rfl,rfl⟩)
  ·refine ab.skip (Fin.ah ⟨[(2,_),(4,_),(5,_)],[(101,_),(102,_),(103,_)]⟩ rfl (Fin.then (ab.seq (ab.seq (ab.aa ?_)))))
   refine Oc om (Oc (aR rfl) (Oc (af dp rfl rfl) (Oc (ax fj rfl rfl rfl) (Oc (bh rfl rfl) ?_))))
   refine ad.aj ⟨[(2,_),(4,_),(5,_),(33,B (decide (x_6 = [])))],[(101,_),(102,_),(103,_)]⟩ rfl (ab.ite h5 rfl (fun _ h5=>?_) (fun _ h5=>?_))
   ·refine ab.seq (ab.aa ?_)
    refine Oc om (Oc (aR rfl) (Oc (af kW rfl rfl) (Oc (lp aW) (Oc (ag aW rfl rfl rfl rfl (Nat.le_of_ble_eq_true rfl) rfl) (Oc oa ?_)))))
    refine ad.aj ⟨[(2,_),(3,I 0)],[(101,.box 31 (ap x_7))]⟩ rfl (ab.ret (Fin.ar (Fin.aL ?_)))
    obtain rfl:=hy6 _ (Option.some.inj h5).symm
    refine Fin.ar (Fin.aL ?_)
    obtain rfl:=Option.some.inj h
    refine Fin.ah ⟨[(2,_),(3,_)],[(101,_)]⟩ rfl (Fin.aq [.agg (ap x_7),.one (.i 0)] (.inl rfl) rfl (.cons (.agg aW rfl rfl rfl rfl) (.cons (.tmp rfl) .nil)) ⟨rfl,rfl⟩)
   ·refine ab.skip (Fin.ah ⟨[(2,_),(4,_),(5,_)],[(101,_),(102,_),(103,_)]⟩ rfl (Fin.then (ab.seq (ab.aa ?_))))
    refine Oc om (Oc om (Oc (aR rfl) (Oc (af dp rfl rfl) (Oc (ax fj rfl rfl rfl) ?_))))
    obtain ⟨x_10,e8,h5⟩:=aE h5
    refine Oc (cf eg rfl rfl (bp e8) (gf e8)) (ad.ite h5 (fun hc9 h5=>?_) (fun hc9 h5=>?_))
    ·refine Oc (uh (l:=[(42,.pY 68 [.ptr 102 0] []),(47,.pY 69 [.ptr 102 0] [])]) qX rfl rfl rfl (xA hc9)) (Oc oa ?_)
     refine ad.aj ⟨[(2,_),(4,_),(5,_),(7,.b (.pY 68 [.ptr 102 0] []))],[(101,_),(102,_),(103,_)]⟩ rfl (ab.seq (ab.seq (ab.aa ?_)))
     refine Oc om (Oc (vq und1 rfl) ?_)
     refine ad.aj ⟨[(2,_),(4,_),(5,_),(7,_),(46,B false)],[(101,_),(102,_),(103,_)]⟩ rfl (ab.xj rfl (ab.skip (Fin.ah ⟨[(2,_),(4,_),(5,_),(7,_)],[(101,_),(102,_),(103,_)]⟩ rfl (Fin.then (ab.seq (ab.aa ?_))))))
     refine Oc om ?_
     obtain ⟨x_11,e10,h5⟩:=aE h5
     refine Oc (xx (own_a:=[(102,_)]) ((nX e10).sw 1 102) goes68 rfl rfl rfl ⟨rfl,trivial⟩ rfl rfl) (ad.aj ⟨[(2,_),(4,_),(5,_)],[(101,_),(102,.box 94 (.str x_6 :: (ap x_7 ++ ([.i x_11])))),(103,_)]⟩ rfl (ab.aa (Oc om (Oc om (Oc (aR rfl) (Oc (af dp rfl rfl) (Oc (ax fj rfl rfl rfl) ?_)))))))
     obtain ⟨x_12,e11,h5⟩:=aE h5
     refine Oc (gk eg e11 rfl rfl) (Oc (aR rfl) (Oc (af dp rfl rfl) (Oc (bQ fj rfl rfl rfl (Nat.le_of_ble_eq_true rfl) rfl) ?_)))
     refine ad.nil (Fin.aH ?_)
     exact Fin.bR [2,4,5] [101,102,103] (⟨x_12,x_7,x_11⟩:Reader) (Option.some.inj h5) rfl
    ·refine ad.ite h5 (fun hc12 h5=>?_) (fun hc12 h5=>?_)
     ·refine Oc (uh (l:=[(42,.pY 68 [.ptr 102 0] []),(47,.pY 69 [.ptr 102 0] [])]) qX rfl rfl rfl (sc hc9 (xA hc12))) (Oc oa ?_)
      refine ad.aj ⟨[(2,_),(4,_),(5,_),(7,.b (.pY 69 [.ptr 102 0] []))],[(101,_),(102,_),(103,_)]⟩ rfl (ab.seq (ab.seq (ab.aa ?_)))
      refine Oc om (Oc (vq und1 rfl) ?_)
      refine ad.aj ⟨[(2,_),(4,_),(5,_),(7,_),(46,B false)],[(101,_),(102,_),(103,_)]⟩ rfl (ab.xj rfl (ab.skip (Fin.ah ⟨[(2,_),(4,_),(5,_),(7,_)],[(101,_),(102,_),(103,_)]⟩ rfl (Fin.then (ab.seq (ab.aa ?_))))))
      refine Oc om ?_
      obtain ⟨x_13,e13,h5⟩:=aE h5
      refine Oc (xx (own_a:=[(102,_)]) ((oc e13).sw 1 102) goes69 rfl rfl rfl ⟨rfl,trivial⟩ rfl rfl) (ad.aj ⟨[(2,_),(4,_),(5,_)],[(101,_),(102,.box 94 (.str x_6 :: (ap x_7 ++ ([.i x_13])))),(103,_)]⟩ rfl (ab.aa (Oc om (Oc om (Oc (aR rfl) (Oc (af dp rfl rfl) (Oc (ax fj rfl rfl rfl) ?_)))))))
      obtain ⟨x_14,e14,h5⟩:=aE h5
      refine Oc (gk eg e14 rfl rfl) (Oc (aR rfl) (Oc (af dp rfl rfl) (Oc (bQ fj rfl rfl rfl (Nat.le_of_ble_eq_true rfl) rfl) ?_)))
      refine ad.nil (Fin.aH ?_)
      exact Fin.bR [2,4,5] [101,102,103] (⟨x_14,x_7,x_13⟩:Reader) (Option.some.inj h5) rfl
     ·refine Oc (uh (l:=[(42,.pY 68 [.ptr 102 0] []),(47,.pY 69 [.ptr 102 0] [])]) qX rfl rfl rfl (sc hc9 (sc hc12 rfl))) (Oc oa ?_)
      refine ad.aj ⟨[(2,_),(4,_),(5,_),(7,.b (.one (.raw .nilFunc)))],[(101,_),(102,_),(103,_)]⟩ rfl (ab.seq (ab.seq (ab.aa ?_)))
      refine Oc om (Oc (yp und1 rfl) ?_)
      refine ad.aj ⟨[(2,_),(4,_),(5,_),(7,_),(46,B true)],[(101,_),(102,_),(103,_)]⟩ rfl (ab.Ae rfl (ab.seq (ab.aa ?_)))
      refine ad.ek ap h5 rfl (aV dI rfl rfl) (fun x_15 h5=>?_)
      refine Oc (ag aW rfl rfl rfl rfl (Nat.le_of_ble_eq_true rfl) rfl) (Oc oa ?_)
      refine ad.aj ⟨[(2,_),(3,I 280)],[(101,.box 31 (ap x_15))]⟩ rfl (ab.ret (Fin.ar (Fin.aL ?_)))
      obtain rfl:=hy6 _ (Option.some.inj h5).symm
      refine Fin.ar (Fin.aL ?_)
      obtain rfl:=Option.some.inj h
      refine Fin.ah ⟨[(2,_),(3,_)],[(101,_)]⟩ rfl (Fin.aq [.agg (ap x_15),.one (.i 280)] (.inl rfl) rfl (.cons (.agg aW rfl rfl rfl rfl) (.cons (.tmp rfl) .nil)) ⟨rfl,rfl⟩)
def gj (F:Nat) (l0:List Int):Option (List Int) :=
 Option.bind (iter F (fun n_2=>(bA (decide (0 < n_2)) (bB l0 (IntKind.i64.wrap (n_2 - 1)))).bind fun x_4=>if ((decide (0 < n_2)) && (decide (x_4 = 0))) = true then (some (.inl (IntKind.i64.wrap (n_2 - 1)))) else (some (.inr n_2))) (l0.length:Int)) (fun n_1=>(oh l0 n_1).bind fun x_5=>some x_5)
theorem gC {F:Nat} {l0:List Int} {r:(List Int)} (h:gj F l0 = some r):az Tryz.prog (bj mx) 130 [] [.one (.sl 1 (l0.map eI))] (Is [] (.b (.one (.sl 1 (r.map eI))))):=by
 unfold gj at h
 refine az.intro 21 Tryz.func130 Tryz.ntmps130 rfl (by simp) fun E=>?_
 show ab _ E ⟨21,[],[]⟩ _ ⟨[(0,.b (.one (.sl 1 (l0.map eI))))],[]⟩ _
 refine ab.seq (ab.aa ?_)
 refine Oc oa (ad.aj ⟨[(0,.b (.one (.sl 1 (l0.map eI))))],[]⟩ rfl (ab.seq (ab.aa ?_)))
 refine Oc om (Oc (b8 iI rfl (List.length_map _)) (Oc oa ?_))
 refine ad.aj ⟨[(0,_),(3,I (l0.length:Int))],[]⟩ rfl ?_
 obtain ⟨v1,h2,h⟩:=aE h
 refine ab.cB (v:=v1) (fun (n_1:Int)=>⟨[(0,.b (.one (.sl 1 (l0.map eI)))),(3,I n_1)],[]⟩) (fun z=>z) ?_ ?_
 ·refine ab.block (ab.cS h2 (fun (n_2:Int)=>⟨[(0,.b (.one (.sl 1 (l0.map eI)))),(3,I n_2)],[]⟩) [0,3] [] rfl ?_)
  rintro n_2 o3 h4 hy5
  refine ab.seq (ab.seq (ab.aa ?_))
  refine Oc om (Oc (dB rfl rfl) (Oc om ?_))
  refine bU (decide (0 < n_2)) [] (fun g6=>trivial) (fun g6=>om) (bU (decide (0 < n_2)) [] (fun g7=>by exact trivial) (fun g7=>om) (bU (decide (0 < n_2)) [10] (fun g8=>by exact ⟨g8,trivial⟩) (fun g8=>bX rfl rfl) ?_))
  obtain ⟨x_4,e10,h4⟩:=aE h4
  refine bU (decide (0 < n_2)) [9,11] (fun g9=>⟨g9,g9,trivial⟩) (fun g9=>ef du (bp (gc e10 g9)) (fZ (e:=eI) (gc e10 g9)) rfl rfl) (ad.ah ⟨[(0,_),(3,_),(8,B (decide (0 < n_2))),(12,.dA (decide (0 < n_2)) (.qn [.i x_4]))],[]⟩ rfl (bU (decide (0 < n_2)) [12] (fun g11=>⟨g11,trivial⟩) (fun g11=>fk bW rfl rfl) (bU (decide (0 < n_2)) [13] (fun g12=>⟨g12,trivial⟩) (fun g12=>cy rfl rfl) (Oc (aD (fun e=>e) rfl rfl rfl rfl) (ad.aj ⟨[(0,_),(3,_),(15,B ((decide (0 < n_2)) && (decide (x_4 = 0))))],[]⟩ rfl ?_)))))
  refine ab.ite h4 rfl (fun _ h4=>?_) (fun _ h4=>?_)
  ·refine ab.skip (Fin.ah ⟨[(0,_),(3,_)],[]⟩ rfl (Fin.then (ab.block (ab.aa ?_))))
   refine Oc om (Oc (bX rfl rfl) (Oc oa ?_))
   refine ad.nil (Fin.aH ?_)
   exact Fin.bR [0,3] [] (IntKind.i64.wrap (n_2 - 1)) (Option.some.inj h4) rfl
  ·refine ab.exit (Fin.aG ?_)
   obtain rfl:=hy5 _ (Option.some.inj h4).symm
   refine Fin.aG (Fin.aY ?_)
   exact Fin.join [0,3] [] n_2 rfl rfl
 ·rintro n_1 hv
  subst v1
  refine ab.seq (ab.aa ?_)
  refine Oc om (Oc om ?_)
  obtain ⟨x_5,e13,h⟩:=aE h
  refine Oc (yl du e13 rfl rfl) (Oc oa ?_)
  refine ad.aj ⟨[(2,.b (.one (.sl 1 (x_5.map eI))))],[]⟩ rfl (ab.ret ?_)
  obtain rfl:=Option.some.inj h
  refine Fin.ah ⟨[(2,_)],[]⟩ rfl (Fin.aq [.one (.sl 1 (x_5.map eI))] (.inl rfl) rfl (.cons (.tmp rfl) .nil) ⟨rfl,rfl⟩)
def iR (F:Nat):Option bt :=
 some (⟨true,false,aP.zero⟩:bt)
theorem ij {F:Nat} {r:bt} (h:iR F = some r):az Tryz.prog (bj mx) 151 [] [] (Is [] (.b (.agg (au r)))):=by
 unfold iR at h
 refine az.intro 2 Tryz.func151 Tryz.ntmps151 rfl (by simp) fun E=>?_
 show ab _ E ⟨2,[],[]⟩ _ ⟨[],[]⟩ _
 refine ab.seq (ab.aa ?_)
 refine Oc (aA (k:=101) bx rfl) (ad.aj ⟨[(0,Pt 101 0)],[(101,.box 25 cO)]⟩ rfl (ab.seq (ab.aa ?_)))
 refine Oc (aV pQ rfl rfl) (Oc (ag ao rfl rfl rfl rfl (Nat.le_of_ble_eq_true rfl) rfl) ?_)
 refine ad.aj ⟨[(0,_)],[(101,.box 25 (.bool true :: .bool false :: (eW aP.zero)))]⟩ rfl (ab.ret ?_)
 obtain rfl:=Option.some.inj h
 refine Fin.ah ⟨[(0,_)],[(101,_)]⟩ rfl (Fin.aq [.agg (.bool true :: .bool false :: (eW aP.zero))] (.inl rfl) rfl (.cons (.agg ao rfl rfl rfl rfl) .nil) ⟨rfl,rfl⟩)
def dO (F:Nat) (neg0:Bool) (l0:List Int):Option bt :=
 (gj F l0).bind fun x_1=>if (decide (32 < (x_1.length:Int))) = true then ((iR F).bind fun x_2=>some x_2) else (bD (⟨false,neg0 && (decide (0 < (x_1.length:Int))),aP.zero⟩:bt) fun x_3=>Option.bind (iter F (b7 fun out_5 k_6=>if (decide (k_6 < (x_1.length:Int))) = true then (Option.bind (if (decide ((Int.tmod k_6 2) = 0)) = true then ((k7 .i64 k_6 2).bind fun x_9=>(k7 .i64 k_6 2).bind fun x_10=>(bB out_5.W.l x_10).bind fun x_11=>(bB x_1 k_6).bind fun x_12=>(bB out_5.W.l x_9).bind fun x_13=>some (⟨out_5.Bad,out_5.Neg,out_5.W.set x_9 (IntKind.u32.wrap (x_11 + (IntKind.u32.wrap x_12)))⟩:bt)) else ((k7 .i64 k_6 2).bind fun x_14=>(k7 .i64 k_6 2).bind fun x_15=>(bB out_5.W.l x_15).bind fun x_16=>(bB x_1 k_6).bind fun x_17=>(bB out_5.W.l x_14).bind fun x_18=>some (⟨out_5.Bad,out_5.Neg,out_5.W.set x_14 (IntKind.u32.wrap (x_16 + (IntKind.u32.wrap ((IntKind.u32.wrap x_17) * 65536))))⟩:bt))) (fun out_8=>some (.inl (out_8,IntKind.i64.wrap (k_6 + 1))))) else (some (.inr out_5))) (x_3,0)) (fun out_4=>some out_4))
theorem fo {F:Nat} {neg0:Bool} {l0:List Int} {r:bt} (h:dO F neg0 l0 = some r):az Tryz.prog (bj mx) 156 [] [.one (.bool neg0),.one (.sl 1 (l0.map eI))] (Is [] (.b (.agg (au r)))):=by
 unfold dO at h
 refine az.intro 62 Tryz.func156 Tryz.ntmps156 rfl (by simp) fun E=>?_
 show ab _ E ⟨62,[],[]⟩ _ ⟨[(0,B neg0),(1,.b (.one (.sl 1 (l0.map eI))))],[]⟩ _
 refine ab.seq (ab.aa ?_)
 refine Oc (aA (k:=101) bx rfl) (ad.aj ⟨[(0,B neg0),(1,.b (.one (.sl 1 (l0.map eI)))),(4,Pt 101 0)],[(101,.box 25 cO)]⟩ rfl (ab.seq (ab.aa ?_)))
 refine Oc om ?_
 obtain ⟨x_1,e1,h⟩:=aE h
 refine Oc (ae (gC e1) nD rfl rfl) (Oc oa ?_)
 refine ad.aj ⟨[(0,_),(4,_),(5,.b (.one (.sl 1 (x_1.map eI))))],[(101,_)]⟩ rfl (ab.seq (ab.seq (ab.aa ?_)))
 refine Oc om (Oc (b8 iI rfl (List.length_map _)) (Oc (dB rfl rfl) ?_))
 refine ad.aj ⟨[(0,_),(4,_),(5,_),(12,B (decide (32 < (x_1.length:Int))))],[(101,_)]⟩ rfl (ab.ite h rfl (fun _ h=>?_) (fun _ h=>?_))
 ·refine ab.seq (ab.aa ?_)
  obtain ⟨x_2,e2,h⟩:=aE h
  refine Oc (ae (ij e2) nB rfl rfl) (Oc (ag ao rfl rfl rfl rfl (Nat.le_of_ble_eq_true rfl) rfl) ?_)
  refine ad.aj ⟨[(4,_)],[(101,.box 25 (au x_2))]⟩ rfl (ab.ret (Fin.ar ?_))
  obtain rfl:=Option.some.inj h
  refine Fin.ah ⟨[(4,_)],[(101,_)]⟩ rfl (Fin.aq [.agg (au x_2)] (.inl rfl) rfl (.cons (.agg ao rfl rfl rfl rfl) .nil) ⟨rfl,rfl⟩)
 ·refine ab.skip (Fin.ah ⟨[(0,_),(4,_),(5,_)],[(101,_)]⟩ rfl (Fin.then (ab.seq (ab.aa ?_))))
  refine Oc om (Oc om ?_)
  refine bU neg0 [] (fun g3=>trivial) (fun g3=>om) (bU neg0 [16] (fun g4=>by exact ⟨g4,trivial⟩) (fun g4=>b8 iI rfl (List.length_map _)) (bU neg0 [17] (fun g5=>by exact ⟨g5,trivial⟩) (fun g5=>dB rfl rfl) (Oc (aD (fun e=>e) rfl rfl rfl rfl) (ad.ah ⟨[(4,_),(5,_),(19,B (neg0 && (decide (0 < (x_1.length:Int)))))],[(101,_)]⟩ rfl (ad.ek au h rfl (aV pQ rfl rfl) (fun x_3 h=>?_))))))
  refine Oc (aA (k:=102) bx rfl) (Oc (ag ao rfl rfl rfl rfl (Nat.le_of_ble_eq_true rfl) rfl) ?_)
  refine ad.aj ⟨[(4,_),(5,_),(6,Pt 102 0)],[(101,_),(102,.box 25 (au x_3))]⟩ rfl ?_
  obtain ⟨v6,h7,h⟩:=aE h
  refine ab.cB (v:=v6) (fun (out_4:bt)=>⟨[(4,Pt 101 0),(6,Pt 102 0)],[(101,.box 25 cO),(102,.box 25 (au out_4))]⟩) (fun z=>z) ?_ ?_
  ·refine ab.seq (ab.aa ?_)
   refine Oc oa (ad.aj ⟨[(4,_),(5,_),(6,_),(7,I 0)],[(101,_),(102,_)]⟩ rfl (ab.block (ab.cS h7 (b7 fun (out_5:bt) (k_6:Int)=>⟨[(4,Pt 101 0),(5,.b (.one (.sl 1 (x_1.map eI)))),(6,Pt 102 0),(7,I k_6)],[(101,.box 25 cO),(102,.box 25 (au out_5))]⟩) [4,5,6,7] [101,102] rfl ?_)))
   rintro ⟨out_5,k_6⟩ o8 h9 hy10
   refine ab.seq (ab.seq (ab.aa ?_))
   refine Oc om (Oc om (Oc (b8 iI rfl (List.length_map _)) (Oc (bK rfl rfl) ?_)))
   refine ad.aj ⟨[(4,_),(5,_),(6,_),(7,_),(24,B (decide (k_6 < (x_1.length:Int))))],[(101,_),(102,_)]⟩ rfl (ab.ite h9 rfl (fun _ h9=>?_) (fun _ h9=>?_))
   ·refine ab.skip (Fin.ah ⟨[(4,_),(5,_),(6,_),(7,_)],[(101,_),(102,_)]⟩ rfl (Fin.then ?_))
    obtain ⟨v11,h12,h9⟩:=aE h9
    refine ab.cB (v:=v11) (fun (out_8:bt)=>⟨[(4,Pt 101 0),(5,.b (.one (.sl 1 (x_1.map eI)))),(6,Pt 102 0),(7,I k_6)],[(101,.box 25 cO),(102,.box 25 (au out_8))]⟩) (fun z=>z) ?_ ?_
    ·refine ab.block (ab.seq (ab.aa ?_))
     refine Oc om (Oc (lg (by decide) rfl rfl) (Oc (cy rfl rfl) ?_))
     refine ad.aj ⟨[(4,_),(5,_),(6,_),(7,_),(29,B (decide ((Int.tmod k_6 2) = 0)))],[(101,_),(102,_)]⟩ rfl (ab.ite h12 rfl (fun _ h12=>?_) (fun _ h12=>?_))
     ·refine ab.ah ⟨[(4,_),(5,_),(6,_),(7,_)],[(101,_),(102,_)]⟩ rfl ?_
      obtain ⟨x_9,e13,h12⟩:=aE h12
      obtain ⟨x_10,e14,h12⟩:=aE h12
      obtain ⟨x_11,e15,h12⟩:=aE h12
      obtain ⟨x_12,e16,h12⟩:=aE h12
      obtain ⟨x_13,e17,h12⟩:=aE h12
      refine ab.jy mixed 15 [I k_6,I x_9,I k_6,I x_10,Pt 102 2,.b (.ptr 102 (2 + (x_10:Int).toNat * 1)),.b (.one (.int .u32 x_11)),.b (.one (.sl 1 (x_1.map eI))),I k_6,.b (.qn [.i x_12]),I x_12,.b (.one (.int .u32 (IntKind.u32.wrap x_12))),.b (.one (.int .u32 (IntKind.u32.wrap (x_11 + (IntKind.u32.wrap x_12))))),Pt 102 2,.b (.ptr 102 (2 + (x_9:Int).toNat * 1))] [4,5,6,7] [101,102] (s':=⟨[(4,_),(5,_),(6,_),(7,_)],[(101,_),(102,.box 25 (.bool out_5.Bad :: .bool out_5.Neg :: (eW (out_5.W.set x_9 (IntKind.u32.wrap (x_11 + (IntKind.u32.wrap x_12)))))))]⟩) rfl ⟨fun _=>.p om,fun _=>.p (fw e13 rfl rfl),fun _=>.p om,fun _=>.p (fw e14 rfl rfl),fun _=>.p (af ba rfl rfl),fun _=>.p (aN bE (bp e15) (b9 e15) rfl rfl rfl),fun _=>.p (ax bl rfl rfl (cc (post:=[]) (k:=.u32) [.bool out_5.Bad,.bool out_5.Neg] e15 rfl rfl rfl)),fun _=>.p om,fun _=>.p om,fun _=>.p (ef du (bp e16) (fZ (e:=eI) e16) rfl rfl),fun _=>.p (fk bW rfl rfl),fun _=>.p (aF lc bG rfl),fun _=>.p (bb rfl rfl),fun _=>.p (af ba rfl rfl),fun _=>.p (aN bE (bp e17) (b9 e17) rfl rfl rfl),trivial⟩ ⟨_,by exact .p (bQ bl rfl rfl rfl (jr (post:=[]) (k:=.u32) [.bool out_5.Bad,.bool out_5.Neg] e17 rfl rfl rfl) (gW (post:=[]) (k:=.u32) [.bool out_5.Bad,.bool out_5.Neg] e17 rfl rfl (aP.iO out_5.W x_9 (IntKind.u32.wrap (x_11 + (IntKind.u32.wrap x_12)))) rfl rfl)),rfl⟩ rfl (Fin.aH ?_)
      exact Fin.join [4,5,6,7] [101,102] (⟨out_5.Bad,out_5.Neg,out_5.W.set x_9 (IntKind.u32.wrap (x_11 + (IntKind.u32.wrap x_12)))⟩:bt) (Option.some.inj h12) rfl
     ·refine ab.ah ⟨[(4,_),(5,_),(6,_),(7,_)],[(101,_),(102,_)]⟩ rfl ?_
      obtain ⟨x_14,e18,h12⟩:=aE h12
      obtain ⟨x_15,e19,h12⟩:=aE h12
      obtain ⟨x_16,e20,h12⟩:=aE h12
      obtain ⟨x_17,e21,h12⟩:=aE h12
      obtain ⟨x_18,e22,h12⟩:=aE h12
      refine ab.jy mixed 16 [I k_6,I x_14,I k_6,I x_15,Pt 102 2,.b (.ptr 102 (2 + (x_15:Int).toNat * 1)),.b (.one (.int .u32 x_16)),.b (.one (.sl 1 (x_1.map eI))),I k_6,.b (.qn [.i x_17]),I x_17,.b (.one (.int .u32 (IntKind.u32.wrap x_17))),.b (.one (.int .u32 (IntKind.u32.wrap ((IntKind.u32.wrap x_17) * 65536)))),.b (.one (.int .u32 (IntKind.u32.wrap (x_16 + (IntKind.u32.wrap ((IntKind.u32.wrap x_17) * 65536)))))),Pt 102 2,.b (.ptr 102 (2 + (x_14:Int).toNat * 1))] [4,5,6,7] [101,102] (s':=⟨[(4,_),(5,_),(6,_),(7,_)],[(101,_),(102,.box 25 (.bool out_5.Bad :: .bool out_5.Neg :: (eW (out_5.W.set x_14 (IntKind.u32.wrap (x_16 + (IntKind.u32.wrap ((IntKind.u32.wrap x_17) * 65536))))))))]⟩) rfl ⟨fun _=>.p om,fun _=>.p (fw e18 rfl rfl),fun _=>.p om,fun _=>.p (fw e19 rfl rfl),fun _=>.p (af ba rfl rfl),fun _=>.p (aN bE (bp e20) (b9 e20) rfl rfl rfl),fun _=>.p (ax bl rfl rfl (cc (post:=[]) (k:=.u32) [.bool out_5.Bad,.bool out_5.Neg] e20 rfl rfl rfl)),fun _=>.p om,fun _=>.p om,fun _=>.p (ef du (bp e21) (fZ (e:=eI) e21) rfl rfl),fun _=>.p (fk bW rfl rfl),fun _=>.p (aF lc bG rfl),fun _=>.p (fN rfl rfl),fun _=>.p (bb rfl rfl),fun _=>.p (af ba rfl rfl),fun _=>.p (aN bE (bp e22) (b9 e22) rfl rfl rfl),trivial⟩ ⟨_,by exact .p (bQ bl rfl rfl rfl (jr (post:=[]) (k:=.u32) [.bool out_5.Bad,.bool out_5.Neg] e22 rfl rfl rfl) (gW (post:=[]) (k:=.u32) [.bool out_5.Bad,.bool out_5.Neg] e22 rfl rfl (aP.iO out_5.W x_14 (IntKind.u32.wrap (x_16 + (IntKind.u32.wrap ((IntKind.u32.wrap x_17) * 65536))))) rfl rfl)),rfl⟩ rfl (Fin.aH ?_)
      exact Fin.join [4,5,6,7] [101,102] (⟨out_5.Bad,out_5.Neg,out_5.W.set x_14 (IntKind.u32.wrap (x_16 + (IntKind.u32.wrap ((IntKind.u32.wrap x_17) * 65536))))⟩:bt) (Option.some.inj h12) rfl
    ·rintro out_8 hv
     subst v11
     refine ab.aa (Oc om (Oc (bb rfl rfl) (Oc oa ?_)))
     refine ad.nil ?_
     exact Fin.bR [4,5,6,7] [101,102] (out_8,IntKind.i64.wrap (k_6 + 1)) (Option.some.inj h9) rfl
   ·refine ab.exit (Fin.aG ?_)
    obtain rfl:=hy10 _ (Option.some.inj h9).symm
    refine Fin.aG (Fin.aY ?_)
    exact Fin.join [4,6] [101,102] out_5 rfl rfl
  ·rintro out_4 hv
   subst v6
   refine ab.seq (ab.aa ?_)
   refine Oc (lp ao) (Oc (ag ao rfl rfl rfl rfl (Nat.le_of_ble_eq_true rfl) rfl) ?_)
   refine ad.aj ⟨[(4,_)],[(101,.box 25 (au out_4))]⟩ rfl (ab.ret ?_)
   obtain rfl:=Option.some.inj h
   refine Fin.ah ⟨[(4,_)],[(101,_)]⟩ rfl (Fin.aq [.agg (au out_4)] (.inl rfl) rfl (.cons (.agg ao rfl rfl rfl rfl) .nil) ⟨rfl,rfl⟩)
def eF (F:Nat) (l0:List Int) (k0:Int):Option Int :=
 if (decide (k0 < (l0.length:Int))) = true then ((bB l0 k0).bind fun x_1=>some x_1) else (some 0)
theorem fe {F:Nat} {l0:List Int} {k0:Int} {r:Int} (h:eF F l0 k0 = some r):az Tryz.prog (bj mx) 131 [] [.one (.sl 1 (l0.map eI)),.one (.i k0)] (Is [] (.b (.one (.i r)))):=by
 unfold eF at h
 refine az.intro 13 Tryz.func131 Tryz.ntmps131 rfl (by simp) fun E=>?_
 show ab _ E ⟨13,[],[]⟩ _ ⟨[(0,.b (.one (.sl 1 (l0.map eI)))),(1,I k0)],[]⟩ _
 refine ab.seq (ab.aa ?_)
 refine Oc oa (ad.aj ⟨[(0,.b (.one (.sl 1 (l0.map eI)))),(1,I k0)],[]⟩ rfl (ab.seq (ab.seq (ab.aa ?_))))
 refine Oc om (Oc om (Oc (b8 iI rfl (List.length_map _)) (Oc (bK rfl rfl) ?_)))
 refine ad.aj ⟨[(0,_),(1,_),(8,B (decide (k0 < (l0.length:Int))))],[]⟩ rfl (ab.ite h rfl (fun _ h=>?_) (fun _ h=>?_))
 ·refine ab.seq (ab.aa ?_)
  refine Oc om (Oc om ?_)
  obtain ⟨x_1,e1,h⟩:=aE h
  refine Oc (ef du (bp e1) (fZ (e:=eI) e1) rfl rfl) (Oc (fk bW rfl rfl) (Oc oa ?_))
  refine ad.aj ⟨[(4,I x_1)],[]⟩ rfl (ab.ret (Fin.ar ?_))
  obtain rfl:=Option.some.inj h
  refine Fin.ah ⟨[(4,_)],[]⟩ rfl (Fin.aq [.one (.i x_1)] (.inl rfl) rfl (.cons (.tmp rfl) .nil) ⟨rfl,rfl⟩)
 ·refine ab.skip (Fin.ah ⟨[],[]⟩ rfl (Fin.then (ab.seq (ab.aa ?_))))
  refine Oc oa (ad.aj ⟨[(4,I 0)],[]⟩ rfl (ab.ret ?_))
  obtain rfl:=Option.some.inj h
  refine Fin.ah ⟨[(4,_)],[]⟩ rfl (Fin.aq [.one (.i 0)] (.inl rfl) rfl (.cons (.tmp rfl) .nil) ⟨rfl,rfl⟩)
def k5 (F:Nat) (a0:List Int) (b0:List Int):Option (List Int) :=
 Option.bind (iter F (kA fun out_2 carry_3 k_4=>bD (max (a0.length:Int) (b0.length:Int)) fun x_6=>if (decide (k_4 < (IntKind.i64.wrap (x_6 + 1)))) = true then ((eF F a0 k_4).bind fun x_7=>(eF F b0 k_4).bind fun x_8=>bD (IntKind.i64.wrap ((IntKind.i64.wrap (x_7 + x_8)) + carry_3)) fun x_9=>(il out_2 [Int.tmod x_9 65536]).bind fun x_10=>(k7 .i64 x_9 65536).bind fun x_11=>some (.inl (x_10,x_11,IntKind.i64.wrap (k_4 + 1)))) else (some (.inr out_2))) ([],0,0)) (fun out_1=>(gj F out_1).bind fun x_12=>some x_12)
theorem rJ {F:Nat} {a0:List Int} {b0:List Int} {r:(List Int)} (h:k5 F a0 b0 = some r):az Tryz.prog (bj mx) 155 [] [.one (.sl 1 (a0.map eI)),.one (.sl 1 (b0.map eI))] (Is [] (.b (.one (.sl 1 (r.map eI))))):=by
 unfold k5 at h
 refine az.intro 37 Tryz.func155 Tryz.ntmps155 rfl (by simp) fun E=>?_
 show ab _ E ⟨37,[],[]⟩ _ ⟨[(0,.b (.one (.sl 1 (a0.map eI)))),(1,.b (.one (.sl 1 (b0.map eI))))],[]⟩ _
 refine ab.seq (ab.aa ?_)
 refine Oc oa (ad.aj ⟨[(0,.b (.one (.sl 1 (a0.map eI)))),(1,.b (.one (.sl 1 (b0.map eI))))],[]⟩ rfl (ab.seq (ab.aa ?_)))
 refine Oc oa (ad.aj ⟨[(0,_),(1,_),(5,.b (.one (.nil)))],[]⟩ rfl (ab.seq (ab.aa ?_)))
 refine Oc oa (ad.aj ⟨[(0,_),(1,_),(5,_),(6,I 0)],[]⟩ rfl ?_)
 obtain ⟨v1,h2,h⟩:=aE h
 refine ab.cB (v:=v1) (fun (out_1:List Int)=>⟨[(5,.b (.row 102))],[(102,.row 3 1 (out_1.map eI))]⟩) (fun z=>z) ?_ ?_
 ·refine ab.seq (ab.aa ?_)
  refine Oc oa (ad.aj ⟨[(0,_),(1,_),(5,_),(6,_),(7,I 0)],[]⟩ rfl (ab.block (ab.kq 5 102 1 3 rfl (by decide) rfl (ab.cS h2 (kA fun (out_2:List Int) (carry_3:Int) (k_4:Int)=>⟨[(0,.b (.one (.sl 1 (a0.map eI)))),(1,.b (.one (.sl 1 (b0.map eI)))),(5,.b (.row 102)),(6,I carry_3),(7,I k_4)],[(102,.row 3 1 (out_2.map eI))]⟩) [0,1,5,6,7] [102] rfl ?_))))
  rintro ⟨out_2,carry_3,k_4⟩ o3 h4 hy5
  refine ab.seq (ab.seq (ab.aa ?_))
  refine Oc om (Oc om (Oc (b8 iI rfl (List.length_map _)) (Oc om (Oc (b8 iI rfl (List.length_map _)) ?_))))
  refine ad.ah ⟨[(0,_),(1,_),(5,_),(6,_),(7,_),(9,I k_4),(11,I (a0.length:Int)),(13,I (b0.length:Int))],[(102,_)]⟩ rfl (ad.cp .i64 h4 rfl (tM rfl rfl) (fun x_6 h4=>?_))
  refine Oc (bb rfl rfl) (Oc (bK rfl rfl) ?_)
  refine ad.aj ⟨[(0,_),(1,_),(5,_),(6,_),(7,_),(16,B (decide (k_4 < (IntKind.i64.wrap (x_6 + 1)))))],[(102,_)]⟩ rfl (ab.ite h4 rfl (fun _ h4=>?_) (fun _ h4=>?_))
  ·refine ab.skip (Fin.ah ⟨[(0,_),(1,_),(5,_),(6,_),(7,_)],[(102,_)]⟩ rfl (Fin.then (ab.seq (ab.block (ab.seq (ab.aa ?_))))))
   refine Oc om (Oc om ?_)
   obtain ⟨x_7,e6,h4⟩:=aE h4
   refine Oc (ae (fe e6) l6 rfl rfl) (Oc om (Oc om ?_))
   refine ad.ah ⟨[(0,_),(1,_),(5,_),(6,_),(7,_),(21,I x_7),(22,.b (.one (.sl 1 (b0.map eI)))),(23,I k_4)],[(102,_)]⟩ rfl ?_
   obtain ⟨x_8,e7,h4⟩:=aE h4
   refine Oc (ae (fe e7) l6 rfl rfl) (Oc (bb rfl rfl) (Oc om ?_))
   refine ad.cp .i64 h4 rfl (bb rfl rfl) (fun x_9 h4=>?_)
   refine Oc oa (ad.aj ⟨[(0,_),(1,_),(5,_),(7,_),(8,I x_9)],[(102,_)]⟩ rfl (ab.seq (ab.aa ?_)))
   refine Oc om (Oc om (Oc (lg (by decide) rfl rfl) (Oc (br (k:=103) (es:=[Int.tmod x_9 65536].map eI) du rfl rfl (c5 fun _=>rfl) rfl (by decide) (by decide) rfl) ?_)))
   obtain ⟨x_10,e8,h4⟩:=aE h4
   refine Oc (kj du (tJ e8) (tI e8) rfl rfl rfl rfl (nH e8) rfl) (Oc oa ?_)
   refine ad.aj ⟨[(0,_),(1,_),(5,_),(7,_),(8,_)],[(102,.row 3 1 (x_10.map eI))]⟩ rfl (ab.aa (Oc om ?_))
   obtain ⟨x_11,e9,h4⟩:=aE h4
   refine Oc (fw e9 rfl rfl) (Oc oa ?_)
   refine ad.nil (Fin.aH (Fin.ah ⟨[(0,_),(1,_),(5,_),(6,I x_11),(7,_)],[(102,_)]⟩ rfl (Fin.then (ab.aa ?_))))
   refine Oc om (Oc (bb rfl rfl) (Oc oa ?_))
   refine ad.nil ?_
   exact Fin.bR [0,1,5,6,7] [102] (x_10,x_11,IntKind.i64.wrap (k_4 + 1)) (Option.some.inj h4) rfl
  ·refine ab.exit (Fin.aG ?_)
   obtain rfl:=hy5 _ (Option.some.inj h4).symm
   refine Fin.aG (Fin.aY ?_)
   exact Fin.join [5] [102] out_2 rfl rfl
 ·rintro out_1 hv
  subst v1
  refine ab.seq (ab.aa ?_)
  refine Oc om (ad.eY 102 rfl ?_)
  obtain ⟨x_12,e10,h⟩:=aE h
  refine Oc (ae (gC e10) nD rfl rfl) (Oc oa ?_)
  refine ad.aj ⟨[(4,.b (.one (.sl 1 (x_12.map eI))))],[]⟩ rfl (ab.ret ?_)
  obtain rfl:=Option.some.inj h
  refine Fin.ah ⟨[(4,_)],[]⟩ rfl (Fin.aq [.one (.sl 1 (x_12.map eI))] (.inl rfl) rfl (.cons (.tmp rfl) .nil) ⟨rfl,rfl⟩)
def iV (F:Nat) (n0:Int):Option bt :=
 if (decide (0 ≤ n0)) = true then ((k7 .i64 n0 65536).bind fun x_1=>(k7 .i64 n0 4294967296).bind fun x_2=>(k7 .i64 n0 281474976710656).bind fun x_3=>(dO F false [Int.tmod n0 65536,Int.tmod x_1 65536,Int.tmod x_2 65536,x_3]).bind fun x_4=>some x_4) else (bD (IntKind.i64.wrap (-(IntKind.i64.wrap (n0 + 1)))) fun x_5=>(k7 .i64 x_5 65536).bind fun x_6=>(k7 .i64 x_5 4294967296).bind fun x_7=>(k7 .i64 x_5 281474976710656).bind fun x_8=>(k5 F [Int.tmod x_5 65536,Int.tmod x_6 65536,Int.tmod x_7 65536,x_8] [1]).bind fun x_9=>(dO F true x_9).bind fun x_10=>some x_10)
theorem je {F:Nat} {n0:Int} {r:bt} (h:iV F n0 = some r):az Tryz.prog (bj mx) 107 [] [.one (.i n0)] (Is [] (.b (.agg (au r)))):=by
 unfold iV at h
 refine az.intro 35 Tryz.func107 Tryz.ntmps107 rfl (by simp) fun E=>?_
 show ab _ E ⟨35,[],[]⟩ _ ⟨[(0,I n0)],[]⟩ _
 refine ab.seq (ab.aa ?_)
 refine Oc (aA (k:=101) bx rfl) (ad.aj ⟨[(0,I n0),(2,Pt 101 0)],[(101,.box 25 cO)]⟩ rfl (ab.seq (ab.seq (ab.aa ?_))))
 refine Oc om (Oc (fy rfl rfl) ?_)
 refine ad.aj ⟨[(0,_),(2,_),(5,B (decide (0 ≤ n0)))],[(101,_)]⟩ rfl (ab.ite h rfl (fun _ h=>?_) (fun _ h=>?_))
 ·refine ab.seq (ab.aa ?_)
  refine Oc om (Oc (lg (by decide) rfl rfl) (Oc om ?_))
  obtain ⟨x_1,e1,h⟩:=aE h
  refine Oc (fw e1 rfl rfl) (Oc (lg (by decide) rfl rfl) (Oc om ?_))
  obtain ⟨x_2,e2,h⟩:=aE h
  refine Oc (fw e2 rfl rfl) (ad.ah ⟨[(0,_),(2,_),(7,I (Int.tmod n0 65536)),(10,I (Int.tmod x_1 65536)),(12,I x_2)],[(101,_)]⟩ rfl (Oc (lg (by decide) rfl rfl) (Oc om ?_)))
  obtain ⟨x_3,e3,h⟩:=aE h
  refine Oc (fw e3 rfl rfl) (Oc (br (k:=102) (es:=[Int.tmod n0 65536,Int.tmod x_1 65536,Int.tmod x_2 65536,x_3].map eI) du rfl rfl (c5 fun _=>rfl) rfl (by decide) (by decide) rfl) ?_)
  obtain ⟨x_4,e4,h⟩:=aE h
  refine Oc (eQ (fo e4) nA rfl (flat_agg ⟨CP.dJ,CP.dJ,CP.eR,CP.eR,CP.eR,CP.eR,CP.eR,CP.eR,CP.eR,CP.eR,CP.eR,CP.eR,CP.eR,CP.eR,CP.eR,CP.eR,CP.eR,CP.eR,trivial⟩)) (Oc (ag ao rfl rfl rfl rfl (Nat.le_of_ble_eq_true rfl) rfl) ?_)
  refine ad.aj ⟨[(2,_)],[(101,.box 25 (au x_4))]⟩ rfl (ab.ret (Fin.ar ?_))
  obtain rfl:=Option.some.inj h
  refine Fin.ah ⟨[(2,_)],[(101,_)]⟩ rfl (Fin.aq [.agg (au x_4)] (.inl rfl) rfl (.cons (.agg ao rfl rfl rfl rfl) .nil) ⟨rfl,rfl⟩)
 ·refine ab.skip (Fin.ah ⟨[(0,_),(2,_)],[(101,_)]⟩ rfl (Fin.then (ab.seq (ab.aa ?_))))
  refine Oc om (Oc (bb rfl rfl) ?_)
  refine ad.cp .i64 h rfl (mn rfl) (fun x_5 h=>?_)
  refine Oc oa (ad.aj ⟨[(2,_),(3,I x_5)],[(101,_)]⟩ rfl (ab.seq (ab.aa ?_)))
  refine Oc om (Oc (lg (by decide) rfl rfl) (Oc om ?_))
  obtain ⟨x_6,e5,h⟩:=aE h
  refine Oc (fw e5 rfl rfl) (Oc (lg (by decide) rfl rfl) (Oc om ?_))
  obtain ⟨x_7,e6,h⟩:=aE h
  refine Oc (fw e6 rfl rfl) (ad.ah ⟨[(2,_),(3,_),(22,I (Int.tmod x_5 65536)),(25,I (Int.tmod x_6 65536)),(27,I x_7)],[(101,_)]⟩ rfl (Oc (lg (by decide) rfl rfl) (Oc om ?_)))
  obtain ⟨x_8,e7,h⟩:=aE h
  refine Oc (fw e7 rfl rfl) (Oc (br (k:=103) (es:=[Int.tmod x_5 65536,Int.tmod x_6 65536,Int.tmod x_7 65536,x_8].map eI) du rfl rfl (c5 fun _=>rfl) rfl (by decide) (by decide) rfl) (Oc (br (k:=104) (es:=[1].map eI) du rfl rfl (c5 fun _=>rfl) rfl (by decide) (by decide) rfl) ?_))
  refine ad.eY 103 rfl (ad.eY 104 rfl (ad.ah ⟨[(2,Pt 101 0),(31,.b (.one (.sl 1 ([Int.tmod x_5 65536,Int.tmod x_6 65536,Int.tmod x_7 65536,x_8].map eI)))),(32,.b (.one (.sl 1 ([1].map eI))))],[(101,.box 25 cO)]⟩ rfl ?_))
  obtain ⟨x_9,e8,h⟩:=aE h
  refine Oc (ae (rJ e8) AU rfl rfl) ?_
  obtain ⟨x_10,e9,h⟩:=aE h
  refine Oc (ae (fo e9) nA rfl rfl) (Oc (ag ao rfl rfl rfl rfl (Nat.le_of_ble_eq_true rfl) rfl) ?_)
  refine ad.aj ⟨[(2,_)],[(101,.box 25 (au x_10))]⟩ rfl (ab.ret ?_)
  obtain rfl:=Option.some.inj h
  refine Fin.ah ⟨[(2,_)],[(101,_)]⟩ rfl (Fin.aq [.agg (au x_10)] (.inl rfl) rfl (.cons (.agg ao rfl rfl rfl rfl) .nil) ⟨rfl,rfl⟩)
def lI (F:Nat) (x0:bt):Option Bool :=
 Option.bind (iter F (b7 fun zero_2 k_3=>if (decide (k_3 < 16)) = true then ((bA zero_2 (bB x0.W.l k_3)).bind fun x_5=>some (.inl (zero_2 && (decide (x_5 = 0)),IntKind.i64.wrap (k_3 + 1)))) else (some (.inr zero_2))) (true,0)) (fun zero_1=>if x0.Bad = true then (some (zero_1 && (!x0.Neg))) else (some ((!zero_1) || (!x0.Neg))))
theorem u3 {F:Nat} {x0:bt} {r:Bool} (h:lI F x0 = some r):az Tryz.prog (bj mx) 129 [] [.agg (au x0)] (Is [] (.b (.one (.bool r)))):=by
 unfold lI at h
 refine az.intro 32 Tryz.func129 Tryz.ntmps129 rfl (by simp) fun E=>?_
 show ab _ E ⟨32,[],[]⟩ _ ⟨[(0,.b (.agg (au x0)))],[]⟩ _
 refine ab.seq (ab.aa ?_)
 refine Oc (aS (k:=101) rfl rfl) (Oc oa ?_)
 refine ad.aj ⟨[(1,Pt 101 0)],[(101,.box 25 (au x0))]⟩ rfl (ab.seq (ab.aa ?_))
 refine Oc oa (ad.aj ⟨[(1,_),(3,B true)],[(101,_)]⟩ rfl ?_)
 obtain ⟨v1,h2,h⟩:=aE h
 refine ab.cB (v:=v1) (fun (zero_1:Bool)=>⟨[(1,Pt 101 0),(3,B zero_1)],[(101,.box 25 (au x0))]⟩) (fun z=>z) ?_ ?_
 ·refine ab.seq (ab.aa ?_)
  refine Oc oa (ad.aj ⟨[(1,_),(3,_),(4,I 0)],[(101,_)]⟩ rfl (ab.block (ab.cS h2 (b7 fun (zero_2:Bool) (k_3:Int)=>⟨[(1,Pt 101 0),(3,B zero_2),(4,I k_3)],[(101,.box 25 (au x0))]⟩) [1,3,4] [101] rfl ?_)))
  rintro ⟨zero_2,k_3⟩ o3 h4 hy5
  refine ab.seq (ab.seq (ab.aa ?_))
  refine Oc om (Oc (bK rfl rfl) ?_)
  refine ad.aj ⟨[(1,_),(3,_),(4,_),(6,B (decide (k_3 < 16)))],[(101,_)]⟩ rfl (ab.ite h4 rfl (fun _ h4=>?_) (fun _ h4=>?_))
  ·refine ab.skip (Fin.ah ⟨[(1,_),(3,_),(4,_)],[(101,_)]⟩ rfl (Fin.then (ab.seq (ab.block (ab.aa ?_)))))
   refine Oc om (Oc om ?_)
   refine bU zero_2 [] (fun g6=>trivial) (fun g6=>om) (bU zero_2 [] (fun g7=>by exact trivial) (fun g7=>af ba rfl rfl) ?_)
   obtain ⟨x_5,e9,h4⟩:=aE h4
   refine bU zero_2 [11,12] (fun g8=>⟨g8,g8,trivial⟩) (fun g8=>aN bE (bp (gc e9 g8)) (b9 (gc e9 g8)) rfl rfl rfl) (bU zero_2 [13] (fun g10=>⟨g10,trivial⟩) (fun g10=>ax bl rfl rfl (cc (post:=[]) (k:=.u32) [.bool x0.Bad,.bool x0.Neg] (gc e9 g10) rfl rfl rfl)) (bU zero_2 [14] (fun g11=>⟨g11,trivial⟩) (fun g11=>cy rfl rfl) (Oc (aD (fun e=>e) rfl rfl rfl rfl) (Oc oa ?_))))
   refine ad.nil (Fin.aH (Fin.ah ⟨[(1,_),(3,B (zero_2 && (decide (x_5 = 0)))),(4,_)],[(101,_)]⟩ rfl (Fin.then (ab.aa ?_))))
   refine Oc om (Oc (bb rfl rfl) (Oc oa ?_))
   refine ad.nil ?_
   exact Fin.bR [1,3,4] [101] (zero_2 && (decide (x_5 = 0)),IntKind.i64.wrap (k_3 + 1)) (Option.some.inj h4) rfl
  ·refine ab.exit (Fin.aG ?_)
   obtain rfl:=hy5 _ (Option.some.inj h4).symm
   refine Fin.aG (Fin.aY ?_)
   exact Fin.join [1,3] [101] zero_2 rfl rfl
 ·rintro zero_1 hv
  subst v1
  refine ab.seq (ab.seq (ab.aa ?_))
  refine Oc (af ji rfl rfl) (Oc (ax cC rfl rfl rfl) ?_)
  refine ad.aj ⟨[(1,_),(3,_),(18,B x0.Bad)],[(101,_)]⟩ rfl (ab.ite h rfl (fun _ h=>?_) (fun _ h=>?_))
  ·refine ab.seq (ab.aa ?_)
   refine Oc om (Oc om ?_)
   refine bU zero_1 [] (fun g12=>trivial) (fun g12=>af bM rfl rfl) (bU zero_1 [21] (fun g13=>⟨g13,trivial⟩) (fun g13=>ax cC rfl rfl rfl) (bU zero_1 [22] (fun g14=>⟨g14,trivial⟩) (fun g14=>bq rfl) (Oc (aD (fun e=>e) rfl rfl rfl rfl) (Oc oa ?_))))
   refine ad.aj ⟨[(2,B (zero_1 && (!x0.Neg)))],[]⟩ rfl (ab.ret (Fin.ar ?_))
   obtain rfl:=Option.some.inj h
   refine Fin.ah ⟨[(2,_)],[]⟩ rfl (Fin.aq [.one (.bool (zero_1 && (!x0.Neg)))] (.inl rfl) rfl (.cons (.tmp rfl) .nil) ⟨rfl,rfl⟩)
  ·refine ab.skip (Fin.ah ⟨[(1,_),(3,_)],[(101,_)]⟩ rfl (Fin.then (ab.seq (ab.aa ?_))))
   refine Oc om (Oc (bq rfl) (Oc om ?_))
   refine cN (!(!zero_1)) [] (fun g15=>trivial) (fun g15=>af bM rfl rfl) (cN (!(!zero_1)) [28] (fun g16=>⟨g16,trivial⟩) (fun g16=>ax cC rfl rfl rfl) (cN (!(!zero_1)) [29] (fun g17=>⟨g17,trivial⟩) (fun g17=>bq rfl) (Oc (aU (fun e=>by rw [e]; rfl) rfl rfl rfl rfl) (Oc oa ?_))))
   refine ad.aj ⟨[(2,B ((!zero_1) || (!x0.Neg)))],[]⟩ rfl (ab.ret ?_)
   obtain rfl:=Option.some.inj h
   refine Fin.ah ⟨[(2,_)],[]⟩ rfl (Fin.aq [.one (.bool ((!zero_1) || (!x0.Neg)))] (.inl rfl) rfl (.cons (.tmp rfl) .nil) ⟨rfl,rfl⟩)
def da (F:Nat) (x0:bt):Option Bool :=
 (lI F x0).bind fun x_1=>some (x_1 && (!x0.Bad))
theorem cM {F:Nat} {x0:bt} {r:Bool} (h:da F x0 = some r):az Tryz.prog (bj mx) 65 [] [.agg (au x0)] (Is [] (.b (.one (.bool r)))):=by
 unfold da at h
 refine az.intro 12 Tryz.func65 Tryz.ntmps65 rfl (by simp) fun E=>?_
 show ab _ E ⟨12,[],[]⟩ _ ⟨[(0,.b (.agg (au x0)))],[]⟩ _
 refine ab.seq (ab.aa ?_)
 refine Oc (aS (k:=101) rfl rfl) (Oc oa ?_)
 refine ad.aj ⟨[(1,Pt 101 0)],[(101,.box 25 (au x0))]⟩ rfl (ab.seq (ab.aa ?_))
 refine Oc (lp ao) ?_
 obtain ⟨x_1,e1,h⟩:=aE h
 refine Oc (ae (u3 e1) goes129 rfl rfl) (Oc oa ?_)
 refine ad.aj ⟨[(1,_),(3,B x_1)],[(101,_)]⟩ rfl (ab.seq (ab.aa ?_))
 refine Oc om (Oc om ?_)
 refine bU x_1 [] (fun g2=>trivial) (fun g2=>af ji rfl rfl) (bU x_1 [8] (fun g3=>⟨g3,trivial⟩) (fun g3=>ax cC rfl rfl rfl) (bU x_1 [9] (fun g4=>⟨g4,trivial⟩) (fun g4=>bq rfl) (Oc (aD (fun e=>e) rfl rfl rfl rfl) (Oc oa ?_))))
 refine ad.aj ⟨[(2,B (x_1 && (!x0.Bad)))],[]⟩ rfl (ab.ret ?_)
 obtain rfl:=Option.some.inj h
 refine Fin.ah ⟨[(2,_)],[]⟩ rfl (Fin.aq [.one (.bool (x_1 && (!x0.Bad)))] (.inl rfl) rfl (.cons (.tmp rfl) .nil) ⟨rfl,rfl⟩)
def cU (F:Nat) (x0:bt):Option (List Int) :=
 Option.bind (iter F (b7 fun out_2 k_3=>if (decide (k_3 < 16)) = true then ((bB x0.W.l k_3).bind fun x_5=>(bB x0.W.l k_3).bind fun x_6=>(k7 .u32 x_6 65536).bind fun x_7=>(il out_2 [IntKind.i64.wrap (Int.tmod x_5 65536),IntKind.i64.wrap x_7]).bind fun x_8=>some (.inl (x_8,IntKind.i64.wrap (k_3 + 1)))) else (some (.inr out_2))) ([],0)) (fun out_1=>(gj F out_1).bind fun x_9=>some x_9)
theorem df {F:Nat} {x0:bt} {r:(List Int)} (h:cU F x0 = some r):az Tryz.prog (bj mx) 66 [] [.agg (au x0)] (Is [] (.b (.one (.sl 1 (r.map eI))))):=by
 unfold cU at h
 refine az.intro 26 Tryz.func66 Tryz.ntmps66 rfl (by simp) fun E=>?_
 show ab _ E ⟨26,[],[]⟩ _ ⟨[(0,.b (.agg (au x0)))],[]⟩ _
 refine ab.seq (ab.aa ?_)
 refine Oc (aS (k:=101) rfl rfl) (Oc oa ?_)
 refine ad.aj ⟨[(1,Pt 101 0)],[(101,.box 25 (au x0))]⟩ rfl (ab.seq (ab.aa ?_))
 refine Oc oa (ad.aj ⟨[(1,_),(3,.b (.one (.nil)))],[(101,_)]⟩ rfl ?_)
 obtain ⟨v1,h2,h⟩:=aE h
 refine ab.cB (v:=v1) (fun (out_1:List Int)=>⟨[(3,.b (.row 103))],[(103,.row 3 1 (out_1.map eI))]⟩) (fun z=>z) ?_ ?_
 ·refine ab.seq (ab.aa ?_)
  refine Oc oa (ad.aj ⟨[(1,_),(3,_),(4,I 0)],[(101,_)]⟩ rfl (ab.block (ab.kq 3 103 1 3 rfl (by decide) rfl (ab.cS h2 (b7 fun (out_2:List Int) (k_3:Int)=>⟨[(1,Pt 101 0),(3,.b (.row 103)),(4,I k_3)],[(101,.box 25 (au x0)),(103,.row 3 1 (out_2.map eI))]⟩) [1,3,4] [101,103] rfl ?_))))
  rintro ⟨out_2,k_3⟩ o3 h4 hy5
  refine ab.seq (ab.seq (ab.aa ?_))
  refine Oc om (Oc (bK rfl rfl) ?_)
  refine ad.aj ⟨[(1,_),(3,_),(4,_),(6,B (decide (k_3 < 16)))],[(101,_),(103,_)]⟩ rfl (ab.ite h4 rfl (fun _ h4=>?_) (fun _ h4=>?_))
  ·refine ab.skip (Fin.ah ⟨[(1,_),(3,_),(4,_)],[(101,_),(103,_)]⟩ rfl (Fin.then (ab.seq (ab.block ?_))))
   refine ab.ah ⟨[(1,_),(3,_),(4,_)],[(101,_),(103,_)]⟩ rfl ?_
   obtain ⟨x_5,e6,h4⟩:=aE h4
   obtain ⟨x_6,e7,h4⟩:=aE h4
   obtain ⟨x_7,e8,h4⟩:=aE h4
   obtain ⟨x_8,e9,h4⟩:=aE h4
   refine ab.jy mixed 14 [.b (.row 103),I k_3,Pt 101 2,.b (.ptr 101 (2 + (k_3:Int).toNat * 1)),.b (.one (.int .u32 x_5)),.b (.one (.int .u32 (Int.tmod x_5 65536))),I (IntKind.i64.wrap (Int.tmod x_5 65536)),I k_3,Pt 101 2,.b (.ptr 101 (2 + (k_3:Int).toNat * 1)),.b (.one (.int .u32 x_6)),.b (.one (.int .u32 x_7)),I (IntKind.i64.wrap x_7),.b (.one (.sl 1 ([IntKind.i64.wrap (Int.tmod x_5 65536),IntKind.i64.wrap x_7].map eI)))] [1,3,4] [101,103] (s':=⟨[(1,_),(3,_),(4,_)],[(101,_),(103,.row 3 1 (x_8.map eI))]⟩) rfl ⟨fun _=>.p om,fun _=>.p om,fun _=>.p (af ba rfl rfl),fun _=>.p (aN bE (bp e6) (b9 e6) rfl rfl rfl),fun _=>.p (ax bl rfl rfl (cc (post:=[]) (k:=.u32) [.bool x0.Bad,.bool x0.Neg] e6 rfl rfl rfl)),fun _=>.p (lg (by decide) rfl rfl),fun _=>.p (aF bG lc rfl),fun _=>.p om,fun _=>.p (af ba rfl rfl),fun _=>.p (aN bE (bp e7) (b9 e7) rfl rfl rfl),fun _=>.p (ax bl rfl rfl (cc (post:=[]) (k:=.u32) [.bool x0.Bad,.bool x0.Neg] e7 rfl rfl rfl)),fun _=>.p (fw e8 rfl rfl),fun _=>.p (aF bG lc rfl),fun _=>.p (uL (es:=[IntKind.i64.wrap (Int.tmod x_5 65536),IntKind.i64.wrap x_7].map eI) du rfl rfl (c5 fun _=>rfl) rfl (by decide) (by decide)),trivial⟩ ⟨_,by exact .p (vt du (tJ e9) (tI e9) rfl rfl rfl (nH e9) rfl),⟨_,by exact .p oa,rfl⟩⟩ rfl (Fin.aH (Fin.ah ⟨[(1,_),(3,_),(4,_)],[(101,_),(103,_)]⟩ rfl (Fin.then (ab.aa ?_))))
   refine Oc om (Oc (bb rfl rfl) (Oc oa ?_))
   refine ad.nil ?_
   exact Fin.bR [1,3,4] [101,103] (x_8,IntKind.i64.wrap (k_3 + 1)) (Option.some.inj h4) rfl
  ·refine ab.exit (Fin.aG ?_)
   obtain rfl:=hy5 _ (Option.some.inj h4).symm
   refine Fin.aG (Fin.aY ?_)
   exact Fin.join [3] [103] out_2 rfl rfl
 ·rintro out_1 hv
  subst v1
  refine ab.seq (ab.aa ?_)
  refine Oc om (ad.eY 103 rfl ?_)
  obtain ⟨x_9,e10,h⟩:=aE h
  refine Oc (ae (gC e10) nD rfl rfl) (Oc oa ?_)
  refine ad.aj ⟨[(2,.b (.one (.sl 1 (x_9.map eI))))],[]⟩ rfl (ab.ret ?_)
  obtain rfl:=Option.some.inj h
  refine Fin.ah ⟨[(2,_)],[]⟩ rfl (Fin.aq [.one (.sl 1 (x_9.map eI))] (.inl rfl) rfl (.cons (.tmp rfl) .nil) ⟨rfl,rfl⟩)
def jj (F:Nat) (x0:bt):Option Int :=
 (da F x0).bind fun x_1=>(bA (!(!x_1)) (cU F x0)).bind fun x_2=>if ((!x_1) || (decide ((x_2.length:Int) = 0))) = true then (some 0) else (if x0.Neg = true then (some (-1)) else (some 1))
theorem nT {F:Nat} {x0:bt} {r:Int} (h:jj F x0 = some r):az Tryz.prog (bj mx) 103 [] [.agg (au x0)] (Is [] (.b (.one (.i r)))):=by
 unfold jj at h
 refine az.intro 14 Tryz.func103 Tryz.ntmps103 rfl (by simp) fun E=>?_
 show ab _ E ⟨14,[],[]⟩ _ ⟨[(0,.b (.agg (au x0)))],[]⟩ _
 refine ab.seq (ab.aa ?_)
 refine Oc (aS (k:=101) rfl rfl) (Oc oa ?_)
 refine ad.aj ⟨[(1,Pt 101 0)],[(101,.box 25 (au x0))]⟩ rfl (ab.seq (ab.seq (ab.aa ?_)))
 refine Oc (lp ao) ?_
 obtain ⟨x_1,e1,h⟩:=aE h
 refine Oc (ae (cM e1) jq rfl rfl) (Oc (bq rfl) (Oc om ?_))
 refine cN (!(!x_1)) [] (fun g2=>trivial) (fun g2=>lp ao) (ad.ah ⟨[(1,_),(6,B (!x_1)),(7,.dA (!(!x_1)) (.agg (au x0)))],[(101,_)]⟩ rfl ?_)
 obtain ⟨x_2,e4,h⟩:=aE h
 refine cN (!(!x_1)) [7] (fun g3=>⟨g3,trivial⟩) (fun g3=>ae (df (gc e4 g3)) mr rfl rfl) (cN (!(!x_1)) [8] (fun g5=>⟨g5,trivial⟩) (fun g5=>b8 iI rfl (List.length_map _)) (cN (!(!x_1)) [9] (fun g6=>⟨g6,trivial⟩) (fun g6=>cy rfl rfl) (Oc (aU (fun e=>by rw [e]; rfl) rfl rfl rfl rfl) (ad.aj ⟨[(1,_),(11,B ((!x_1) || (decide ((x_2.length:Int) = 0))))],[(101,_)]⟩ rfl (ab.ite h rfl (fun _ h=>?_) (fun _ h=>?_))))))
 ·refine ab.seq (ab.aa ?_)
  refine Oc oa (ad.aj ⟨[(2,I 0)],[]⟩ rfl (ab.ret (Fin.ar ?_)))
  obtain rfl:=Option.some.inj h
  refine Fin.ah ⟨[(2,_)],[]⟩ rfl (Fin.aq [.one (.i 0)] (.inl rfl) rfl (.cons (.tmp rfl) .nil) ⟨rfl,rfl⟩)
 ·refine ab.skip (Fin.ah ⟨[(1,_)],[(101,_)]⟩ rfl (Fin.then (ab.seq (ab.seq (ab.aa ?_)))))
  refine Oc (af bM rfl rfl) (Oc (ax cC rfl rfl rfl) ?_)
  refine ad.aj ⟨[(13,B x0.Neg)],[]⟩ rfl (ab.ite h rfl (fun _ h=>?_) (fun _ h=>?_))
  ·refine ab.seq (ab.aa ?_)
   refine Oc oa (ad.aj ⟨[(2,I (-1))],[]⟩ rfl (ab.ret (Fin.ar ?_)))
   obtain rfl:=Option.some.inj h
   refine Fin.ah ⟨[(2,_)],[]⟩ rfl (Fin.aq [.one (.i (-1))] (.inl rfl) rfl (.cons (.tmp rfl) .nil) ⟨rfl,rfl⟩)
  ·refine ab.skip (Fin.ah ⟨[],[]⟩ rfl (Fin.then (ab.seq (ab.aa ?_))))
   refine Oc oa (ad.aj ⟨[(2,I 1)],[]⟩ rfl (ab.ret ?_))
   obtain rfl:=Option.some.inj h
   refine Fin.ah ⟨[(2,_)],[]⟩ rfl (Fin.aq [.one (.i 1)] (.inl rfl) rfl (.cons (.tmp rfl) .nil) ⟨rfl,rfl⟩)
def ls (F:Nat):Option bt :=
 (iV F 1).bind fun x_1=>some x_1
theorem oV {F:Nat} {r:bt} (h:ls F = some r):az Tryz.prog (bj mx) 108 [] [] (Is [] (.b (.agg (au r)))):=by
 unfold ls at h
 refine az.intro 2 Tryz.func108 Tryz.ntmps108 rfl (by simp) fun E=>?_
 show ab _ E ⟨2,[],[]⟩ _ ⟨[],[]⟩ _
 refine ab.seq (ab.aa ?_)
 refine Oc (aA (k:=101) bx rfl) (ad.aj ⟨[(0,Pt 101 0)],[(101,.box 25 cO)]⟩ rfl (ab.seq (ab.aa ?_)))
 obtain ⟨x_1,e1,h⟩:=aE h
 refine Oc (ae (je e1) nE rfl rfl) (Oc (ag ao rfl rfl rfl rfl (Nat.le_of_ble_eq_true rfl) rfl) ?_)
 refine ad.aj ⟨[(0,_)],[(101,.box 25 (au x_1))]⟩ rfl (ab.ret ?_)
 obtain rfl:=Option.some.inj h
 refine Fin.ah ⟨[(0,_)],[(101,_)]⟩ rfl (Fin.aq [.agg (au x_1)] (.inl rfl) rfl (.cons (.agg ao rfl rfl rfl rfl) .nil) ⟨rfl,rfl⟩)
def ly (F:Nat):Option bN :=
 (iR F).bind fun x_1=>(ls F).bind fun x_2=>some (⟨x_1,x_2⟩:bN)
theorem oW {F:Nat} {r:bN} (h:ly F = some r):az Tryz.prog (bj mx) 114 [] [] (Is [] (.b (.agg (aI r)))):=by
 unfold ly at h
 refine az.intro 4 Tryz.func114 Tryz.ntmps114 rfl (by simp) fun E=>?_
 show ab _ E ⟨4,[],[]⟩ _ ⟨[],[]⟩ _
 refine ab.seq (ab.aa ?_)
 refine Oc (aA (k:=101) bO rfl) (ad.aj ⟨[(0,Pt 101 0)],[(101,.box 27 eh)]⟩ rfl (ab.seq (ab.aa ?_)))
 obtain ⟨x_1,e1,h⟩:=aE h
 refine Oc (ae (ij e1) nB rfl rfl) ?_
 obtain ⟨x_2,e2,h⟩:=aE h
 refine Oc (ae (oV e2) wD rfl rfl) (Oc (aV fB rfl rfl) (Oc (ag aC rfl rfl rfl rfl (Nat.le_of_ble_eq_true rfl) rfl) ?_))
 refine ad.aj ⟨[(0,_)],[(101,.box 27 (au x_1 ++ (au x_2)))]⟩ rfl (ab.ret ?_)
 obtain rfl:=Option.some.inj h
 refine Fin.ah ⟨[(0,_)],[(101,_)]⟩ rfl (Fin.aq [.agg (au x_1 ++ (au x_2))] (.inl rfl) rfl (.cons (.agg aC rfl rfl rfl rfl) .nil) ⟨rfl,rfl⟩)
def gi (F:Nat) (x0:bt):Option (Int × Bool) :=
 (da F x0).bind fun x_1=>if ((!x_1) || (decide (1073741824 ≤ x0.W.a1))) = true then (some (0,false)) else (Option.bind (iter F (fun k_2=>if (decide (k_2 < 16)) = true then ((bB x0.W.l k_2).bind fun x_3=>if (decide (x_3 ≠ 0)) = true then (some (.inr (.inr (0,false)))) else (some (.inl (IntKind.i64.wrap (k_2 + 1))))) else (some (.inr (.inl ())))) 2) (j4 (fun _=>bD (IntKind.i64.wrap ((IntKind.i64.wrap x0.W.a1) * 4294967296)) fun x_4=>bD (IntKind.i64.wrap (x_4 + (IntKind.i64.wrap x0.W.a0))) fun x_5=>if x0.Neg = true then (some (IntKind.i64.wrap (-x_5),true)) else (some (x_5,true))) (fun y=>some y)))
theorem iE {F:Nat} {x0:bt} {r:Int × Bool} (h:gi F x0 = some r):az Tryz.prog (bj mx) 152 [] [.agg (au x0)] (Is [] (.fE [.one (.i r.1),.one (.bool r.2)])):=by
 unfold gi at h
 refine az.intro 41 Tryz.func152 Tryz.ntmps152 rfl (by simp) fun E=>?_
 show ab _ E ⟨41,[],[]⟩ _ ⟨[(0,.b (.agg (au x0)))],[]⟩ _
 refine ab.seq (ab.aa ?_)
 refine Oc (aS (k:=101) rfl rfl) (Oc oa (Oc oa ?_))
 refine ad.aj ⟨[(1,Pt 101 0)],[(101,.box 25 (au x0))]⟩ rfl (ab.seq (ab.aa ?_))
 refine Oc (lp ao) ?_
 obtain ⟨x_1,e1,h⟩:=aE h
 refine Oc (ae (cM e1) jq rfl rfl) (Oc oa ?_)
 refine ad.aj ⟨[(1,_),(4,B x_1)],[(101,_)]⟩ rfl (ab.seq (ab.seq (ab.aa ?_)))
 refine Oc om (Oc (bq rfl) (Oc om ?_))
 refine cN (!(!x_1)) [] (fun g2=>trivial) (fun g2=>af ba rfl rfl) (cN (!(!x_1)) [12] (fun g3=>⟨g3,trivial⟩) (fun g3=>aN bE (by decide) (by decide) rfl rfl rfl) (cN (!(!x_1)) [13] (fun g4=>⟨g4,trivial⟩) (fun g4=>ax bl rfl rfl rfl) (cN (!(!x_1)) [14] (fun g5=>⟨g5,trivial⟩) (fun g5=>fy rfl rfl) (Oc (aU (fun e=>by rw [e]; rfl) rfl rfl rfl rfl) (ad.aj ⟨[(1,_),(16,B ((!x_1) || (decide (1073741824 ≤ x0.W.a1))))],[(101,_)]⟩ rfl ?_)))))
 refine ab.ite h rfl (fun _ h=>?_) (fun _ h=>?_)
 ·refine ab.seq (ab.aa ?_)
  refine Oc oa (Oc oa ?_)
  refine ad.aj ⟨[(2,I 0),(3,B false)],[]⟩ rfl (ab.ret (Fin.ar ?_))
  obtain rfl:=Option.some.inj h
  refine Fin.ah ⟨[(2,_),(3,_)],[]⟩ rfl (Fin.aq [.one (.i 0),.one (.bool false)] (.inl rfl) rfl (.cons (.tmp rfl) (.cons (.tmp rfl) .nil)) ⟨rfl,rfl⟩)
 ·refine ab.skip (Fin.ah ⟨[(1,_)],[(101,_)]⟩ rfl (Fin.then ?_))
  obtain ⟨v6,h7,h⟩:=aE h
  refine ab.cB (v:=v6) (fun (_:Unit)=>⟨[(1,Pt 101 0)],[(101,.box 25 (au x0))]⟩) (fun z=>.inl z) ?_ ?_
  ·refine ab.seq (ab.aa ?_)
   refine Oc oa (ad.aj ⟨[(1,_),(5,I 2)],[(101,_)]⟩ rfl (ab.block (ab.cS h7 (fun (k_2:Int)=>⟨[(1,Pt 101 0),(5,I k_2)],[(101,.box 25 (au x0))]⟩) [1,5] [101] rfl ?_)))
   rintro k_2 o8 h9 hy10
   refine ab.seq (ab.seq (ab.aa ?_))
   refine Oc om (Oc (bK rfl rfl) ?_)
   refine ad.aj ⟨[(1,_),(5,_),(18,B (decide (k_2 < 16)))],[(101,_)]⟩ rfl (ab.ite h9 rfl (fun _ h9=>?_) (fun _ h9=>?_))
   ·refine ab.skip (Fin.ah ⟨[(1,_),(5,_)],[(101,_)]⟩ rfl (Fin.then (ab.seq (ab.block (ab.seq (ab.aa ?_))))))
    refine Oc om (Oc (af ba rfl rfl) ?_)
    obtain ⟨x_3,e11,h9⟩:=aE h9
    refine Oc (aN bE (bp e11) (b9 e11) rfl rfl rfl) (Oc (ax bl rfl rfl (cc (post:=[]) (k:=.u32) [.bool x0.Bad,.bool x0.Neg] e11 rfl rfl rfl)) (Oc (dY rfl rfl) ?_))
    refine ad.aj ⟨[(1,_),(5,_),(25,B (decide (x_3 ≠ 0)))],[(101,_)]⟩ rfl (ab.ite h9 rfl (fun _ h9=>?_) (fun _ h9=>?_))
    ·refine ab.seq (ab.aa ?_)
     refine Oc oa (Oc oa ?_)
     refine ad.aj ⟨[(2,I 0),(3,B false)],[]⟩ rfl (ab.ret (Fin.aL (Fin.ar ?_)))
     obtain rfl:=hy10 _ (Option.some.inj h9).symm
     refine Fin.ar (Fin.aL (Fin.ar ?_))
     obtain rfl:=Option.some.inj h
     refine Fin.ah ⟨[(2,_),(3,_)],[]⟩ rfl (Fin.aq [.one (.i 0),.one (.bool false)] (.inl rfl) rfl (.cons (.tmp rfl) (.cons (.tmp rfl) .nil)) ⟨rfl,rfl⟩)
    ·refine ab.skip (Fin.aH (Fin.ah ⟨[(1,_),(5,_)],[(101,_)]⟩ rfl (Fin.then (ab.aa ?_))))
     refine Oc om (Oc (bb rfl rfl) (Oc oa ?_))
     refine ad.nil ?_
     exact Fin.bR [1,5] [101] (IntKind.i64.wrap (k_2 + 1)) (Option.some.inj h9) rfl
   ·refine ab.exit (Fin.aG ?_)
    obtain rfl:=hy10 _ (Option.some.inj h9).symm
    refine Fin.aG (Fin.aY ?_)
    exact Fin.join [1] [101] () rfl rfl
  ·rintro _ hv
   subst v6
   refine ab.seq (ab.aa ?_)
   refine Oc (af ba rfl rfl) (Oc (aN bE (by decide) (by decide) rfl rfl rfl) (Oc (ax bl rfl rfl rfl) (Oc (aF bG lc rfl) ?_)))
   refine ad.cp .i64 h rfl (fN rfl rfl) (fun x_4 h=>?_)
   refine Oc (af ba rfl rfl) (Oc (aN bE (by decide) (by decide) rfl rfl rfl) ?_)
   refine ad.ah ⟨[(1,_),(30,I x_4),(32,Pt 101 2)],[(101,_)]⟩ rfl (Oc (ax bl rfl rfl rfl) (Oc (aF bG lc rfl) ?_))
   refine ad.cp .i64 h rfl (bb rfl rfl) (fun x_5 h=>?_)
   refine Oc oa (ad.aj ⟨[(1,_),(6,I x_5)],[(101,_)]⟩ rfl (ab.seq (ab.seq (ab.aa ?_))))
   refine Oc (af bM rfl rfl) (Oc (ax cC rfl rfl rfl) ?_)
   refine ad.aj ⟨[(6,_),(37,B x0.Neg)],[]⟩ rfl (ab.ite h rfl (fun _ h=>?_) (fun _ h=>?_))
   ·refine ab.seq (ab.aa ?_)
    refine Oc om (Oc (mn rfl) (Oc oa (Oc oa ?_)))
    refine ad.aj ⟨[(2,I (IntKind.i64.wrap (-x_5))),(3,B true)],[]⟩ rfl (ab.ret (Fin.ar ?_))
    obtain rfl:=Option.some.inj h
    refine Fin.ah ⟨[(2,_),(3,_)],[]⟩ rfl (Fin.aq [.one (.i (IntKind.i64.wrap (-x_5))),.one (.bool true)] (.inl rfl) rfl (.cons (.tmp rfl) (.cons (.tmp rfl) .nil)) ⟨rfl,rfl⟩)
   ·refine ab.skip (Fin.ah ⟨[(6,_)],[]⟩ rfl (Fin.then (ab.seq (ab.aa ?_))))
    refine Oc om (Oc oa (Oc oa ?_))
    refine ad.aj ⟨[(2,I x_5),(3,B true)],[]⟩ rfl (ab.ret ?_)
    obtain rfl:=Option.some.inj h
    refine Fin.ah ⟨[(2,_),(3,_)],[]⟩ rfl (Fin.aq [.one (.i x_5),.one (.bool true)] (.inl rfl) rfl (.cons (.tmp rfl) (.cons (.tmp rfl) .nil)) ⟨rfl,rfl⟩)
def oI (F:Nat) (x0:bt):Option bt :=
 (da F x0).bind fun x_1=>if (!x_1) = true then ((iR F).bind fun x_2=>some x_2) else ((cU F x0).bind fun x_3=>(dO F false x_3).bind fun x_4=>some x_4)
theorem yh {F:Nat} {x0:bt} {r:bt} (h:oI F x0 = some r):az Tryz.prog (bj mx) 161 [] [.agg (au x0)] (Is [] (.b (.agg (au r)))):=by
 unfold oI at h
 refine az.intro 10 Tryz.func161 Tryz.ntmps161 rfl (by simp) fun E=>?_
 show ab _ E ⟨10,[],[]⟩ _ ⟨[(0,.b (.agg (au x0)))],[]⟩ _
 refine ab.seq (ab.aa ?_)
 refine Oc (aS (k:=101) rfl rfl) (Oc (aA (k:=102) bx rfl) ?_)
 refine ad.aj ⟨[(1,Pt 101 0),(2,Pt 102 0)],[(101,.box 25 (au x0)),(102,.box 25 cO)]⟩ rfl (ab.seq (ab.seq (ab.aa ?_)))
 refine Oc (lp ao) ?_
 obtain ⟨x_1,e1,h⟩:=aE h
 refine Oc (ae (cM e1) jq rfl rfl) (Oc (bq rfl) ?_)
 refine ad.aj ⟨[(1,_),(2,_),(5,B (!x_1))],[(101,_),(102,_)]⟩ rfl (ab.ite h rfl (fun _ h=>?_) (fun _ h=>?_))
 ·refine ab.seq (ab.aa ?_)
  obtain ⟨x_2,e2,h⟩:=aE h
  refine Oc (ae (ij e2) nB rfl rfl) (Oc (ag ao rfl rfl rfl rfl (Nat.le_of_ble_eq_true rfl) rfl) ?_)
  refine ad.aj ⟨[(2,_)],[(102,.box 25 (au x_2))]⟩ rfl (ab.ret (Fin.ar ?_))
  obtain rfl:=Option.some.inj h
  refine Fin.ah ⟨[(2,_)],[(102,_)]⟩ rfl (Fin.aq [.agg (au x_2)] (.inl rfl) rfl (.cons (.agg ao rfl rfl rfl rfl) .nil) ⟨rfl,rfl⟩)
 ·refine ab.skip (Fin.ah ⟨[(1,_),(2,_)],[(101,_),(102,_)]⟩ rfl (Fin.then (ab.seq (ab.aa ?_))))
  refine Oc (lp ao) ?_
  obtain ⟨x_3,e3,h⟩:=aE h
  refine Oc (ae (df e3) mr rfl rfl) ?_
  obtain ⟨x_4,e4,h⟩:=aE h
  refine Oc (ae (fo e4) nA rfl rfl) (Oc (ag ao rfl rfl rfl rfl (Nat.le_of_ble_eq_true rfl) rfl) ?_)
  refine ad.aj ⟨[(2,_)],[(102,.box 25 (au x_4))]⟩ rfl (ab.ret ?_)
  obtain rfl:=Option.some.inj h
  refine Fin.ah ⟨[(2,_)],[(102,_)]⟩ rfl (Fin.aq [.agg (au x_4)] (.inl rfl) rfl (.cons (.agg ao rfl rfl rfl rfl) .nil) ⟨rfl,rfl⟩)
def lY (F:Nat) (l0:List Int) (k0:Int):Option Int :=
 if (decide (k0 < 0)) = true then (some 0) else ((eF F l0 k0).bind fun x_1=>some x_1)
theorem nJ {F:Nat} {l0:List Int} {k0:Int} {r:Int} (h:lY F l0 k0 = some r):az Tryz.prog (bj mx) 186 [] [.one (.sl 1 (l0.map eI)),.one (.i k0)] (Is [] (.b (.one (.i r)))):=by
 unfold lY at h
 refine az.intro 10 Tryz.func186 Tryz.ntmps186 rfl (by simp) fun E=>?_
 show ab _ E ⟨10,[],[]⟩ _ ⟨[(0,.b (.one (.sl 1 (l0.map eI)))),(1,I k0)],[]⟩ _
 refine ab.seq (ab.aa ?_)
 refine Oc oa (ad.aj ⟨[(0,.b (.one (.sl 1 (l0.map eI)))),(1,I k0)],[]⟩ rfl (ab.seq (ab.seq (ab.aa ?_))))
 refine Oc om (Oc (bK rfl rfl) ?_)
 refine ad.aj ⟨[(0,_),(1,_),(6,B (decide (k0 < 0)))],[]⟩ rfl (ab.ite h rfl (fun _ h=>?_) (fun _ h=>?_))
 ·refine ab.seq (ab.aa ?_)
  refine Oc oa (ad.aj ⟨[(4,I 0)],[]⟩ rfl (ab.ret (Fin.ar ?_)))
  obtain rfl:=Option.some.inj h
  refine Fin.ah ⟨[(4,_)],[]⟩ rfl (Fin.aq [.one (.i 0)] (.inl rfl) rfl (.cons (.tmp rfl) .nil) ⟨rfl,rfl⟩)
 ·refine ab.skip (Fin.ah ⟨[(0,_),(1,_)],[]⟩ rfl (Fin.then (ab.seq (ab.aa ?_))))
  refine Oc om (Oc om ?_)
  obtain ⟨x_1,e1,h⟩:=aE h
  refine Oc (ae (fe e1) l6 rfl rfl) (Oc oa ?_)
  refine ad.aj ⟨[(4,I x_1)],[]⟩ rfl (ab.ret ?_)
  obtain rfl:=Option.some.inj h
  refine Fin.ah ⟨[(4,_)],[]⟩ rfl (Fin.aq [.one (.i x_1)] (.inl rfl) rfl (.cons (.tmp rfl) .nil) ⟨rfl,rfl⟩)
def jN (F:Nat) (a0:List Int) (b0:List Int):Option (List Int) :=
 bD (IntKind.i64.wrap ((a0.length:Int) + (b0.length:Int))) fun x_1=>Option.bind (mk? (0:Int) (IntKind.i64.wrap (x_1 + 1)) (IntKind.i64.wrap (x_1 + 1))) (fun x_2=>Option.bind (iter F (b7 fun out_4 i_5=>if (decide (i_5 < (a0.length:Int))) = true then (Option.bind (Option.bind (iter F (b7 fun out_9 k_10=>if (decide (k_10 < (b0.length:Int))) = true then ((bB out_9 (IntKind.i64.wrap (i_5 + k_10))).bind fun x_12=>(bB a0 i_5).bind fun x_13=>(bB b0 k_10).bind fun x_14=>(bB out_9 (IntKind.i64.wrap (i_5 + k_10))).bind fun x_15=>some (.inl (out_9.set (IntKind.i64.wrap (i_5 + k_10):Int).toNat (IntKind.i64.wrap (x_12 + (IntKind.i64.wrap (x_13 * x_14)))),IntKind.i64.wrap (k_10 + 1)))) else (some (.inr out_9))) (out_4,0)) (fun out_8=>Option.bind (iter F (kA fun out_16 carry_17 k_18=>if (decide (k_18 < (out_16.length:Int))) = true then ((bB out_16 k_18).bind fun x_20=>bD (Int.tmod (IntKind.i64.wrap (x_20 + carry_17)) 65536) fun x_21=>(bB out_16 k_18).bind fun x_22=>(k7 .i64 (IntKind.i64.wrap (x_20 + carry_17)) 65536).bind fun x_23=>some (.inl (out_16.set (k_18:Int).toNat x_21,x_23,IntKind.i64.wrap (k_18 + 1)))) else (some (.inr out_16))) (out_8,0,0)) (fun out_19=>some out_19))) (fun out_7=>some (.inl (out_7,IntKind.i64.wrap (i_5 + 1))))) else (some (.inr out_4))) (x_2,0)) (fun out_3=>(gj F out_3).bind fun x_24=>some x_24))
theorem qa {F:Nat} {a0:List Int} {b0:List Int} {r:(List Int)} (h:jN F a0 b0 = some r):az Tryz.prog (bj mx) 185 [] [.one (.sl 1 (a0.map eI)),.one (.sl 1 (b0.map eI))] (Is [] (.b (.one (.sl 1 (r.map eI))))):=by
 unfold jN at h
 refine az.intro 72 Tryz.func185 Tryz.ntmps185 rfl (by simp) fun E=>?_
 show ab _ E ⟨72,[],[]⟩ _ ⟨[(0,.b (.one (.sl 1 (a0.map eI)))),(1,.b (.one (.sl 1 (b0.map eI))))],[]⟩ _
 refine ab.seq (ab.aa ?_)
 refine Oc oa (ad.aj ⟨[(0,.b (.one (.sl 1 (a0.map eI)))),(1,.b (.one (.sl 1 (b0.map eI))))],[]⟩ rfl (ab.seq (ab.aa ?_)))
 refine Oc om (Oc (b8 iI rfl (List.length_map _)) (Oc om (Oc (b8 iI rfl (List.length_map _)) ?_)))
 refine ad.cp .i64 h rfl (bb rfl rfl) (fun x_1 h=>?_)
 refine ad.ah ⟨[(0,_),(1,_),(15,I x_1)],[]⟩ rfl (Oc (bb rfl rfl) ?_)
 obtain ⟨x_2,e1,h⟩:=aE h
 refine Oc (rL (k:=101) (enc:=eI) du e1 (by decide) (.cons .refl .nil) rfl rfl rfl) (Oc oa ?_)
 refine ad.aj ⟨[(0,_),(1,_),(5,.b (.row 101))],[(101,.row 3 1 (x_2.map eI))]⟩ rfl ?_
 obtain ⟨v2,h3,h⟩:=aE h
 refine ab.cB (v:=v2) (fun (out_3:List Int)=>⟨[(5,.b (.row 101))],[(101,.row 3 1 (out_3.map eI))]⟩) (fun z=>z) ?_ ?_
 ·refine ab.seq (ab.aa ?_)
  refine Oc oa (ad.aj ⟨[(0,_),(1,_),(5,_),(6,I 0)],[(101,_)]⟩ rfl (ab.block (ab.cS h3 (b7 fun (out_4:List Int) (i_5:Int)=>⟨[(0,.b (.one (.sl 1 (a0.map eI)))),(1,.b (.one (.sl 1 (b0.map eI)))),(5,.b (.row 101)),(6,I i_5)],[(101,.row 3 1 (out_4.map eI))]⟩) [0,1,5,6] [101] rfl ?_)))
  rintro ⟨out_4,i_5⟩ o4 h5 hy6
  refine ab.seq (ab.seq (ab.aa ?_))
  refine Oc om (Oc om (Oc (b8 iI rfl (List.length_map _)) (Oc (bK rfl rfl) ?_)))
  refine ad.aj ⟨[(0,_),(1,_),(5,_),(6,_),(21,B (decide (i_5 < (a0.length:Int))))],[(101,_)]⟩ rfl (ab.ite h5 rfl (fun _ h5=>?_) (fun _ h5=>?_))
  ·refine ab.skip (Fin.ah ⟨[(0,_),(1,_),(5,_),(6,_)],[(101,_)]⟩ rfl (Fin.then ?_))
   obtain ⟨v7,h8,h5⟩:=aE h5
   refine ab.cB (v:=v7) (fun (out_7:List Int)=>⟨[(0,.b (.one (.sl 1 (a0.map eI)))),(1,.b (.one (.sl 1 (b0.map eI)))),(5,.b (.row 101)),(6,I i_5)],[(101,.row 3 1 (out_7.map eI))]⟩) (fun z=>z) ?_ ?_
   ·refine ab.block ?_
    obtain ⟨v9,h10,h8⟩:=aE h8
    refine ab.cB (v:=v9) (fun (out_8:List Int)=>⟨[(0,.b (.one (.sl 1 (a0.map eI)))),(1,.b (.one (.sl 1 (b0.map eI)))),(5,.b (.row 101)),(6,I i_5)],[(101,.row 3 1 (out_8.map eI))]⟩) (fun z=>z) ?_ ?_
    ·refine ab.seq (ab.aa ?_)
     refine Oc oa (ad.aj ⟨[(0,_),(1,_),(5,_),(6,_),(7,I 0)],[(101,_)]⟩ rfl (ab.block (ab.cS h10 (b7 fun (out_9:List Int) (k_10:Int)=>⟨[(0,.b (.one (.sl 1 (a0.map eI)))),(1,.b (.one (.sl 1 (b0.map eI)))),(5,.b (.row 101)),(6,I i_5),(7,I k_10)],[(101,.row 3 1 (out_9.map eI))]⟩) [0,1,5,6,7] [101] rfl ?_)))
     rintro ⟨out_9,k_10⟩ o11 h12 hy13
     refine ab.seq (ab.seq (ab.aa ?_))
     refine Oc om (Oc om (Oc (b8 iI rfl (List.length_map _)) (Oc (bK rfl rfl) ?_)))
     refine ad.aj ⟨[(0,_),(1,_),(5,_),(6,_),(7,_),(27,B (decide (k_10 < (b0.length:Int))))],[(101,_)]⟩ rfl (ab.ite h12 rfl (fun _ h12=>?_) (fun _ h12=>?_))
     ·refine ab.skip (Fin.ah ⟨[(0,_),(1,_),(5,_),(6,_),(7,_)],[(101,_)]⟩ rfl (Fin.then (ab.seq (ab.block ?_))))
      refine ab.ah ⟨[(0,_),(1,_),(5,_),(6,_),(7,_)],[(101,_)]⟩ rfl ?_
      obtain ⟨x_12,e14,h12⟩:=aE h12
      obtain ⟨x_13,e15,h12⟩:=aE h12
      obtain ⟨x_14,e16,h12⟩:=aE h12
      obtain ⟨x_15,e17,h12⟩:=aE h12
      refine ab.jy mixed 21 [.b (.row 101),I i_5,I k_10,I (IntKind.i64.wrap (i_5 + k_10)),.b (.row 101),I i_5,I k_10,I (IntKind.i64.wrap (i_5 + k_10)),.b (.j2 101 ((IntKind.i64.wrap (i_5 + k_10):Int).toNat * 1)),I x_12,.b (.one (.sl 1 (a0.map eI))),I i_5,.b (.qn [.i x_13]),I x_13,.b (.one (.sl 1 (b0.map eI))),I k_10,.b (.qn [.i x_14]),I x_14,I (IntKind.i64.wrap (x_13 * x_14)),I (IntKind.i64.wrap (x_12 + (IntKind.i64.wrap (x_13 * x_14)))),.b (.j2 101 ((IntKind.i64.wrap (i_5 + k_10):Int).toNat * 1))] [0,1,5,6,7] [101] (s':=⟨[(0,_),(1,_),(5,_),(6,_),(7,_)],[(101,.row 3 1 ((out_9.set (IntKind.i64.wrap (i_5 + k_10):Int).toNat (IntKind.i64.wrap (x_12 + (IntKind.i64.wrap (x_13 * x_14))))).map eI))]⟩) rfl ⟨fun _=>.p om,fun _=>.p om,fun _=>.p om,fun _=>.p (bb rfl rfl),fun _=>.p om,fun _=>.p om,fun _=>.p om,fun _=>.p (bb rfl rfl),fun _=>.p (gB du (bp e14) (nh e14) rfl rfl rfl rfl),fun _=>.p (nL (i:=(IntKind.i64.wrap (i_5 + k_10):Int).toNat) (f:=0) bW rfl rfl rfl (fZ (e:=eI) e14) rfl),fun _=>.p om,fun _=>.p om,fun _=>.p (ef du (bp e15) (fZ (e:=eI) e15) rfl rfl),fun _=>.p (fk bW rfl rfl),fun _=>.p om,fun _=>.p om,fun _=>.p (ef du (bp e16) (fZ (e:=eI) e16) rfl rfl),fun _=>.p (fk bW rfl rfl),fun _=>.p (fN rfl rfl),fun _=>.p (bb rfl rfl),fun _=>.p (gB du (bp e17) (nh e17) rfl rfl rfl rfl),trivial⟩ ⟨_,by exact .p (ki (i:=(IntKind.i64.wrap (i_5 + k_10):Int).toNat) bW rfl rfl rfl rfl (xg e17) (map_set _ _ _ _)),rfl⟩ rfl (Fin.aH (Fin.ah ⟨[(0,_),(1,_),(5,_),(6,_),(7,_)],[(101,_)]⟩ rfl (Fin.then (ab.aa ?_))))
      refine Oc om (Oc (bb rfl rfl) (Oc oa ?_))
      refine ad.nil ?_
      exact Fin.bR [0,1,5,6,7] [101] (out_9.set (IntKind.i64.wrap (i_5 + k_10):Int).toNat (IntKind.i64.wrap (x_12 + (IntKind.i64.wrap (x_13 * x_14)))),IntKind.i64.wrap (k_10 + 1)) (Option.some.inj h12) rfl
     ·refine ab.exit (Fin.aG ?_)
      obtain rfl:=hy13 _ (Option.some.inj h12).symm
      refine Fin.aG (Fin.aY ?_)
      exact Fin.join [0,1,5,6] [101] out_9 rfl rfl
    ·rintro out_8 hv
     subst v9
     refine ab.seq (ab.aa ?_)
     refine Oc oa (ad.aj ⟨[(0,_),(1,_),(5,_),(6,_),(8,I 0)],[(101,_)]⟩ rfl (ab.seq (ab.aa ?_)))
     refine Oc oa (ad.aj ⟨[(0,_),(1,_),(5,_),(6,_),(8,_),(9,I 0)],[(101,_)]⟩ rfl (ab.block ?_))
     obtain ⟨v18,h19,h8⟩:=aE h8
     refine ab.cS h19 (kA fun (out_16:List Int) (carry_17:Int) (k_18:Int)=>⟨[(0,.b (.one (.sl 1 (a0.map eI)))),(1,.b (.one (.sl 1 (b0.map eI)))),(5,.b (.row 101)),(6,I i_5),(8,I carry_17),(9,I k_18)],[(101,.row 3 1 (out_16.map eI))]⟩) [0,1,5,6,8,9] [101] rfl ?_
     rintro ⟨out_16,carry_17,k_18⟩ o20 h21 hy22
     refine ab.seq (ab.seq (ab.aa ?_))
     refine Oc om (Oc om (Oc (vp iI rfl rfl (List.length_map _)) (Oc (bK rfl rfl) ?_)))
     refine ad.aj ⟨[(0,_),(1,_),(5,_),(6,_),(8,_),(9,_),(54,B (decide (k_18 < (out_16.length:Int))))],[(101,_)]⟩ rfl (ab.ite h21 rfl (fun _ h21=>?_) (fun _ h21=>?_))
     ·refine ab.skip (Fin.ah ⟨[(0,_),(1,_),(5,_),(6,_),(8,_),(9,_)],[(101,_)]⟩ rfl (Fin.then (ab.seq (ab.block (ab.seq (ab.aa ?_))))))
      refine Oc om (Oc om ?_)
      obtain ⟨x_20,e23,h21⟩:=aE h21
      refine Oc (gB du (bp e23) (nh e23) rfl rfl rfl rfl) (Oc (nL (i:=(k_18:Int).toNat) (f:=0) bW rfl rfl rfl (fZ (e:=eI) e23) rfl) (Oc om (Oc (bb rfl rfl) (Oc oa ?_))))
      refine ad.aj ⟨[(0,_),(1,_),(5,_),(6,_),(9,_),(10,I (IntKind.i64.wrap (x_20 + carry_17)))],[(101,_)]⟩ rfl (ab.seq (ab.aa ?_))
      refine Oc om (Oc om (Oc om ?_))
      refine ad.cp .i64 h21 rfl (lg (by decide) rfl rfl) (fun x_21 h21=>?_)
      obtain ⟨x_22,e24,h21⟩:=aE h21
      refine Oc (gB du (bp e24) (nh e24) rfl rfl rfl rfl) (Oc (ki (i:=(k_18:Int).toNat) bW rfl rfl rfl rfl (xg e24) (map_set _ _ _ _)) ?_)
      refine ad.aj ⟨[(0,_),(1,_),(5,_),(6,_),(9,_),(10,_)],[(101,.row 3 1 ((out_16.set (k_18:Int).toNat x_21).map eI))]⟩ rfl (ab.aa (Oc om ?_))
      obtain ⟨x_23,e25,h21⟩:=aE h21
      refine Oc (fw e25 rfl rfl) (Oc oa ?_)
      refine ad.nil (Fin.aH (Fin.ah ⟨[(0,_),(1,_),(5,_),(6,_),(8,I x_23),(9,_)],[(101,_)]⟩ rfl (Fin.then (ab.aa ?_))))
      refine Oc om (Oc (bb rfl rfl) (Oc oa ?_))
      refine ad.nil ?_
      exact Fin.bR [0,1,5,6,8,9] [101] (out_16.set (k_18:Int).toNat x_21,x_23,IntKind.i64.wrap (k_18 + 1)) (Option.some.inj h21) rfl
     ·refine ab.exit (Fin.aG ?_)
      obtain rfl:=hy22 _ (Option.some.inj h21).symm
      refine Fin.aG (Fin.aY (Fin.aH ?_))
      exact Fin.join [0,1,5,6] [101] out_16 (Option.some.inj h8) rfl
   ·rintro out_7 hv
    subst v7
    refine ab.aa (Oc om (Oc (bb rfl rfl) (Oc oa ?_)))
    refine ad.nil ?_
    exact Fin.bR [0,1,5,6] [101] (out_7,IntKind.i64.wrap (i_5 + 1)) (Option.some.inj h5) rfl
  ·refine ab.exit (Fin.aG ?_)
   obtain rfl:=hy6 _ (Option.some.inj h5).symm
   refine Fin.aG (Fin.aY ?_)
   exact Fin.join [5] [101] out_4 rfl rfl
 ·rintro out_3 hv
  subst v2
  refine ab.seq (ab.aa ?_)
  refine Oc om (ad.eY 101 rfl ?_)
  obtain ⟨x_24,e26,h⟩:=aE h
  refine Oc (ae (gC e26) nD rfl rfl) (Oc oa ?_)
  refine ad.aj ⟨[(4,.b (.one (.sl 1 (x_24.map eI))))],[]⟩ rfl (ab.ret ?_)
  obtain rfl:=Option.some.inj h
  refine Fin.ah ⟨[(4,_)],[]⟩ rfl (Fin.aq [.one (.sl 1 (x_24.map eI))] (.inl rfl) rfl (.cons (.tmp rfl) .nil) ⟨rfl,rfl⟩)
def mO (F:Nat) (a0:List Int) (b0:List Int):Option Bool :=
 Option.bind (bD (max (a0.length:Int) (b0.length:Int)) fun x_1=>iter F (fun k_2=>if (decide (0 ≤ k_2)) = true then ((eF F a0 k_2).bind fun x_3=>(eF F b0 k_2).bind fun x_4=>if (decide (x_3 ≠ x_4)) = true then ((eF F a0 k_2).bind fun x_5=>(eF F b0 k_2).bind fun x_6=>some (.inr (.inr (decide (x_5 < x_6))))) else (some (.inl (IntKind.i64.wrap (k_2 - 1))))) else (some (.inr (.inl ())))) (IntKind.i64.wrap (x_1 - 1))) (j4 (fun _=>some false) (fun y=>some y))
theorem wT {F:Nat} {a0:List Int} {b0:List Int} {r:Bool} (h:mO F a0 b0 = some r):az Tryz.prog (bj mx) 150 [] [.one (.sl 1 (a0.map eI)),.one (.sl 1 (b0.map eI))] (Is [] (.b (.one (.bool r)))):=by
 unfold mO at h
 refine az.intro 30 Tryz.func150 Tryz.ntmps150 rfl (by simp) fun E=>?_
 show ab _ E ⟨30,[],[]⟩ _ ⟨[(0,.b (.one (.sl 1 (a0.map eI)))),(1,.b (.one (.sl 1 (b0.map eI))))],[]⟩ _
 refine ab.seq (ab.aa ?_)
 refine Oc oa (ad.aj ⟨[(0,.b (.one (.sl 1 (a0.map eI)))),(1,.b (.one (.sl 1 (b0.map eI))))],[]⟩ rfl ?_)
 obtain ⟨v1,h2,h⟩:=aE h
 refine ab.cB (v:=v1) (fun (_:Unit)=>⟨[],[]⟩) (fun z=>.inl z) ?_ ?_
 ·refine ab.seq (ab.aa ?_)
  refine Oc om (Oc (b8 iI rfl (List.length_map _)) (Oc om (Oc (b8 iI rfl (List.length_map _)) ?_)))
  refine ad.ah ⟨[(0,_),(1,_),(7,I (a0.length:Int)),(9,I (b0.length:Int))],[]⟩ rfl (ad.cp .i64 h2 rfl (tM rfl rfl) (fun x_1 h2=>?_))
  refine Oc (bX rfl rfl) (Oc oa ?_)
  refine ad.aj ⟨[(0,_),(1,_),(5,I (IntKind.i64.wrap (x_1 - 1)))],[]⟩ rfl (ab.block (ab.cS h2 (fun (k_2:Int)=>⟨[(0,.b (.one (.sl 1 (a0.map eI)))),(1,.b (.one (.sl 1 (b0.map eI)))),(5,I k_2)],[]⟩) [0,1,5] [] rfl ?_))
  rintro k_2 o3 h4 hy5
  refine ab.seq (ab.seq (ab.aa ?_))
  refine Oc om (Oc (fy rfl rfl) ?_)
  refine ad.aj ⟨[(0,_),(1,_),(5,_),(13,B (decide (0 ≤ k_2)))],[]⟩ rfl (ab.ite h4 rfl (fun _ h4=>?_) (fun _ h4=>?_))
  ·refine ab.skip (Fin.ah ⟨[(0,_),(1,_),(5,_)],[]⟩ rfl (Fin.then (ab.seq (ab.block (ab.seq (ab.aa ?_))))))
   refine Oc om (Oc om ?_)
   obtain ⟨x_3,e6,h4⟩:=aE h4
   refine Oc (ae (fe e6) l6 rfl rfl) (Oc om (Oc om ?_))
   obtain ⟨x_4,e7,h4⟩:=aE h4
   refine Oc (ae (fe e7) l6 rfl rfl) (Oc (dY rfl rfl) ?_)
   refine ad.aj ⟨[(0,_),(1,_),(5,_),(22,B (decide (x_3 ≠ x_4)))],[]⟩ rfl (ab.ite h4 rfl (fun _ h4=>?_) (fun _ h4=>?_))
   ·refine ab.seq (ab.aa ?_)
    refine Oc om (Oc om ?_)
    obtain ⟨x_5,e8,h4⟩:=aE h4
    refine Oc (ae (fe e8) l6 rfl rfl) (Oc om (Oc om ?_))
    refine ad.ah ⟨[(25,I x_5),(26,.b (.one (.sl 1 (b0.map eI)))),(27,I k_2)],[]⟩ rfl ?_
    obtain ⟨x_6,e9,h4⟩:=aE h4
    refine Oc (ae (fe e9) l6 rfl rfl) (Oc (bK rfl rfl) (Oc oa ?_))
    refine ad.aj ⟨[(4,B (decide (x_5 < x_6)))],[]⟩ rfl (ab.ret (Fin.aL (Fin.ar ?_)))
    obtain rfl:=hy5 _ (Option.some.inj h4).symm
    refine Fin.ar (Fin.aL (Fin.ar ?_))
    obtain rfl:=Option.some.inj h
    refine Fin.ah ⟨[(4,_)],[]⟩ rfl (Fin.aq [.one (.bool (decide (x_5 < x_6)))] (.inl rfl) rfl (.cons (.tmp rfl) .nil) ⟨rfl,rfl⟩)
   ·refine ab.skip (Fin.aH (Fin.ah ⟨[(0,_),(1,_),(5,_)],[]⟩ rfl (Fin.then (ab.aa ?_))))
    refine Oc om (Oc (bX rfl rfl) (Oc oa ?_))
    refine ad.nil ?_
    exact Fin.bR [0,1,5] [] (IntKind.i64.wrap (k_2 - 1)) (Option.some.inj h4) rfl
  ·refine ab.exit (Fin.aG ?_)
   obtain rfl:=hy5 _ (Option.some.inj h4).symm
   refine Fin.aG (Fin.aY ?_)
   exact Fin.join [] [] () rfl rfl
 ·rintro _ hv
  subst v1
  refine ab.seq (ab.aa ?_)
  refine Oc oa (ad.aj ⟨[(4,B false)],[]⟩ rfl (ab.ret ?_))
  obtain rfl:=Option.some.inj h
  refine Fin.ah ⟨[(4,_)],[]⟩ rfl (Fin.aq [.one (.bool false)] (.inl rfl) rfl (.cons (.tmp rfl) .nil) ⟨rfl,rfl⟩)
def jO (F:Nat) (a0:List Int) (b0:List Int):Option (List Int) :=
 Option.bind (iter F (kA fun out_2 borrow_3 k_4=>if (decide (k_4 < (a0.length:Int))) = true then (Option.bind ((bB a0 k_4).bind fun x_8=>(eF F b0 k_4).bind fun x_9=>Option.bind (bD (IntKind.i64.wrap ((IntKind.i64.wrap (x_8 - x_9)) - borrow_3)) fun x_12=>if (decide (x_12 < 0)) = true then (bD (IntKind.i64.wrap ((IntKind.i64.wrap (x_8 - x_9)) - borrow_3)) fun x_13=>some (1,IntKind.i64.wrap (x_13 + 65536))) else (some (0,IntKind.i64.wrap ((IntKind.i64.wrap (x_8 - x_9)) - borrow_3)))) (b7 fun borrow_10 n_11=>(il out_2 [n_11]).bind fun x_14=>some (x_14,borrow_10))) (b7 fun out_6 borrow_7=>some (.inl (out_6,borrow_7,IntKind.i64.wrap (k_4 + 1))))) else (some (.inr out_2))) ([],0,0)) (fun out_1=>(gj F out_1).bind fun x_15=>some x_15)
theorem qb {F:Nat} {a0:List Int} {b0:List Int} {r:(List Int)} (h:jO F a0 b0 = some r):az Tryz.prog (bj mx) 157 [] [.one (.sl 1 (a0.map eI)),.one (.sl 1 (b0.map eI))] (Is [] (.b (.one (.sl 1 (r.map eI))))):=by
 unfold jO at h
 refine az.intro 35 Tryz.func157 Tryz.ntmps157 rfl (by simp) fun E=>?_
 show ab _ E ⟨35,[],[]⟩ _ ⟨[(0,.b (.one (.sl 1 (a0.map eI)))),(1,.b (.one (.sl 1 (b0.map eI))))],[]⟩ _
 refine ab.seq (ab.aa ?_)
 refine Oc oa (ad.aj ⟨[(0,.b (.one (.sl 1 (a0.map eI)))),(1,.b (.one (.sl 1 (b0.map eI))))],[]⟩ rfl (ab.seq (ab.aa ?_)))
 refine Oc oa (ad.aj ⟨[(0,_),(1,_),(5,.b (.one (.nil)))],[]⟩ rfl (ab.seq (ab.aa ?_)))
 refine Oc oa (ad.aj ⟨[(0,_),(1,_),(5,_),(6,I 0)],[]⟩ rfl ?_)
 obtain ⟨v1,h2,h⟩:=aE h
 refine ab.cB (v:=v1) (fun (out_1:List Int)=>⟨[(5,.b (.row 102))],[(102,.row 3 1 (out_1.map eI))]⟩) (fun z=>z) ?_ ?_
 ·refine ab.seq (ab.aa ?_)
  refine Oc oa (ad.aj ⟨[(0,_),(1,_),(5,_),(6,_),(7,I 0)],[]⟩ rfl (ab.block (ab.kq 5 102 1 3 rfl (by decide) rfl (ab.cS h2 (kA fun (out_2:List Int) (borrow_3:Int) (k_4:Int)=>⟨[(0,.b (.one (.sl 1 (a0.map eI)))),(1,.b (.one (.sl 1 (b0.map eI)))),(5,.b (.row 102)),(6,I borrow_3),(7,I k_4)],[(102,.row 3 1 (out_2.map eI))]⟩) [0,1,5,6,7] [102] rfl ?_))))
  rintro ⟨out_2,borrow_3,k_4⟩ o3 h4 hy5
  refine ab.seq (ab.seq (ab.aa ?_))
  refine Oc om (Oc om (Oc (b8 iI rfl (List.length_map _)) (Oc (bK rfl rfl) ?_)))
  refine ad.aj ⟨[(0,_),(1,_),(5,_),(6,_),(7,_),(12,B (decide (k_4 < (a0.length:Int))))],[(102,_)]⟩ rfl (ab.ite h4 rfl (fun _ h4=>?_) (fun _ h4=>?_))
  ·refine ab.skip (Fin.ah ⟨[(0,_),(1,_),(5,_),(6,_),(7,_)],[(102,_)]⟩ rfl (Fin.then ?_))
   obtain ⟨v6,h7,h4⟩:=aE h4
   refine ab.cB (v:=v6) (b7 fun (out_6:List Int) (borrow_7:Int)=>⟨[(0,.b (.one (.sl 1 (a0.map eI)))),(1,.b (.one (.sl 1 (b0.map eI)))),(5,.b (.row 102)),(6,I borrow_7),(7,I k_4)],[(102,.row 3 1 (out_6.map eI))]⟩) (fun z=>z) ?_ ?_
   ·refine ab.block (ab.seq ?_)
    refine ab.ah ⟨[(0,_),(1,_),(5,_),(6,_),(7,_)],[(102,_)]⟩ rfl ?_
    obtain ⟨x_8,e8,h7⟩:=aE h7
    obtain ⟨x_9,e9,h7⟩:=aE h7
    refine ab.bP mixed 11 [.b (.one (.sl 1 (a0.map eI))),I k_4,.b (.qn [.i x_8]),I x_8,.b (.one (.sl 1 (b0.map eI))),I k_4,I x_9,I (IntKind.i64.wrap (x_8 - x_9)),I borrow_3,I (IntKind.i64.wrap ((IntKind.i64.wrap (x_8 - x_9)) - borrow_3)),I (IntKind.i64.wrap ((IntKind.i64.wrap (x_8 - x_9)) - borrow_3))] [0,1,5,7,8] [102] (s':=⟨[(0,_),(1,_),(5,_),(7,_),(8,I (IntKind.i64.wrap ((IntKind.i64.wrap (x_8 - x_9)) - borrow_3)))],[(102,_)]⟩) rfl ⟨fun _=>.p om,fun _=>.p om,fun _=>.p (ef du (bp e8) (fZ (e:=eI) e8) rfl rfl),fun _=>.p (fk bW rfl rfl),fun _=>.p om,fun _=>.p om,fun _=>.p (ae (fe e9) l6 rfl rfl),fun _=>.p (bX rfl rfl),fun _=>.p om,fun _=>.p (bX rfl rfl),fun _=>.p oa,trivial⟩ rfl rfl (ab.seq (ab.aa ?_))
    refine Oc oa (ad.aj ⟨[(0,_),(1,_),(5,_),(6,I 0),(7,_),(8,_)],[(102,_)]⟩ rfl ?_)
    obtain ⟨v10,h11,h7⟩:=aE h7
    refine ab.cB (v:=v10) (b7 fun (borrow_10:Int) (n_11:Int)=>⟨[(0,.b (.one (.sl 1 (a0.map eI)))),(1,.b (.one (.sl 1 (b0.map eI)))),(5,.b (.row 102)),(6,I borrow_10),(7,I k_4),(8,I n_11)],[(102,.row 3 1 (out_2.map eI))]⟩) (fun z=>z) ?_ ?_
    ·refine ab.seq (ab.aa ?_)
     refine ad.cp .i64 h11 rfl om (fun x_12 h11=>?_)
     refine Oc (bK rfl rfl) (ad.aj ⟨[(0,_),(1,_),(5,_),(6,_),(7,_),(8,_),(26,B (decide (x_12 < 0)))],[(102,_)]⟩ rfl (ab.ite h11 rfl (fun _ h11=>?_) (fun _ h11=>?_)))
     ·refine ab.seq (ab.aa ?_)
      refine ad.cp .i64 h11 rfl om (fun x_13 h11=>?_)
      refine Oc (bb rfl rfl) (Oc oa ?_)
      refine ad.aj ⟨[(0,_),(1,_),(5,_),(7,_),(8,I (IntKind.i64.wrap (x_13 + 65536)))],[(102,_)]⟩ rfl (ab.aa (Oc oa (ad.nil ?_)))
      exact Fin.join [0,1,5,6,7,8] [102] (1,IntKind.i64.wrap (x_13 + 65536)) (Option.some.inj h11) rfl
     ·refine ab.skip ?_
      exact Fin.join [0,1,5,6,7,8] [102] (0,IntKind.i64.wrap ((IntKind.i64.wrap (x_8 - x_9)) - borrow_3)) (Option.some.inj h11) rfl
    ·rintro ⟨borrow_10,n_11⟩ hv
     subst v10
     refine ab.aa (Oc om (Oc om (Oc (br (k:=103) (es:=[n_11].map eI) du rfl rfl (c5 fun _=>rfl) rfl (by decide) (by decide) rfl) ?_)))
     obtain ⟨x_14,e12,h7⟩:=aE h7
     refine Oc (kj du (tJ e12) (tI e12) rfl rfl rfl rfl (nH e12) rfl) (Oc oa ?_)
     refine ad.nil (Fin.aH ?_)
     exact Fin.join [0,1,5,6,7] [102] (x_14,borrow_10) (Option.some.inj h7) rfl
   ·rintro ⟨out_6,borrow_7⟩ hv
    subst v6
    refine ab.aa (Oc om (Oc (bb rfl rfl) (Oc oa ?_)))
    refine ad.nil ?_
    exact Fin.bR [0,1,5,6,7] [102] (out_6,borrow_7,IntKind.i64.wrap (k_4 + 1)) (Option.some.inj h4) rfl
  ·refine ab.exit (Fin.aG ?_)
   obtain rfl:=hy5 _ (Option.some.inj h4).symm
   refine Fin.aG (Fin.aY ?_)
   exact Fin.join [5] [102] out_2 rfl rfl
 ·rintro out_1 hv
  subst v1
  refine ab.seq (ab.aa ?_)
  refine Oc om (ad.eY 102 rfl ?_)
  obtain ⟨x_15,e13,h⟩:=aE h
  refine Oc (ae (gC e13) nD rfl rfl) (Oc oa ?_)
  refine ad.aj ⟨[(4,.b (.one (.sl 1 (x_15.map eI))))],[]⟩ rfl (ab.ret ?_)
  obtain rfl:=Option.some.inj h
  refine Fin.ah ⟨[(4,_)],[]⟩ rfl (Fin.aq [.one (.sl 1 (x_15.map eI))] (.inl rfl) rfl (.cons (.tmp rfl) .nil) ⟨rfl,rfl⟩)
def jm (F:Nat) (a0:List Int) (b0:List Int):Option ((List Int) × (List Int)) :=
 Option.bind (mk? (0:Int) (a0.length:Int) (a0.length:Int)) (fun x_1=>(bB b0 (IntKind.i64.wrap ((b0.length:Int) - 1))).bind fun x_2=>(lY F b0 (IntKind.i64.wrap ((b0.length:Int) - 2))).bind fun x_3=>Option.bind (bD (IntKind.i64.wrap ((a0.length:Int) - 1)) fun x_6=>iter F (kA fun q_7 r_8 k_9=>if (decide (0 ≤ k_9)) = true then (Option.bind ((bB a0 k_9).bind fun x_14=>(il [x_14] r_8).bind fun x_15=>(gj F x_15).bind fun x_16=>(lY F x_16 (b0.length:Int)).bind fun x_17=>bD (IntKind.i64.wrap ((b0.length:Int) - 1)) fun x_18=>(lY F x_16 x_18).bind fun x_19=>bD (IntKind.i64.wrap ((IntKind.i64.wrap (x_17 * 4294967296)) + (IntKind.i64.wrap (x_19 * 65536)))) fun x_20=>bD (IntKind.i64.wrap ((b0.length:Int) - 2)) fun x_21=>(lY F x_16 x_21).bind fun x_22=>bD (IntKind.i64.wrap ((IntKind.i64.wrap (x_2 * 65536)) + x_3)) fun x_23=>(k7 .i64 (IntKind.i64.wrap (x_20 + x_22)) x_23).bind fun x_24=>(jN F b0 [min 65535 x_24]).bind fun x_25=>Option.bind (iter F (b7 fun d_28 part_29=>(mO F x_16 part_29).bind fun x_32=>if x_32 = true then ((jO F part_29 b0).bind fun x_33=>some (.inl (IntKind.i64.wrap (d_28 - 1),x_33))) else (some (.inr (d_28,part_29)))) (min 65535 x_24,x_25)) (b7 fun d_26 part_27=>(bB q_7 k_9).bind fun x_34=>(jO F x_16 part_27).bind fun x_35=>some (q_7.set (k_9:Int).toNat d_26,x_35))) (b7 fun q_12 r_13=>some (.inl (q_12,r_13,IntKind.i64.wrap (k_9 - 1))))) else (some (.inr (q_7,r_8)))) (x_1,[],x_6)) (b7 fun q_4 r_5=>(gj F q_4).bind fun x_36=>some (x_36,r_5)))
theorem po {F:Nat} {a0:List Int} {b0:List Int} {r:(List Int) × (List Int)} (h:jm F a0 b0 = some r):az Tryz.prog (bj mx) 154 [] [.one (.sl 1 (a0.map eI)),.one (.sl 1 (b0.map eI))] (Is [] (.fE [.one (.sl 1 (r.1.map eI)),.one (.sl 1 (r.2.map eI))])):=by
 unfold jm at h
 refine az.intro 84 Tryz.func154 Tryz.ntmps154 rfl (by simp) fun E=>?_
 show ab _ E ⟨84,[],[]⟩ _ ⟨[(0,.b (.one (.sl 1 (a0.map eI)))),(1,.b (.one (.sl 1 (b0.map eI))))],[]⟩ _
 refine ab.seq (ab.aa ?_)
 refine Oc oa (Oc oa ?_)
 refine ad.aj ⟨[(0,.b (.one (.sl 1 (a0.map eI)))),(1,.b (.one (.sl 1 (b0.map eI))))],[]⟩ rfl (ab.seq (ab.aa ?_))
 refine Oc om (Oc (b8 iI rfl (List.length_map _)) ?_)
 obtain ⟨x_1,e1,h⟩:=aE h
 refine Oc (rL (k:=101) (enc:=eI) du e1 (by decide) (.cons .refl .nil) rfl rfl rfl) (Oc oa ?_)
 refine ad.aj ⟨[(0,_),(1,_),(6,.b (.row 101))],[(101,.row 3 1 (x_1.map eI))]⟩ rfl (ab.seq (ab.aa ?_))
 refine Oc om (Oc (b8 iI rfl (List.length_map _)) (Oc oa ?_))
 refine ad.aj ⟨[(0,_),(1,_),(6,_),(7,I (b0.length:Int))],[(101,_)]⟩ rfl (ab.seq ?_)
 obtain ⟨x_2,e2,h⟩:=aE h
 obtain ⟨x_3,e3,h⟩:=aE h
 refine ab.bP mixed 12 [.b (.one (.sl 1 (b0.map eI))),I (b0.length:Int),I (IntKind.i64.wrap ((b0.length:Int) - 1)),.b (.qn [.i x_2]),I x_2,I (IntKind.i64.wrap (x_2 * 65536)),.b (.one (.sl 1 (b0.map eI))),I (b0.length:Int),I (IntKind.i64.wrap ((b0.length:Int) - 2)),I x_3,I (IntKind.i64.wrap ((IntKind.i64.wrap (x_2 * 65536)) + x_3)),I (IntKind.i64.wrap ((IntKind.i64.wrap (x_2 * 65536)) + x_3))] [0,1,6,7,8] [101] (s':=⟨[(0,_),(1,_),(6,_),(7,_),(8,I (IntKind.i64.wrap ((IntKind.i64.wrap (x_2 * 65536)) + x_3)))],[(101,_)]⟩) rfl ⟨fun _=>.p om,fun _=>.p om,fun _=>.p (bX rfl rfl),fun _=>.p (ef du (bp e2) (fZ (e:=eI) e2) rfl rfl),fun _=>.p (fk bW rfl rfl),fun _=>.p (fN rfl rfl),fun _=>.p om,fun _=>.p om,fun _=>.p (bX rfl rfl),fun _=>.p (ae (nJ e3) tn rfl rfl),fun _=>.p (bb rfl rfl),fun _=>.p oa,trivial⟩ rfl rfl (ab.seq (ab.aa ?_))
 refine Oc oa (ad.aj ⟨[(0,_),(1,_),(6,_),(7,_),(8,_),(9,.b (.one (.nil)))],[(101,_)]⟩ rfl ?_)
 obtain ⟨v4,h5,h⟩:=aE h
 refine ab.cB (v:=v4) (b7 fun (q_4:List Int) (r_5:List Int)=>⟨[(6,.b (.row 101)),(9,.b (.one (.sl 1 (r_5.map eI))))],[(101,.row 3 1 (q_4.map eI))]⟩) (fun z=>z) ?_ ?_
 ·refine ab.seq (ab.aa ?_)
  refine Oc om (Oc (b8 iI rfl (List.length_map _)) ?_)
  refine ad.cp .i64 h5 rfl (bX rfl rfl) (fun x_6 h5=>?_)
  refine Oc oa (ad.aj ⟨[(0,_),(1,_),(6,_),(7,_),(8,_),(9,_),(10,I x_6)],[(101,_)]⟩ rfl (ab.block (ab.p5 9 1 rfl (by decide) (ab.cS h5 (kA fun (q_7:List Int) (r_8:List Int) (k_9:Int)=>⟨[(0,.b (.one (.sl 1 (a0.map eI)))),(1,.b (.one (.sl 1 (b0.map eI)))),(6,.b (.row 101)),(7,I (b0.length:Int)),(8,I (IntKind.i64.wrap ((IntKind.i64.wrap (x_2 * 65536)) + x_3))),(9,.b (.one (.sl 1 (r_8.map eI)))),(10,I k_9)],[(101,.row 3 1 (q_7.map eI))]⟩) [0,1,6,7,8,9,10] [101] rfl ?_))))
  rintro ⟨q_7,r_8,k_9⟩ o6 h7 hy8
  refine ab.seq (ab.seq (ab.aa ?_))
  refine Oc om (Oc (fy rfl rfl) ?_)
  refine ad.aj ⟨[(0,_),(1,_),(6,_),(7,_),(8,_),(9,_),(10,_),(33,B (decide (0 ≤ k_9)))],[(101,_)]⟩ rfl (ab.ite h7 rfl (fun _ h7=>?_) (fun _ h7=>?_))
  ·refine ab.skip (Fin.ah ⟨[(0,_),(1,_),(6,_),(7,_),(8,_),(9,_),(10,_)],[(101,_)]⟩ rfl (Fin.then ?_))
   obtain ⟨v9,h10,h7⟩:=aE h7
   refine ab.cB (v:=v9) (b7 fun (q_12:List Int) (r_13:List Int)=>⟨[(0,.b (.one (.sl 1 (a0.map eI)))),(1,.b (.one (.sl 1 (b0.map eI)))),(6,.b (.row 101)),(7,I (b0.length:Int)),(8,I (IntKind.i64.wrap ((IntKind.i64.wrap (x_2 * 65536)) + x_3))),(9,.b (.one (.sl 1 (r_13.map eI)))),(10,I k_9)],[(101,.row 3 1 (q_12.map eI))]⟩) (fun z=>z) ?_ ?_
   ·refine ab.block (ab.seq (ab.aa ?_))
    refine Oc om (Oc om ?_)
    obtain ⟨x_14,e11,h10⟩:=aE h10
    refine Oc (ef du (bp e11) (fZ (e:=eI) e11) rfl rfl) (Oc (fk bW rfl rfl) (Oc (br (k:=102) (es:=[x_14].map eI) du rfl rfl (c5 fun _=>rfl) rfl (by decide) (by decide) rfl) (Oc om ?_)))
    refine ad.ah ⟨[(0,_),(1,_),(6,_),(7,_),(8,_),(9,_),(10,_),(40,.b (.row 102)),(41,.b (.one (.sl 1 (r_8.map eI))))],[(101,_),(102,.row 3 1 ([x_14].map eI))]⟩ rfl ?_
    obtain ⟨x_15,e12,h10⟩:=aE h10
    refine Oc (vt du (tJ e12) (tI e12) rfl rfl rfl (nH e12) rfl) (ad.eY 102 rfl ?_)
    obtain ⟨x_16,e13,h10⟩:=aE h10
    refine Oc (ae (gC e13) nD rfl rfl) (Oc oa ?_)
    refine ad.aj ⟨[(0,.b (.one (.sl 1 (a0.map eI)))),(1,.b (.one (.sl 1 (b0.map eI)))),(6,.b (.row 101)),(7,I (b0.length:Int)),(8,I (IntKind.i64.wrap ((IntKind.i64.wrap (x_2 * 65536)) + x_3))),(9,.b (.one (.sl 1 (x_16.map eI)))),(10,I k_9)],[(101,.row 3 1 (q_7.map eI))]⟩ rfl (ab.seq (ab.aa ?_))
    refine Oc om (Oc om ?_)
    obtain ⟨x_17,e14,h10⟩:=aE h10
    refine Oc (ae (nJ e14) tn rfl rfl) (Oc (fN rfl rfl) (Oc om ?_))
    refine ad.ah ⟨[(0,_),(1,_),(6,_),(7,_),(8,_),(9,_),(10,_),(47,I (IntKind.i64.wrap (x_17 * 4294967296))),(48,.b (.one (.sl 1 (x_16.map eI))))],[(101,_)]⟩ rfl (Oc om (ad.cp .i64 h10 rfl (bX rfl rfl) (fun x_18 h10=>?_)))
    obtain ⟨x_19,e15,h10⟩:=aE h10
    refine Oc (ae (nJ e15) tn rfl rfl) (Oc (fN rfl rfl) ?_)
    refine ad.cp .i64 h10 rfl (bb rfl rfl) (fun x_20 h10=>?_)
    refine Oc om (ad.ah ⟨[(0,_),(1,_),(6,_),(7,_),(8,_),(9,_),(10,_),(53,I x_20),(54,.b (.one (.sl 1 (x_16.map eI))))],[(101,_)]⟩ rfl (Oc om (ad.cp .i64 h10 rfl (bX rfl rfl) (fun x_21 h10=>?_))))
    obtain ⟨x_22,e16,h10⟩:=aE h10
    refine Oc (ae (nJ e16) tn rfl rfl) (Oc (bb rfl rfl) ?_)
    refine ad.cp .i64 h10 rfl om (fun x_23 h10=>?_)
    obtain ⟨x_24,e17,h10⟩:=aE h10
    refine Oc (fw e17 rfl rfl) (Oc (yM rfl rfl) (Oc oa ?_))
    refine ad.aj ⟨[(0,_),(1,_),(6,_),(7,_),(8,_),(9,_),(10,_),(11,I (min 65535 x_24))],[(101,_)]⟩ rfl (ab.seq (ab.aa ?_))
    refine Oc om (Oc om (Oc (br (k:=103) (es:=[min 65535 x_24].map eI) du rfl rfl (c5 fun _=>rfl) rfl (by decide) (by decide) rfl) ?_))
    refine ad.eY 103 rfl ?_
    obtain ⟨x_25,e18,h10⟩:=aE h10
    refine Oc (ae (qa e18) AN rfl rfl) (Oc oa ?_)
    refine ad.aj ⟨[(0,.b (.one (.sl 1 (a0.map eI)))),(1,.b (.one (.sl 1 (b0.map eI)))),(6,.b (.row 101)),(7,I (b0.length:Int)),(8,I (IntKind.i64.wrap ((IntKind.i64.wrap (x_2 * 65536)) + x_3))),(9,.b (.one (.sl 1 (x_16.map eI)))),(10,I k_9),(11,I (min 65535 x_24)),(12,.b (.one (.sl 1 (x_25.map eI))))],[(101,.row 3 1 (q_7.map eI))]⟩ rfl ?_
    obtain ⟨v19,h20,h10⟩:=aE h10
    refine ab.cB (v:=v19) (b7 fun (d_26:Int) (part_27:List Int)=>⟨[(0,.b (.one (.sl 1 (a0.map eI)))),(1,.b (.one (.sl 1 (b0.map eI)))),(6,.b (.row 101)),(7,I (b0.length:Int)),(8,I (IntKind.i64.wrap ((IntKind.i64.wrap (x_2 * 65536)) + x_3))),(9,.b (.one (.sl 1 (x_16.map eI)))),(10,I k_9),(11,I d_26),(12,.b (.one (.sl 1 (part_27.map eI))))],[(101,.row 3 1 (q_7.map eI))]⟩) (fun z=>z) ?_ ?_
    ·refine ab.block (ab.cS h20 (b7 fun (d_28:Int) (part_29:List Int)=>⟨[(0,.b (.one (.sl 1 (a0.map eI)))),(1,.b (.one (.sl 1 (b0.map eI)))),(6,.b (.row 101)),(7,I (b0.length:Int)),(8,I (IntKind.i64.wrap ((IntKind.i64.wrap (x_2 * 65536)) + x_3))),(9,.b (.one (.sl 1 (x_16.map eI)))),(10,I k_9),(11,I d_28),(12,.b (.one (.sl 1 (part_29.map eI))))],[(101,.row 3 1 (q_7.map eI))]⟩) [0,1,6,7,8,9,10,11,12] [101] rfl ?_)
     rintro ⟨d_28,part_29⟩ o21 h22 hy23
     refine ab.seq (ab.seq (ab.aa ?_))
     refine Oc om (Oc om ?_)
     obtain ⟨x_32,e24,h22⟩:=aE h22
     refine Oc (ae (wT e24) goes150 rfl rfl) (ad.aj ⟨[(0,_),(1,_),(6,_),(7,_),(8,_),(9,_),(10,_),(11,_),(12,_),(68,B x_32)],[(101,_)]⟩ rfl (ab.ite h22 rfl (fun _ h22=>?_) (fun _ h22=>?_)))
     ·refine ab.skip (Fin.ah ⟨[(0,_),(1,_),(6,_),(7,_),(8,_),(9,_),(10,_),(11,_),(12,_)],[(101,_)]⟩ rfl (Fin.then (ab.block (ab.seq (ab.aa ?_)))))
      refine Oc om (Oc (bX rfl rfl) (Oc oa ?_))
      refine ad.aj ⟨[(0,_),(1,_),(6,_),(7,_),(8,_),(9,_),(10,_),(11,I (IntKind.i64.wrap (d_28 - 1))),(12,_)],[(101,_)]⟩ rfl (ab.aa (Oc om (Oc om ?_)))
      obtain ⟨x_33,e25,h22⟩:=aE h22
      refine Oc (ae (qb e25) AT rfl rfl) (Oc oa ?_)
      refine ad.nil (Fin.aH ?_)
      exact Fin.bR [0,1,6,7,8,9,10,11,12] [101] (IntKind.i64.wrap (d_28 - 1),x_33) (Option.some.inj h22) rfl
     ·refine ab.exit (Fin.aG ?_)
      obtain rfl:=hy23 _ (Option.some.inj h22).symm
      refine Fin.aG (Fin.aY ?_)
      exact Fin.join [0,1,6,7,8,9,10,11,12] [101] (d_28,part_29) rfl rfl
    ·rintro ⟨d_26,part_27⟩ hv
     subst v19
     refine ab.seq (ab.aa ?_)
     refine Oc om (Oc om (Oc om ?_))
     obtain ⟨x_34,e26,h10⟩:=aE h10
     refine Oc (gB du (bp e26) (nh e26) rfl rfl rfl rfl) (Oc (ki (i:=(k_9:Int).toNat) bW rfl rfl rfl rfl (xg e26) (map_set _ _ _ _)) ?_)
     refine ad.aj ⟨[(0,_),(1,_),(6,_),(7,_),(8,_),(9,_),(10,_),(12,_)],[(101,.row 3 1 ((q_7.set (k_9:Int).toNat d_26).map eI))]⟩ rfl (ab.aa (Oc om (Oc om ?_)))
     obtain ⟨x_35,e27,h10⟩:=aE h10
     refine Oc (ae (qb e27) AT rfl rfl) (Oc oa ?_)
     refine ad.nil (Fin.aH ?_)
     exact Fin.join [0,1,6,7,8,9,10] [101] (q_7.set (k_9:Int).toNat d_26,x_35) (Option.some.inj h10) rfl
   ·rintro ⟨q_12,r_13⟩ hv
    subst v9
    refine ab.aa (Oc om (Oc (bX rfl rfl) (Oc oa ?_)))
    refine ad.nil ?_
    exact Fin.bR [0,1,6,7,8,9,10] [101] (q_12,r_13,IntKind.i64.wrap (k_9 - 1)) (Option.some.inj h7) rfl
  ·refine ab.exit (Fin.aG ?_)
   obtain rfl:=hy8 _ (Option.some.inj h7).symm
   refine Fin.aG (Fin.aY ?_)
   exact Fin.join [6,9] [101] (q_7,r_8) rfl rfl
 ·rintro ⟨q_4,r_5⟩ hv
  subst v4
  refine ab.seq (ab.aa ?_)
  refine Oc om (ad.eY 101 rfl ?_)
  obtain ⟨x_36,e28,h⟩:=aE h
  refine Oc (ae (gC e28) nD rfl rfl) (Oc om (Oc oa (Oc oa ?_)))
  refine ad.aj ⟨[(4,.b (.one (.sl 1 (x_36.map eI)))),(5,.b (.one (.sl 1 (r_5.map eI))))],[]⟩ rfl (ab.ret ?_)
  obtain rfl:=Option.some.inj h
  refine Fin.ah ⟨[(4,_),(5,_)],[]⟩ rfl (Fin.aq [.one (.sl 1 (x_36.map eI)),.one (.sl 1 (r_5.map eI))] (.inl rfl) rfl (.cons (.tmp rfl) (.cons (.tmp rfl) .nil)) ⟨rfl,rfl⟩)
def mI (F:Nat) (a0:bt) (b0:bt):Option bt :=
 Option.bind (gi F a0) (b7 fun x_1 x_2=>Option.bind (gi F b0) (b7 fun x_3 x_4=>Option.bind (if (x_2 && x_4) = true then (Option.bind (iter F (b7 fun n_6 m_7=>if (decide (m_7 ≠ 0)) = true then ((tC n_6 m_7).bind fun x_9=>some (.inl (m_7,x_9))) else (some (.inr n_6))) (x_1,x_3)) (fun n_5=>(iV F n_5).bind fun x_10=>(oI F x_10).bind fun x_11=>some (.inr x_11))) else (some (.inl ()))) (j4 (fun _=>(da F a0).bind fun x_12=>(bA (!(!x_12)) (da F b0)).bind fun x_13=>if ((!x_12) || (!x_13)) = true then ((iR F).bind fun x_14=>some x_14) else ((cU F a0).bind fun x_15=>(cU F b0).bind fun x_16=>Option.bind (iter F (b7 fun x_18 y_19=>if (decide (0 < (y_19.length:Int))) = true then (Option.bind (jm F x_18 y_19) (b7 fun x_21 x_22=>some (.inl (y_19,x_22)))) else (some (.inr x_18))) (x_15,x_16)) (fun x_17=>(dO F false x_17).bind fun x_23=>some x_23))) (fun y=>some y))))
theorem sH {F:Nat} {a0:bt} {b0:bt} {r:bt} (h:mI F a0 b0 = some r):az Tryz.prog (bj mx) 115 [] [.agg (au a0),.agg (au b0)] (Is [] (.b (.agg (au r)))):=by
 unfold mI at h
 refine az.intro 64 Tryz.func115 Tryz.ntmps115 rfl (by simp) fun E=>?_
 show ab _ E ⟨64,[],[]⟩ _ ⟨[(0,.b (.agg (au a0))),(1,.b (.agg (au b0)))],[]⟩ _
 refine ab.seq (ab.aa ?_)
 refine Oc (aS (k:=101) rfl rfl) (Oc (aS (k:=102) rfl rfl) (Oc (aA (k:=103) bx rfl) ?_))
 refine ad.aj ⟨[(2,Pt 101 0),(3,Pt 102 0),(4,Pt 103 0)],[(101,.box 25 (au a0)),(102,.box 25 (au b0)),(103,.box 25 cO)]⟩ rfl (ab.seq (ab.aa ?_))
 refine Oc (lp ao) ?_
 obtain ⟨⟨x_1,x_2⟩,e1,h⟩:=aE h
 refine Oc (ae (iE e1) pF rfl rfl) (Oc om (Oc (ay rfl rfl) (Oc (ay rfl rfl) (Oc oa (Oc oa ?_)))))
 refine ad.aj ⟨[(2,_),(3,_),(4,_),(5,I x_1),(6,B x_2)],[(101,_),(102,_),(103,_)]⟩ rfl (ab.seq (ab.aa ?_))
 refine Oc (lp ao) ?_
 obtain ⟨⟨x_3,x_4⟩,e2,h⟩:=aE h
 refine Oc (ae (iE e2) pF rfl rfl) (Oc om (Oc (ay rfl rfl) (Oc (ay rfl rfl) (Oc oa (Oc oa ?_)))))
 refine ad.aj ⟨[(2,_),(3,_),(4,_),(5,_),(6,_),(7,I x_3),(8,B x_4)],[(101,_),(102,_),(103,_)]⟩ rfl ?_
 obtain ⟨v3,h4,h⟩:=aE h
 refine ab.cB (v:=v3) (fun (_:Unit)=>⟨[(2,Pt 101 0),(3,Pt 102 0),(4,Pt 103 0)],[(101,.box 25 (au a0)),(102,.box 25 (au b0)),(103,.box 25 cO)]⟩) (fun z=>.inl z) ?_ ?_
 ·refine ab.seq (ab.aa ?_)
  refine Oc om (Oc om ?_)
  refine bU x_2 [] (fun g5=>trivial) (fun g5=>om) (Oc (aD (fun e=>e) rfl rfl rfl rfl) (ad.aj ⟨[(2,_),(3,_),(4,_),(5,_),(7,_),(27,B (x_2 && x_4))],[(101,_),(102,_),(103,_)]⟩ rfl (ab.ite h4 rfl (fun _ h4=>?_) (fun _ h4=>?_))))
  ·obtain ⟨v6,h7,h4⟩:=aE h4
   refine ab.cB (v:=v6) (fun (n_5:Int)=>⟨[(4,Pt 103 0),(5,I n_5)],[(103,.box 25 cO)]⟩) (fun z=>z) ?_ ?_
   ·refine ab.block (ab.cS h7 (b7 fun (n_6:Int) (m_7:Int)=>⟨[(4,Pt 103 0),(5,I n_6),(7,I m_7)],[(103,.box 25 cO)]⟩) [4,5,7] [103] rfl ?_)
    rintro ⟨n_6,m_7⟩ o8 h9 hy10
    refine ab.seq (ab.seq (ab.aa ?_))
    refine Oc om (Oc (dY rfl rfl) ?_)
    refine ad.aj ⟨[(4,_),(5,_),(7,_),(29,B (decide (m_7 ≠ 0)))],[(103,_)]⟩ rfl (ab.ite h9 rfl (fun _ h9=>?_) (fun _ h9=>?_))
    ·refine ab.skip (Fin.ah ⟨[(4,_),(5,_),(7,_)],[(103,_)]⟩ rfl (Fin.then (ab.block (ab.seq (ab.aa ?_)))))
     refine Oc om (Oc om ?_)
     obtain ⟨x_9,e11,h9⟩:=aE h9
     refine Oc (pB e11 rfl rfl) (Oc oa ?_)
     refine ad.aj ⟨[(4,_),(7,_),(9,I x_9)],[(103,_)]⟩ rfl (ab.seq (ab.aa ?_))
     refine Oc om (Oc oa ?_)
     refine ad.aj ⟨[(4,_),(5,I m_7),(9,_)],[(103,_)]⟩ rfl (ab.aa (Oc om (Oc oa ?_)))
     refine ad.nil (Fin.aH ?_)
     exact Fin.bR [4,5,7] [103] (m_7,x_9) (Option.some.inj h9) rfl
    ·refine ab.exit (Fin.aG ?_)
     obtain rfl:=hy10 _ (Option.some.inj h9).symm
     refine Fin.aG (Fin.aY ?_)
     exact Fin.join [4,5] [103] n_6 rfl rfl
   ·rintro n_5 hv
    subst v6
    refine ab.seq (ab.aa ?_)
    refine Oc om ?_
    obtain ⟨x_10,e12,h4⟩:=aE h4
    refine Oc (ae (je e12) nE rfl rfl) ?_
    obtain ⟨x_11,e13,h4⟩:=aE h4
    refine Oc (ae (yh e13) goes161 rfl rfl) (Oc (ag ao rfl rfl rfl rfl (Nat.le_of_ble_eq_true rfl) rfl) ?_)
    refine ad.aj ⟨[(4,_)],[(103,.box 25 (au x_11))]⟩ rfl (ab.ret ?_)
    obtain rfl:=Option.some.inj h4
    refine Fin.ar ?_
    obtain rfl:=Option.some.inj h
    refine Fin.ah ⟨[(4,_)],[(103,_)]⟩ rfl (Fin.aq [.agg (au x_11)] (.inl rfl) rfl (.cons (.agg ao rfl rfl rfl rfl) .nil) ⟨rfl,rfl⟩)
  ·refine ab.skip ?_
   exact Fin.join [2,3,4] [101,102,103] () (Option.some.inj h4) rfl
 ·rintro _ hv
  subst v3
  refine ab.seq (ab.seq (ab.aa ?_))
  refine Oc (lp ao) ?_
  obtain ⟨x_12,e14,h⟩:=aE h
  refine Oc (ae (cM e14) jq rfl rfl) (Oc (bq rfl) (Oc om ?_))
  refine cN (!(!x_12)) [] (fun g15=>trivial) (fun g15=>lp ao) (ad.ah ⟨[(2,_),(3,_),(4,_),(41,B (!x_12)),(42,.dA (!(!x_12)) (.agg (au b0)))],[(101,_),(102,_),(103,_)]⟩ rfl ?_)
  obtain ⟨x_13,e17,h⟩:=aE h
  refine cN (!(!x_12)) [42] (fun g16=>⟨g16,trivial⟩) (fun g16=>ae (cM (gc e17 g16)) jq rfl rfl) (cN (!(!x_12)) [43] (fun g18=>⟨g18,trivial⟩) (fun g18=>bq rfl) (Oc (aU (fun e=>by rw [e]; rfl) rfl rfl rfl rfl) (ad.aj ⟨[(2,_),(3,_),(4,_),(45,B ((!x_12) || (!x_13)))],[(101,_),(102,_),(103,_)]⟩ rfl (ab.ite h rfl (fun _ h=>?_) (fun _ h=>?_)))))
  ·refine ab.seq (ab.aa ?_)
   obtain ⟨x_14,e19,h⟩:=aE h
   refine Oc (ae (ij e19) nB rfl rfl) (Oc (ag ao rfl rfl rfl rfl (Nat.le_of_ble_eq_true rfl) rfl) ?_)
   refine ad.aj ⟨[(4,_)],[(103,.box 25 (au x_14))]⟩ rfl (ab.ret (Fin.ar ?_))
   obtain rfl:=Option.some.inj h
   refine Fin.ah ⟨[(4,_)],[(103,_)]⟩ rfl (Fin.aq [.agg (au x_14)] (.inl rfl) rfl (.cons (.agg ao rfl rfl rfl rfl) .nil) ⟨rfl,rfl⟩)
  ·refine ab.skip (Fin.ah ⟨[(2,_),(3,_),(4,_)],[(101,_),(102,_),(103,_)]⟩ rfl (Fin.then (ab.seq (ab.aa ?_))))
   refine Oc (lp ao) ?_
   obtain ⟨x_15,e20,h⟩:=aE h
   refine Oc (ae (df e20) mr rfl rfl) (Oc oa ?_)
   refine ad.aj ⟨[(3,_),(4,_),(10,.b (.one (.sl 1 (x_15.map eI))))],[(102,_),(103,_)]⟩ rfl (ab.seq (ab.aa ?_))
   refine Oc (lp ao) ?_
   obtain ⟨x_16,e21,h⟩:=aE h
   refine Oc (ae (df e21) mr rfl rfl) (Oc oa ?_)
   refine ad.aj ⟨[(4,_),(10,_),(11,.b (.one (.sl 1 (x_16.map eI))))],[(103,_)]⟩ rfl ?_
   obtain ⟨v22,h23,h⟩:=aE h
   refine ab.cB (v:=v22) (fun (x_17:List Int)=>⟨[(4,Pt 103 0),(10,.b (.one (.sl 1 (x_17.map eI))))],[(103,.box 25 cO)]⟩) (fun z=>z) ?_ ?_
   ·refine ab.block (ab.cS h23 (b7 fun (x_18:List Int) (y_19:List Int)=>⟨[(4,Pt 103 0),(10,.b (.one (.sl 1 (x_18.map eI)))),(11,.b (.one (.sl 1 (y_19.map eI))))],[(103,.box 25 cO)]⟩) [4,10,11] [103] rfl ?_)
    rintro ⟨x_18,y_19⟩ o24 h25 hy26
    refine ab.seq (ab.seq (ab.aa ?_))
    refine Oc om (Oc (b8 iI rfl (List.length_map _)) (Oc (dB rfl rfl) ?_))
    refine ad.aj ⟨[(4,_),(10,_),(11,_),(53,B (decide (0 < (y_19.length:Int))))],[(103,_)]⟩ rfl (ab.ite h25 rfl (fun _ h25=>?_) (fun _ h25=>?_))
    ·refine ab.skip (Fin.ah ⟨[(4,_),(10,_),(11,_)],[(103,_)]⟩ rfl (Fin.then (ab.block (ab.seq (ab.aa ?_)))))
     refine Oc om (Oc om ?_)
     obtain ⟨⟨x_21,x_22⟩,e27,h25⟩:=aE h25
     refine Oc (ae (po e27) AV rfl rfl) (Oc om (Oc (ay rfl rfl) ?_))
     refine ad.ah ⟨[(4,_),(11,_),(54,.fE [.one (.sl 1 (x_21.map eI)),.one (.sl 1 (x_22.map eI))]),(58,.b (.one (.sl 1 (x_21.map eI))))],[(103,_)]⟩ rfl (Oc (ay rfl rfl) (Oc oa (Oc oa ?_)))
     refine ad.aj ⟨[(4,_),(11,_),(13,.b (.one (.sl 1 (x_22.map eI))))],[(103,_)]⟩ rfl (ab.seq (ab.aa ?_))
     refine Oc om (Oc oa ?_)
     refine ad.aj ⟨[(4,_),(10,.b (.one (.sl 1 (y_19.map eI)))),(13,_)],[(103,_)]⟩ rfl (ab.aa (Oc om (Oc oa ?_)))
     refine ad.nil (Fin.aH ?_)
     exact Fin.bR [4,10,11] [103] (y_19,x_22) (Option.some.inj h25) rfl
    ·refine ab.exit (Fin.aG ?_)
     obtain rfl:=hy26 _ (Option.some.inj h25).symm
     refine Fin.aG (Fin.aY ?_)
     exact Fin.join [4,10] [103] x_18 rfl rfl
   ·rintro x_17 hv
    subst v22
    refine ab.seq (ab.aa ?_)
    refine Oc om ?_
    obtain ⟨x_23,e28,h⟩:=aE h
    refine Oc (ae (fo e28) nA rfl rfl) (Oc (ag ao rfl rfl rfl rfl (Nat.le_of_ble_eq_true rfl) rfl) ?_)
    refine ad.aj ⟨[(4,_)],[(103,.box 25 (au x_23))]⟩ rfl (ab.ret ?_)
    obtain rfl:=Option.some.inj h
    refine Fin.ah ⟨[(4,_)],[(103,_)]⟩ rfl (Fin.aq [.agg (au x_23)] (.inl rfl) rfl (.cons (.agg ao rfl rfl rfl rfl) .nil) ⟨rfl,rfl⟩)
def oH (F:Nat) (x0:bt):Option bt :=
 (da F x0).bind fun x_1=>if (!x_1) = true then ((iR F).bind fun x_2=>some x_2) else ((cU F x0).bind fun x_3=>(dO F (!x0.Neg) x_3).bind fun x_4=>some x_4)
theorem yg {F:Nat} {x0:bt} {r:bt} (h:oH F x0 = some r):az Tryz.prog (bj mx) 159 [] [.agg (au x0)] (Is [] (.b (.agg (au r)))):=by
 unfold oH at h
 refine az.intro 13 Tryz.func159 Tryz.ntmps159 rfl (by simp) fun E=>?_
 show ab _ E ⟨13,[],[]⟩ _ ⟨[(0,.b (.agg (au x0)))],[]⟩ _
 refine ab.seq (ab.aa ?_)
 refine Oc (aS (k:=101) rfl rfl) (Oc (aA (k:=102) bx rfl) ?_)
 refine ad.aj ⟨[(1,Pt 101 0),(2,Pt 102 0)],[(101,.box 25 (au x0)),(102,.box 25 cO)]⟩ rfl (ab.seq (ab.seq (ab.aa ?_)))
 refine Oc (lp ao) ?_
 obtain ⟨x_1,e1,h⟩:=aE h
 refine Oc (ae (cM e1) jq rfl rfl) (Oc (bq rfl) ?_)
 refine ad.aj ⟨[(1,_),(2,_),(5,B (!x_1))],[(101,_),(102,_)]⟩ rfl (ab.ite h rfl (fun _ h=>?_) (fun _ h=>?_))
 ·refine ab.seq (ab.aa ?_)
  obtain ⟨x_2,e2,h⟩:=aE h
  refine Oc (ae (ij e2) nB rfl rfl) (Oc (ag ao rfl rfl rfl rfl (Nat.le_of_ble_eq_true rfl) rfl) ?_)
  refine ad.aj ⟨[(2,_)],[(102,.box 25 (au x_2))]⟩ rfl (ab.ret (Fin.ar ?_))
  obtain rfl:=Option.some.inj h
  refine Fin.ah ⟨[(2,_)],[(102,_)]⟩ rfl (Fin.aq [.agg (au x_2)] (.inl rfl) rfl (.cons (.agg ao rfl rfl rfl rfl) .nil) ⟨rfl,rfl⟩)
 ·refine ab.skip (Fin.ah ⟨[(1,_),(2,_)],[(101,_),(102,_)]⟩ rfl (Fin.then (ab.seq ?_)))
  refine ab.ah ⟨[(1,_),(2,_)],[(101,_),(102,_)]⟩ rfl ?_
  obtain ⟨x_3,e3,h⟩:=aE h
  obtain ⟨x_4,e4,h⟩:=aE h
  refine ab.bP mixed 6 [Pt 101 1,B x0.Neg,B (!x0.Neg),.b (.agg (au x0)),.b (.one (.sl 1 (x_3.map eI))),.b (.agg (au x_4))] [2] [102] (s':=⟨[(2,_)],[(102,.box 25 (au x_4))]⟩) rfl ⟨fun _=>.p (af bM rfl rfl),fun _=>.p (ax cC rfl rfl rfl),fun _=>.p (bq rfl),fun _=>.p (lp ao),fun _=>.p (ae (df e3) mr rfl rfl),fun _=>.p (ae (fo e4) nA rfl rfl),trivial⟩ ⟨_,by exact .p (ag ao rfl rfl rfl rfl (Nat.le_of_ble_eq_true rfl) rfl),rfl⟩ rfl (ab.ret ?_)
  obtain rfl:=Option.some.inj h
  refine Fin.ah ⟨[(2,_)],[(102,_)]⟩ rfl (Fin.aq [.agg (au x_4)] (.inl rfl) rfl (.cons (.agg ao rfl rfl rfl rfl) .nil) ⟨rfl,rfl⟩)
def lH (F:Nat) (n0:Int) (m0:Int):Option Int :=
 (k7 .i64 n0 m0).bind fun x_1=>Option.bind ((tC n0 m0).bind fun x_3=>bD ((decide (x_3 ≠ 0)) && ((decide (n0 < 0)) != (decide (m0 < 0)))) fun x_4=>if x_4 = true then (some (IntKind.i64.wrap (x_1 - 1))) else (some x_1)) (fun q_2=>some q_2)
theorem uZ {F:Nat} {n0:Int} {m0:Int} {r:Int} (h:lH F n0 m0 = some r):az Tryz.prog (bj mx) 153 [] [.one (.i n0),.one (.i m0)] (Is [] (.b (.one (.i r)))):=by
 unfold lH at h
 refine az.intro 23 Tryz.func153 Tryz.ntmps153 rfl (by simp) fun E=>?_
 show ab _ E ⟨23,[],[]⟩ _ ⟨[(0,I n0),(1,I m0)],[]⟩ _
 refine ab.seq (ab.aa ?_)
 refine Oc oa (ad.aj ⟨[(0,I n0),(1,I m0)],[]⟩ rfl (ab.seq (ab.aa ?_)))
 refine Oc om (Oc om ?_)
 obtain ⟨x_1,e1,h⟩:=aE h
 refine Oc (fw e1 rfl rfl) (Oc oa ?_)
 refine ad.aj ⟨[(0,_),(1,_),(5,I x_1)],[]⟩ rfl ?_
 obtain ⟨v2,h3,h⟩:=aE h
 refine ab.cB (v:=v2) (fun (q_2:Int)=>⟨[(5,I q_2)],[]⟩) (fun z=>z) ?_ ?_
 ·refine ab.seq (ab.aa ?_)
  refine Oc om (Oc om ?_)
  obtain ⟨x_3,e4,h3⟩:=aE h3
  refine Oc (pB e4 rfl rfl) (Oc (dY rfl rfl) (Oc om ?_))
  refine bU (decide (x_3 ≠ 0)) [] (fun g5=>trivial) (fun g5=>om) (bU (decide (x_3 ≠ 0)) [14] (fun g6=>by exact ⟨g6,trivial⟩) (fun g6=>bK rfl rfl) (ad.ah ⟨[(1,_),(5,_),(13,B (decide (x_3 ≠ 0))),(15,.dA (decide (x_3 ≠ 0)) (.one (.bool (decide (n0 < 0)))))],[]⟩ rfl (bU (decide (x_3 ≠ 0)) [] (fun g7=>by exact trivial) (fun g7=>om) (bU (decide (x_3 ≠ 0)) [16] (fun g8=>by exact ⟨g8,trivial⟩) (fun g8=>bK rfl rfl) (bU (decide (x_3 ≠ 0)) [15,17] (fun g9=>by exact ⟨g9,g9,trivial⟩) (fun g9=>gw uQ rfl rfl) ?_)))))
  refine ad.iJ h3 rfl (aD (fun e=>e) rfl rfl rfl rfl) (fun x_4 h3=>?_)
  refine ad.aj ⟨[(5,_),(19,B x_4)],[]⟩ rfl (ab.ite h3 rfl (fun _ h3=>?_) (fun _ h3=>?_))
  ·refine ab.aa (Oc om (Oc (bX rfl rfl) (Oc oa ?_)))
   refine ad.nil ?_
   exact Fin.join [5] [] (IntKind.i64.wrap (x_1 - 1)) (Option.some.inj h3) rfl
  ·refine ab.skip ?_
   exact Fin.join [5] [] x_1 (Option.some.inj h3) rfl
 ·rintro q_2 hv
  subst v2
  refine ab.seq (ab.aa ?_)
  refine Oc om (Oc oa ?_)
  refine ad.aj ⟨[(4,I q_2)],[]⟩ rfl (ab.ret ?_)
  obtain rfl:=Option.some.inj h
  refine Fin.ah ⟨[(4,_)],[]⟩ rfl (Fin.aq [.one (.i q_2)] (.inl rfl) rfl (.cons (.tmp rfl) .nil) ⟨rfl,rfl⟩)
def lz (F:Nat) (a0:bt) (b0:bt):Option bt :=
 Option.bind (gi F a0) (b7 fun x_1 x_2=>Option.bind (gi F b0) (b7 fun x_3 x_4=>if ((x_2 && x_4) && (decide (x_3 ≠ 0))) = true then ((lH F x_1 x_3).bind fun x_5=>(iV F x_5).bind fun x_6=>some x_6) else ((da F a0).bind fun x_7=>(bA (!(!x_7)) (da F b0)).bind fun x_8=>(bA (!((!x_7) || (!x_8))) (cU F b0)).bind fun x_9=>if (((!x_7) || (!x_8)) || (decide ((x_9.length:Int) = 0))) = true then ((iR F).bind fun x_10=>some x_10) else ((cU F a0).bind fun x_11=>(cU F b0).bind fun x_12=>Option.bind (jm F x_11 x_12) (b7 fun x_13 x_14=>Option.bind (if ((a0.Neg != b0.Neg) && (decide (0 < (x_14.length:Int)))) = true then ((k5 F x_13 [1]).bind fun x_16=>some x_16) else (some x_13)) (fun q_15=>(dO F (a0.Neg != b0.Neg) q_15).bind fun x_17=>some x_17))))))
theorem sF {F:Nat} {a0:bt} {b0:bt} {r:bt} (h:lz F a0 b0 = some r):az Tryz.prog (bj mx) 101 [] [.agg (au a0),.agg (au b0)] (Is [] (.b (.agg (au r)))):=by
 unfold lz at h
 refine az.intro 76 Tryz.func101 Tryz.ntmps101 rfl (by simp) fun E=>?_
 show ab _ E ⟨76,[],[]⟩ _ ⟨[(0,.b (.agg (au a0))),(1,.b (.agg (au b0)))],[]⟩ _
 refine ab.seq (ab.aa ?_)
 refine Oc (aS (k:=101) rfl rfl) (Oc (aS (k:=102) rfl rfl) (Oc (aA (k:=103) bx rfl) ?_))
 refine ad.aj ⟨[(2,Pt 101 0),(3,Pt 102 0),(4,Pt 103 0)],[(101,.box 25 (au a0)),(102,.box 25 (au b0)),(103,.box 25 cO)]⟩ rfl (ab.seq (ab.aa ?_))
 refine Oc (lp ao) ?_
 obtain ⟨⟨x_1,x_2⟩,e1,h⟩:=aE h
 refine Oc (ae (iE e1) pF rfl rfl) (Oc om (Oc (ay rfl rfl) (Oc (ay rfl rfl) (Oc oa (Oc oa ?_)))))
 refine ad.aj ⟨[(2,_),(3,_),(4,_),(5,I x_1),(6,B x_2)],[(101,_),(102,_),(103,_)]⟩ rfl (ab.seq (ab.aa ?_))
 refine Oc (lp ao) ?_
 obtain ⟨⟨x_3,x_4⟩,e2,h⟩:=aE h
 refine Oc (ae (iE e2) pF rfl rfl) (Oc om (Oc (ay rfl rfl) (Oc (ay rfl rfl) (Oc oa (Oc oa ?_)))))
 refine ad.aj ⟨[(2,_),(3,_),(4,_),(5,_),(6,_),(7,I x_3),(8,B x_4)],[(101,_),(102,_),(103,_)]⟩ rfl (ab.seq (ab.seq (ab.aa ?_)))
 refine Oc om (Oc om ?_)
 refine bU x_2 [] (fun g3=>trivial) (fun g3=>om) (Oc (aD (fun e=>e) rfl rfl rfl rfl) (Oc om ?_))
 refine bU (x_2 && x_4) [] (fun g4=>trivial) (fun g4=>om) (bU (x_2 && x_4) [26] (fun g5=>by exact ⟨g5,trivial⟩) (fun g5=>dY rfl rfl) (Oc (aD (fun e=>e) rfl rfl rfl rfl) (ad.aj ⟨[(2,_),(3,_),(4,_),(5,_),(7,_),(28,B ((x_2 && x_4) && (decide (x_3 ≠ 0))))],[(101,_),(102,_),(103,_)]⟩ rfl (ab.ite h rfl (fun _ h=>?_) (fun _ h=>?_)))))
 ·refine ab.seq (ab.aa ?_)
  refine Oc om (Oc om ?_)
  obtain ⟨x_5,e6,h⟩:=aE h
  refine Oc (ae (uZ e6) goes153 rfl rfl) ?_
  obtain ⟨x_6,e7,h⟩:=aE h
  refine Oc (ae (je e7) nE rfl rfl) (Oc (ag ao rfl rfl rfl rfl (Nat.le_of_ble_eq_true rfl) rfl) ?_)
  refine ad.aj ⟨[(4,_)],[(103,.box 25 (au x_6))]⟩ rfl (ab.ret (Fin.ar ?_))
  obtain rfl:=Option.some.inj h
  refine Fin.ah ⟨[(4,_)],[(103,_)]⟩ rfl (Fin.aq [.agg (au x_6)] (.inl rfl) rfl (.cons (.agg ao rfl rfl rfl rfl) .nil) ⟨rfl,rfl⟩)
 ·refine ab.skip (Fin.ah ⟨[(2,_),(3,_),(4,_)],[(101,_),(102,_),(103,_)]⟩ rfl (Fin.then (ab.seq (ab.seq (ab.aa ?_)))))
  refine Oc (lp ao) ?_
  obtain ⟨x_7,e8,h⟩:=aE h
  refine Oc (ae (cM e8) jq rfl rfl) (Oc (bq rfl) (Oc om ?_))
  refine cN (!(!x_7)) [] (fun g9=>trivial) (fun g9=>lp ao) (ad.ah ⟨[(2,_),(3,_),(4,_),(36,B (!x_7)),(37,.dA (!(!x_7)) (.agg (au b0)))],[(101,_),(102,_),(103,_)]⟩ rfl ?_)
  obtain ⟨x_8,e11,h⟩:=aE h
  refine cN (!(!x_7)) [37] (fun g10=>⟨g10,trivial⟩) (fun g10=>ae (cM (gc e11 g10)) jq rfl rfl) (cN (!(!x_7)) [38] (fun g12=>⟨g12,trivial⟩) (fun g12=>bq rfl) (Oc (aU (fun e=>by rw [e]; rfl) rfl rfl rfl rfl) (Oc om ?_)))
  refine cN (!((!x_7) || (!x_8))) [] (fun g13=>trivial) (fun g13=>lp ao) ?_
  obtain ⟨x_9,e15,h⟩:=aE h
  refine cN (!((!x_7) || (!x_8))) [42] (fun g14=>⟨g14,trivial⟩) (fun g14=>ae (df (gc e15 g14)) mr rfl rfl) (ad.ah ⟨[(2,_),(3,_),(4,_),(41,B ((!x_7) || (!x_8))),(43,.dA (!((!x_7) || (!x_8))) (.one (.sl 1 (x_9.map eI))))],[(101,_),(102,_),(103,_)]⟩ rfl (cN (!((!x_7) || (!x_8))) [43] (fun g16=>⟨g16,trivial⟩) (fun g16=>b8 iI rfl (List.length_map _)) (cN (!((!x_7) || (!x_8))) [44] (fun g17=>⟨g17,trivial⟩) (fun g17=>cy rfl rfl) (Oc (aU (fun e=>by rw [e]; rfl) rfl rfl rfl rfl) (ad.aj ⟨[(2,_),(3,_),(4,_),(46,B (((!x_7) || (!x_8)) || (decide ((x_9.length:Int) = 0))))],[(101,_),(102,_),(103,_)]⟩ rfl ?_)))))
  refine ab.ite h rfl (fun _ h=>?_) (fun _ h=>?_)
  ·refine ab.seq (ab.aa ?_)
   obtain ⟨x_10,e18,h⟩:=aE h
   refine Oc (ae (ij e18) nB rfl rfl) (Oc (ag ao rfl rfl rfl rfl (Nat.le_of_ble_eq_true rfl) rfl) ?_)
   refine ad.aj ⟨[(4,_)],[(103,.box 25 (au x_10))]⟩ rfl (ab.ret (Fin.ar ?_))
   obtain rfl:=Option.some.inj h
   refine Fin.ah ⟨[(4,_)],[(103,_)]⟩ rfl (Fin.aq [.agg (au x_10)] (.inl rfl) rfl (.cons (.agg ao rfl rfl rfl rfl) .nil) ⟨rfl,rfl⟩)
  ·refine ab.skip (Fin.ah ⟨[(2,_),(3,_),(4,_)],[(101,_),(102,_),(103,_)]⟩ rfl (Fin.then (ab.seq ?_)))
   refine ab.ah ⟨[(2,_),(3,_),(4,_)],[(101,_),(102,_),(103,_)]⟩ rfl ?_
   obtain ⟨x_11,e19,h⟩:=aE h
   obtain ⟨x_12,e20,h⟩:=aE h
   obtain ⟨⟨x_13,x_14⟩,e21,h⟩:=aE h
   refine ab.bP mixed 10 [.b (.agg (au a0)),.b (.one (.sl 1 (x_11.map eI))),.b (.agg (au b0)),.b (.one (.sl 1 (x_12.map eI))),.fE [.one (.sl 1 (x_13.map eI)),.one (.sl 1 (x_14.map eI))],.fE [.one (.sl 1 (x_13.map eI)),.one (.sl 1 (x_14.map eI))],.b (.one (.sl 1 (x_13.map eI))),.b (.one (.sl 1 (x_14.map eI))),.b (.one (.sl 1 (x_13.map eI))),.b (.one (.sl 1 (x_14.map eI)))] [2,3,4,9,10] [101,102,103] (s':=⟨[(2,_),(3,_),(4,_),(9,.b (.one (.sl 1 (x_13.map eI)))),(10,.b (.one (.sl 1 (x_14.map eI))))],[(101,_),(102,_),(103,_)]⟩) rfl ⟨fun _=>.p (lp ao),fun _=>.p (ae (df e19) mr rfl rfl),fun _=>.p (lp ao),fun _=>.p (ae (df e20) mr rfl rfl),fun _=>.p (ae (po e21) AV rfl rfl),fun _=>.p om,fun _=>.p (ay rfl rfl),fun _=>.p (ay rfl rfl),fun _=>.p oa,fun _=>.p oa,trivial⟩ rfl rfl ?_
   obtain ⟨v22,h23,h⟩:=aE h
   refine ab.cB (v:=v22) (fun (q_15:List Int)=>⟨[(2,Pt 101 0),(3,Pt 102 0),(4,Pt 103 0),(9,.b (.one (.sl 1 (q_15.map eI))))],[(101,.box 25 (au a0)),(102,.box 25 (au b0)),(103,.box 25 cO)]⟩) (fun z=>z) ?_ ?_
   ·refine ab.seq (ab.aa ?_)
    refine Oc (af bM rfl rfl) (Oc (ax cC rfl rfl rfl) (Oc (af bM rfl rfl) (Oc (ax cC rfl rfl rfl) (Oc (gw uQ rfl rfl) (Oc om ?_)))))
    refine bU (a0.Neg != b0.Neg) [] (fun g24=>trivial) (fun g24=>om) (ad.ah ⟨[(2,_),(3,_),(4,_),(9,_),(61,B (a0.Neg != b0.Neg)),(62,.dA (a0.Neg != b0.Neg) (.one (.sl 1 (x_14.map eI))))],[(101,_),(102,_),(103,_)]⟩ rfl (bU (a0.Neg != b0.Neg) [62] (fun g25=>by exact ⟨g25,trivial⟩) (fun g25=>b8 iI rfl (List.length_map _)) (bU (a0.Neg != b0.Neg) [63] (fun g26=>by exact ⟨g26,trivial⟩) (fun g26=>dB rfl rfl) (Oc (aD (fun e=>e) rfl rfl rfl rfl) (ad.aj ⟨[(2,_),(3,_),(4,_),(9,_),(65,B ((a0.Neg != b0.Neg) && (decide (0 < (x_14.length:Int)))))],[(101,_),(102,_),(103,_)]⟩ rfl ?_)))))
    refine ab.ite h23 rfl (fun _ h23=>?_) (fun _ h23=>?_)
    ·refine ab.aa (Oc om (Oc (br (k:=104) (es:=[1].map eI) du rfl rfl (c5 fun _=>rfl) rfl (by decide) (by decide) rfl) ?_))
     refine ad.eY 104 rfl ?_
     obtain ⟨x_16,e27,h23⟩:=aE h23
     refine Oc (ae (rJ e27) AU rfl rfl) (Oc oa ?_)
     refine ad.nil ?_
     exact Fin.join [2,3,4,9] [101,102,103] x_16 (Option.some.inj h23) rfl
    ·refine ab.skip ?_
     exact Fin.join [2,3,4,9] [101,102,103] x_13 (Option.some.inj h23) rfl
   ·rintro q_15 hv
    subst v22
    refine ab.seq (ab.aa ?_)
    refine Oc (af bM rfl rfl) (Oc (ax cC rfl rfl rfl) (Oc (af bM rfl rfl) (Oc (ax cC rfl rfl rfl) (Oc (gw uQ rfl rfl) (Oc om ?_)))))
    obtain ⟨x_17,e28,h⟩:=aE h
    refine Oc (ae (fo e28) nA rfl rfl) (Oc (ag ao rfl rfl rfl rfl (Nat.le_of_ble_eq_true rfl) rfl) ?_)
    refine ad.aj ⟨[(4,_)],[(103,.box 25 (au x_17))]⟩ rfl (ab.ret ?_)
    obtain rfl:=Option.some.inj h
    refine Fin.ah ⟨[(4,_)],[(103,_)]⟩ rfl (Fin.aq [.agg (au x_17)] (.inl rfl) rfl (.cons (.agg ao rfl rfl rfl rfl) .nil) ⟨rfl,rfl⟩)
def gQ (F:Nat) (n0:bt) (d0:bt):Option bN :=
 (da F n0).bind fun x_1=>(bA (!(!x_1)) (da F d0)).bind fun x_2=>(bA (!((!x_1) || (!x_2))) (jj F d0)).bind fun x_3=>if (((!x_1) || (!x_2)) || (decide (x_3 = 0))) = true then ((ly F).bind fun x_4=>some x_4) else ((mI F n0 d0).bind fun x_5=>Option.bind ((jj F d0).bind fun x_7=>if (decide (x_7 < 0)) = true then ((oH F x_5).bind fun x_8=>some x_8) else (some x_5)) (fun g_6=>(lz F n0 g_6).bind fun x_9=>(lz F d0 g_6).bind fun x_10=>some (⟨x_9,x_10⟩:bN)))
theorem iC {F:Nat} {n0:bt} {d0:bt} {r:bN} (h:gQ F n0 d0 = some r):az Tryz.prog (bj mx) 106 [] [.agg (au n0),.agg (au d0)] (Is [] (.b (.agg (aI r)))):=by
 unfold gQ at h
 refine az.intro 35 Tryz.func106 Tryz.ntmps106 rfl (by simp) fun E=>?_
 show ab _ E ⟨35,[],[]⟩ _ ⟨[(0,.b (.agg (au n0))),(1,.b (.agg (au d0)))],[]⟩ _
 refine ab.seq (ab.aa ?_)
 refine Oc (aS (k:=101) rfl rfl) (Oc (aS (k:=102) rfl rfl) (Oc (aA (k:=103) bO rfl) ?_))
 refine ad.aj ⟨[(2,Pt 101 0),(3,Pt 102 0),(4,Pt 103 0)],[(101,.box 25 (au n0)),(102,.box 25 (au d0)),(103,.box 27 eh)]⟩ rfl (ab.seq (ab.seq (ab.aa ?_)))
 refine Oc (lp ao) ?_
 obtain ⟨x_1,e1,h⟩:=aE h
 refine Oc (ae (cM e1) jq rfl rfl) (Oc (bq rfl) (Oc om ?_))
 refine cN (!(!x_1)) [] (fun g2=>trivial) (fun g2=>lp ao) (ad.ah ⟨[(2,_),(3,_),(4,_),(9,B (!x_1)),(10,.dA (!(!x_1)) (.agg (au d0)))],[(101,_),(102,_),(103,_)]⟩ rfl ?_)
 obtain ⟨x_2,e4,h⟩:=aE h
 refine cN (!(!x_1)) [10] (fun g3=>⟨g3,trivial⟩) (fun g3=>ae (cM (gc e4 g3)) jq rfl rfl) (cN (!(!x_1)) [11] (fun g5=>⟨g5,trivial⟩) (fun g5=>bq rfl) (Oc (aU (fun e=>by rw [e]; rfl) rfl rfl rfl rfl) (Oc om ?_)))
 refine cN (!((!x_1) || (!x_2))) [] (fun g6=>trivial) (fun g6=>lp ao) ?_
 obtain ⟨x_3,e8,h⟩:=aE h
 refine cN (!((!x_1) || (!x_2))) [15] (fun g7=>⟨g7,trivial⟩) (fun g7=>ae (nT (gc e8 g7)) wE rfl rfl) (cN (!((!x_1) || (!x_2))) [16] (fun g9=>⟨g9,trivial⟩) (fun g9=>cy rfl rfl) (Oc (aU (fun e=>by rw [e]; rfl) rfl rfl rfl rfl) (ad.aj ⟨[(2,_),(3,_),(4,_),(18,B (((!x_1) || (!x_2)) || (decide (x_3 = 0))))],[(101,_),(102,_),(103,_)]⟩ rfl (ab.ite h rfl (fun _ h=>?_) (fun _ h=>?_)))))
 ·refine ab.seq (ab.aa ?_)
  obtain ⟨x_4,e10,h⟩:=aE h
  refine Oc (ae (oW e10) wC rfl rfl) (Oc (ag aC rfl rfl rfl rfl (Nat.le_of_ble_eq_true rfl) rfl) ?_)
  refine ad.aj ⟨[(4,_)],[(103,.box 27 (aI x_4))]⟩ rfl (ab.ret (Fin.ar ?_))
  obtain rfl:=Option.some.inj h
  refine Fin.ah ⟨[(4,_)],[(103,_)]⟩ rfl (Fin.aq [.agg (aI x_4)] (.inl rfl) rfl (.cons (.agg aC rfl rfl rfl rfl) .nil) ⟨rfl,rfl⟩)
 ·refine ab.skip (Fin.ah ⟨[(2,_),(3,_),(4,_)],[(101,_),(102,_),(103,_)]⟩ rfl (Fin.then (ab.seq (ab.aa ?_))))
  refine Oc (lp ao) (Oc (lp ao) ?_)
  obtain ⟨x_5,e11,h⟩:=aE h
  refine Oc (ae (sH e11) A2 rfl rfl) (Oc (aA (k:=104) bx rfl) (Oc (ag ao rfl rfl rfl rfl (Nat.le_of_ble_eq_true rfl) rfl) ?_))
  refine ad.aj ⟨[(2,_),(3,_),(4,_),(5,Pt 104 0)],[(101,_),(102,_),(103,_),(104,.box 25 (au x_5))]⟩ rfl ?_
  obtain ⟨v12,h13,h⟩:=aE h
  refine ab.cB (v:=v12) (fun (g_6:bt)=>⟨[(2,Pt 101 0),(3,Pt 102 0),(4,Pt 103 0),(5,Pt 104 0)],[(101,.box 25 (au n0)),(102,.box 25 (au d0)),(103,.box 27 eh),(104,.box 25 (au g_6))]⟩) (fun z=>z) ?_ ?_
  ·refine ab.seq (ab.aa ?_)
   refine Oc (lp ao) ?_
   obtain ⟨x_7,e14,h13⟩:=aE h13
   refine Oc (ae (nT e14) wE rfl rfl) (Oc (bK rfl rfl) ?_)
   refine ad.aj ⟨[(2,_),(3,_),(4,_),(5,_),(25,B (decide (x_7 < 0)))],[(101,_),(102,_),(103,_),(104,_)]⟩ rfl (ab.ite h13 rfl (fun _ h13=>?_) (fun _ h13=>?_))
   ·refine ab.aa (Oc (lp ao) ?_)
    obtain ⟨x_8,e15,h13⟩:=aE h13
    refine Oc (ae (yg e15) goes159 rfl rfl) (Oc (ag ao rfl rfl rfl rfl (Nat.le_of_ble_eq_true rfl) rfl) ?_)
    refine ad.nil ?_
    exact Fin.join [2,3,4,5] [101,102,103,104] x_8 (Option.some.inj h13) rfl
   ·refine ab.skip ?_
    exact Fin.join [2,3,4,5] [101,102,103,104] x_5 (Option.some.inj h13) rfl
  ·rintro g_6 hv
   subst v12
   refine ab.seq (ab.ah ⟨[(2,_),(3,_),(4,_),(5,_)],[(101,_),(102,_),(103,_),(104,_)]⟩ rfl ?_)
   obtain ⟨x_9,e16,h⟩:=aE h
   obtain ⟨x_10,e17,h⟩:=aE h
   refine ab.bP mixed 7 [.b (.agg (au n0)),.b (.agg (au g_6)),.b (.agg (au x_9)),.b (.agg (au d0)),.b (.agg (au g_6)),.b (.agg (au x_10)),.b (.agg (au x_9 ++ (au x_10)))] [4] [103] (s':=⟨[(4,_)],[(103,.box 27 (au x_9 ++ (au x_10)))]⟩) rfl ⟨fun _=>.p (lp ao),fun _=>.p (lp ao),fun _=>.p (ae (sF e16) A5 rfl rfl),fun _=>.p (lp ao),fun _=>.p (lp ao),fun _=>.p (ae (sF e17) A5 rfl rfl),fun _=>.p (aV fB rfl rfl),trivial⟩ ⟨_,by exact .p (ag aC rfl rfl rfl rfl (Nat.le_of_ble_eq_true rfl) rfl),rfl⟩ rfl (ab.ret ?_)
   obtain rfl:=Option.some.inj h
   refine Fin.ah ⟨[(4,_)],[(103,_)]⟩ rfl (Fin.aq [.agg (au x_9 ++ (au x_10))] (.inl rfl) rfl (.cons (.agg aC rfl rfl rfl rfl) .nil) ⟨rfl,rfl⟩)
def k4 (F:Nat) (a0:Int) (b0:Int):Option bN :=
 (iV F a0).bind fun x_1=>(iV F b0).bind fun x_2=>(gQ F x_1 x_2).bind fun x_3=>some x_3
theorem rI {F:Nat} {a0:Int} {b0:Int} {r:bN} (h:k4 F a0 b0 = some r):az Tryz.prog (bj mx) 105 [] [.one (.i a0),.one (.i b0)] (Is [] (.b (.agg (aI r)))):=by
 unfold k4 at h
 refine az.intro 10 Tryz.func105 Tryz.ntmps105 rfl (by simp) fun E=>?_
 show ab _ E ⟨10,[],[]⟩ _ ⟨[(0,I a0),(1,I b0)],[]⟩ _
 refine ab.seq (ab.aa ?_)
 refine Oc (aA (k:=101) bO rfl) (ad.aj ⟨[(0,I a0),(1,I b0),(4,Pt 101 0)],[(101,.box 27 eh)]⟩ rfl (ab.seq (ab.aa ?_)))
 refine Oc om ?_
 obtain ⟨x_1,e1,h⟩:=aE h
 refine Oc (ae (je e1) nE rfl rfl) (Oc om ?_)
 refine ad.ah ⟨[(4,_),(6,.b (.agg (au x_1))),(7,I b0)],[(101,_)]⟩ rfl ?_
 obtain ⟨x_2,e2,h⟩:=aE h
 refine Oc (ae (je e2) nE rfl rfl) ?_
 obtain ⟨x_3,e3,h⟩:=aE h
 refine Oc (ae (iC e3) pG rfl rfl) (Oc (ag aC rfl rfl rfl rfl (Nat.le_of_ble_eq_true rfl) rfl) ?_)
 refine ad.aj ⟨[(4,_)],[(101,.box 27 (aI x_3))]⟩ rfl (ab.ret ?_)
 obtain rfl:=Option.some.inj h
 refine Fin.ah ⟨[(4,_)],[(101,_)]⟩ rfl (Fin.aq [.agg (aI x_3)] (.inl rfl) rfl (.cons (.agg aC rfl rfl rfl rfl) .nil) ⟨rfl,rfl⟩)
def bJ (F:Nat) (n0:Int) (d0:Int) (m0:Int) (kg0:Int) (s0:Int):Option aw :=
 (k4 F n0 d0).bind fun x_1=>bD (⟨x_1,(⟨m0,kg0,s0⟩:aX)⟩:aw) fun x_2=>some x_2
theorem bH {F:Nat} {n0:Int} {d0:Int} {m0:Int} {kg0:Int} {s0:Int} {r:aw} (h:bJ F n0 d0 m0 kg0 s0 = some r):az Tryz.prog (bj mx) 50 [] [.one (.i n0),.one (.i d0),.one (.i m0),.one (.i kg0),.one (.i s0)] (Is [] (.b (.agg (ap r)))):=by
 unfold bJ at h
 refine az.intro 19 Tryz.func50 Tryz.ntmps50 rfl (by simp) fun E=>?_
 show ab _ E ⟨19,[],[]⟩ _ ⟨[(0,I n0),(1,I d0),(2,I m0),(3,I kg0),(4,I s0)],[]⟩ _
 refine ab.seq (ab.aa ?_)
 refine Oc (aA (k:=101) dD rfl) (ad.aj ⟨[(0,I n0),(1,I d0),(2,I m0),(3,I kg0),(4,I s0),(10,Pt 101 0)],[(101,.box 31 (.bool false :: .bool false :: (eW aP.zero ++ (.bool false :: .bool false :: (eW aP.zero ++ ([.i 0,.i 0,.i 0]))))))]⟩ rfl (ab.seq (ab.aa ?_)))
 refine Oc om (Oc om ?_)
 obtain ⟨x_1,e1,h⟩:=aE h
 refine Oc (ae (rI e1) A4 rfl rfl) (Oc om (Oc om ?_))
 refine ad.ah ⟨[(4,_),(10,_),(13,.b (.agg (aI x_1))),(14,I m0),(15,I kg0)],[(101,_)]⟩ rfl (Oc om (Oc (aV ff rfl rfl) ?_))
 refine ad.ek ap h rfl (aV dI rfl rfl) (fun x_2 h=>?_)
 refine Oc (ag aW rfl rfl rfl rfl (Nat.le_of_ble_eq_true rfl) rfl) (ad.aj ⟨[(10,_)],[(101,.box 31 (ap x_2))]⟩ rfl (ab.ret ?_))
 obtain rfl:=Option.some.inj h
 refine Fin.ah ⟨[(10,_)],[(101,_)]⟩ rfl (Fin.aq [.agg (ap x_2)] (.inl rfl) rfl (.cons (.agg aW rfl rfl rfl rfl) .nil) ⟨rfl,rfl⟩)
def fL (F:Nat) (u0:aX):Option bg :=
 (dj F u0).bind fun x_1=>if (!x_1) = true then (some []) else (Option.bind ((gl F u0).bind fun x_4=>iter F (kA fun above_5 below_6 x_7=>if (decide (x_7 < 3)) = true then (Option.bind ((bB x_4.l x_7).bind fun x_12=>(bB ([[109],[107,103],[115]]:List bg) x_7).bind fun x_13=>Option.bind (if ((decide (1 < x_12)) || (decide (x_12 < (-1)))) = true then ((fm F (max x_12 (IntKind.i64.wrap (-x_12)))).bind fun x_15=>(il [94] x_15).bind fun x_16=>(il x_13 x_16).bind fun x_17=>some x_17) else (some x_13)) (fun p_14=>if ((decide (0 < x_12)) && (decide (above_5 = []))) = true then (some (p_14,below_6)) else (if (decide (0 < x_12)) = true then ((il [42] p_14).bind fun x_18=>(il above_5 x_18).bind fun x_19=>some (x_19,below_6)) else (if (decide (x_12 < 0)) = true then ((il [47] p_14).bind fun x_20=>(il below_6 x_20).bind fun x_21=>some (above_5,x_21)) else (some (above_5,below_6)))))) (b7 fun above_10 below_11=>some (.inl (above_10,below_11,IntKind.i64.wrap (x_7 + 1))))) else (some (.inr (above_5,below_6)))) ([],[],0)) (b7 fun above_2 below_3=>Option.bind (if (decide (above_2 = [])) = true then (some [49]) else (some above_2)) (fun above_22=>(il above_22 below_3).bind fun x_23=>some x_23)))
theorem gN {F:Nat} {u0:aX} {r:bg} (h:fL F u0 = some r):az Tryz.prog (bj mx) 18 [] [.agg (aZ u0)] (Is [] (.b (.one (.str r)))):=by
 unfold fL at h
 refine az.intro 62 Tryz.func18 Tryz.ntmps18 rfl (by simp) fun E=>?_
 show ab _ E ⟨62,[],[]⟩ _ ⟨[(0,.b (.agg (aZ u0)))],[]⟩ _
 refine ab.seq (ab.aa ?_)
 refine Oc (aS (k:=101) rfl rfl) (Oc oa ?_)
 refine ad.aj ⟨[(1,Pt 101 0)],[(101,.box 29 (aZ u0))]⟩ rfl (ab.seq (ab.seq (ab.aa ?_)))
 refine Oc (lp bz) ?_
 obtain ⟨x_1,e1,h⟩:=aE h
 refine Oc (ae (gM e1) tW rfl rfl) (Oc (bq rfl) ?_)
 refine ad.aj ⟨[(1,_),(10,B (!x_1))],[(101,_)]⟩ rfl (ab.ite h rfl (fun _ h=>?_) (fun _ h=>?_))
 ·refine ab.seq (ab.aa ?_)
  refine Oc oa (ad.aj ⟨[(2,.b (.one (.str [])))],[]⟩ rfl (ab.ret (Fin.ar ?_)))
  obtain rfl:=Option.some.inj h
  refine Fin.ah ⟨[(2,_)],[]⟩ rfl (Fin.aq [.one (.str [])] (.inl rfl) rfl (.cons (.tmp rfl) .nil) ⟨rfl,rfl⟩)
 ·refine ab.skip (Fin.ah ⟨[(1,_)],[(101,_)]⟩ rfl (Fin.then (ab.seq (ab.aa ?_))))
  refine Oc oa (Oc oa ?_)
  refine ad.aj ⟨[(1,_),(3,.b (.one (.str []))),(4,.b (.one (.str [])))],[(101,_)]⟩ rfl ?_
  obtain ⟨v2,h3,h⟩:=aE h
  refine ab.cB (v:=v2) (b7 fun (above_2:bg) (below_3:bg)=>⟨[(3,.b (.one (.str above_2))),(4,.b (.one (.str below_3)))],[]⟩) (fun z=>z) ?_ ?_
  ·refine ab.seq (ab.aa ?_)
   refine Oc (lp bz) ?_
   obtain ⟨x_4,e4,h3⟩:=aE h3
   refine Oc (ae (kE e4) CY rfl rfl) (Oc om ?_)
   refine ad.aj ⟨[(3,_),(4,_),(12,.b (.agg ((eA3 .i64) x_4))),(13,I 0)],[]⟩ rfl (ab.block (ab.cS h3 (kA fun (above_5:bg) (below_6:bg) (x_7:Int)=>⟨[(3,.b (.one (.str above_5))),(4,.b (.one (.str below_6))),(12,.b (.agg ((eA3 .i64) x_4))),(13,I x_7)],[]⟩) [3,4,12,13] [] rfl ?_))
   rintro ⟨above_5,below_6,x_7⟩ o5 h6 hy7
   refine ab.seq (ab.aa ?_)
   refine Oc (bK rfl rfl) (ad.aj ⟨[(3,_),(4,_),(12,_),(13,_),(14,B (decide (x_7 < 3)))],[]⟩ rfl (ab.seq (ab.ite h6 rfl (fun _ h6=>?_) (fun _ h6=>?_))))
   ·refine ab.skip (Fin.ah ⟨[(3,_),(4,_),(12,_),(13,_)],[]⟩ rfl (Fin.then ?_))
    obtain ⟨v8,h9,h6⟩:=aE h6
    refine ab.cB (v:=v8) (b7 fun (above_10:bg) (below_11:bg)=>⟨[(3,.b (.one (.str above_10))),(4,.b (.one (.str below_11))),(12,.b (.agg ((eA3 .i64) x_4))),(13,I x_7)],[]⟩) (fun z=>z) ?_ ?_
    ·refine ab.block (ab.seq (ab.aa ?_))
     refine Oc om ?_
     obtain ⟨x_12,e10,h9⟩:=aE h9
     refine Oc (o9 (m:=3) Ah bW rfl rfl (bp e10) (b9 e10) (fZ (e:=CP.int .i64) e10)) (Oc oa (Oc oa ?_))
     refine ad.aj ⟨[(3,_),(4,_),(5,I x_7),(6,I x_12),(12,_),(13,_)],[]⟩ rfl (ab.seq (ab.aa ?_))
     refine Oc (fg BB rfl rfl) (Oc om ?_)
     obtain ⟨x_13,e11,h9⟩:=aE h9
     refine Oc (o9 (m:=3) tyArr99 fj rfl rfl (bp e11) (b9 e11) (fZ (e:=CP.str) e11)) (Oc oa ?_)
     refine ad.aj ⟨[(3,_),(4,_),(6,_),(7,.b (.one (.str x_13))),(12,_),(13,_)],[]⟩ rfl ?_
     obtain ⟨v12,h13,h9⟩:=aE h9
     refine ab.cB (v:=v12) (fun (p_14:bg)=>⟨[(3,.b (.one (.str above_5))),(4,.b (.one (.str below_6))),(6,I x_12),(7,.b (.one (.str p_14))),(12,.b (.agg ((eA3 .i64) x_4))),(13,I x_7)],[]⟩) (fun z=>z) ?_ ?_
     ·refine ab.seq (ab.aa ?_)
      refine Oc om (Oc (dB rfl rfl) (Oc om ?_))
      refine cN (!(decide (1 < x_12))) [] (fun g14=>trivial) (fun g14=>om) (cN (!(decide (1 < x_12))) [23] (fun g15=>by exact ⟨g15,trivial⟩) (fun g15=>bK rfl rfl) (Oc (aU (fun e=>by rw [e]; rfl) rfl rfl rfl rfl) (ad.aj ⟨[(3,_),(4,_),(6,_),(7,_),(12,_),(13,_),(25,B ((decide (1 < x_12)) || (decide (x_12 < (-1)))))],[]⟩ rfl (ab.ite h13 rfl (fun _ h13=>?_) (fun _ h13=>?_)))))
      ·refine ab.aa (Oc om (Oc om (Oc om (Oc (mn rfl) (Oc (tM rfl rfl) ?_)))))
       refine ad.ah ⟨[(3,_),(4,_),(6,_),(7,_),(12,_),(13,_),(26,.b (.one (.str x_13))),(30,I (max x_12 (IntKind.i64.wrap (-x_12))))],[]⟩ rfl ?_
       obtain ⟨x_15,e16,h13⟩:=aE h13
       refine Oc (ae (mi e16) CX rfl rfl) ?_
       obtain ⟨x_16,e17,h13⟩:=aE h13
       refine Oc (cK e17 rfl rfl) ?_
       obtain ⟨x_17,e18,h13⟩:=aE h13
       refine Oc (cK e18 rfl rfl) (Oc oa ?_)
       refine ad.nil ?_
       exact Fin.join [3,4,6,7,12,13] [] x_17 (Option.some.inj h13) rfl
      ·refine ab.skip ?_
       exact Fin.join [3,4,6,7,12,13] [] x_13 (Option.some.inj h13) rfl
     ·rintro p_14 hv
      subst v12
      refine ab.block (ab.seq (ab.aa ?_))
      refine Oc om (Oc (dB rfl rfl) (Oc om ?_))
      refine bU (decide (0 < x_12)) [] (fun g19=>trivial) (fun g19=>om) (bU (decide (0 < x_12)) [38] (fun g20=>by exact ⟨g20,trivial⟩) (fun g20=>bh rfl rfl) (Oc (aD (fun e=>e) rfl rfl rfl rfl) (Oc oa ?_)))
      refine ad.aj ⟨[(3,_),(4,_),(6,_),(7,_),(12,_),(13,_),(34,B ((decide (0 < x_12)) && (decide (above_5 = []))))],[]⟩ rfl (ab.ite h9 rfl (fun _ h9=>?_) (fun _ h9=>?_))
      ·refine ab.aa (Oc om (Oc oa ?_))
       refine ad.nil (Fin.aH (Fin.aH ?_))
       exact Fin.join [3,4,12,13] [] (p_14,below_6) (Option.some.inj h9) rfl
      ·refine ab.seq (ab.aa ?_)
       refine Oc om (Oc (dB rfl rfl) (Oc oa ?_))
       refine ad.aj ⟨[(3,_),(4,_),(6,_),(7,_),(12,_),(13,_),(42,B (decide (0 < x_12)))],[]⟩ rfl (ab.ite h9 rfl (fun _ h9=>?_) (fun _ h9=>?_))
       ·refine ab.aa (Oc om (Oc om ?_))
        obtain ⟨x_18,e21,h9⟩:=aE h9
        refine Oc (cK e21 rfl rfl) ?_
        obtain ⟨x_19,e22,h9⟩:=aE h9
        refine Oc (cK e22 rfl rfl) (Oc oa ?_)
        refine ad.nil (Fin.aH (Fin.aH ?_))
        exact Fin.join [3,4,12,13] [] (x_19,below_6) (Option.some.inj h9) rfl
       ·refine ab.seq (ab.aa ?_)
        refine Oc om (Oc (bK rfl rfl) (Oc oa ?_))
        refine ad.aj ⟨[(3,_),(4,_),(7,_),(12,_),(13,_),(49,B (decide (x_12 < 0)))],[]⟩ rfl (ab.ite h9 rfl (fun _ h9=>?_) (fun _ h9=>?_))
        ·refine ab.aa (Oc om (Oc om ?_))
         obtain ⟨x_20,e23,h9⟩:=aE h9
         refine Oc (cK e23 rfl rfl) ?_
         obtain ⟨x_21,e24,h9⟩:=aE h9
         refine Oc (cK e24 rfl rfl) (Oc oa ?_)
         refine ad.nil (Fin.aH (Fin.aH ?_))
         exact Fin.join [3,4,12,13] [] (above_5,x_21) (Option.some.inj h9) rfl
        ·refine ab.skip (Fin.aH (Fin.aH ?_))
         exact Fin.join [3,4,12,13] [] (above_5,below_6) (Option.some.inj h9) rfl
    ·rintro ⟨above_10,below_11⟩ hv
     subst v8
     refine ab.aa (Oc (bb rfl rfl) (Oc om ?_))
     refine ad.nil ?_
     exact Fin.bR [3,4,12,13] [] (above_10,below_11,IntKind.i64.wrap (x_7 + 1)) (Option.some.inj h6) rfl
   ·refine ab.exit (Fin.aG ?_)
    obtain rfl:=hy7 _ (Option.some.inj h6).symm
    refine Fin.aG (Fin.aY ?_)
    exact Fin.join [3,4] [] (above_5,below_6) rfl rfl
  ·rintro ⟨above_2,below_3⟩ hv
   subst v2
   obtain ⟨v25,h26,h⟩:=aE h
   refine ab.cB (v:=v25) (fun (above_22:bg)=>⟨[(3,.b (.one (.str above_22))),(4,.b (.one (.str below_3)))],[]⟩) (fun z=>z) ?_ ?_
   ·refine ab.seq (ab.aa ?_)
    refine Oc om (Oc (bh rfl rfl) ?_)
    refine ad.aj ⟨[(3,_),(4,_),(58,B (decide (above_2 = [])))],[]⟩ rfl (ab.ite h26 rfl (fun _ h26=>?_) (fun _ h26=>?_))
    ·refine ab.aa (Oc oa (ad.nil ?_))
     exact Fin.join [3,4] [] [49] (Option.some.inj h26) rfl
    ·refine ab.skip ?_
     exact Fin.join [3,4] [] above_2 (Option.some.inj h26) rfl
   ·rintro above_22 hv
    subst v25
    refine ab.seq (ab.aa ?_)
    refine Oc om (Oc om ?_)
    obtain ⟨x_23,e27,h⟩:=aE h
    refine Oc (cK e27 rfl rfl) (Oc oa ?_)
    refine ad.aj ⟨[(2,.b (.one (.str x_23)))],[]⟩ rfl (ab.ret ?_)
    obtain rfl:=Option.some.inj h
    refine Fin.ah ⟨[(2,_)],[]⟩ rfl (Fin.aq [.one (.str x_23)] (.inl rfl) rfl (.cons (.tmp rfl) .nil) ⟨rfl,rfl⟩)
def iM (F:Nat) (s0:bg) (f0:Nat):Option Int :=
 (dL F s0 f0 true).bind fun x_1=>some x_1
theorem nY {F:Nat} {s0:bg} {f0:Nat} {r:Int} (h:iM F s0 f0 = some r):az Tryz.prog (bj mx) 164 [] [.one (.str s0),.one (.raw (.func (.func f0) #[] #[]))] (Is [] (.b (.one (.i r)))):=by
 unfold iM at h
 refine az.intro 8 Tryz.func164 Tryz.ntmps164 rfl (by simp) fun E=>?_
 show ab _ E ⟨8,[],[]⟩ _ ⟨[(0,.b (.one (.str s0))),(1,.b (.one (.raw (.func (.func f0) #[] #[]))))],[]⟩ _
 refine ab.seq (ab.aa ?_)
 refine Oc oa (ad.aj ⟨[(0,.b (.one (.str s0))),(1,.b (.one (.raw (.func (.func f0) #[] #[]))))],[]⟩ rfl (ab.seq (ab.aa ?_)))
 refine Oc om (Oc om ?_)
 obtain ⟨x_1,e1,h⟩:=aE h
 refine Oc (ae (jH e1) AM rfl rfl) (Oc oa ?_)
 refine ad.aj ⟨[(4,I x_1)],[]⟩ rfl (ab.ret ?_)
 obtain rfl:=Option.some.inj h
 refine Fin.ah ⟨[(4,_)],[]⟩ rfl (Fin.aq [.one (.i x_1)] (.inl rfl) rfl (.cons (.tmp rfl) .nil) ⟨rfl,rfl⟩)
def gH (F:Nat) (s0:bg) (f0:Nat):Option Bool :=
 (iM F s0 f0).bind fun x_1=>some (decide (0 ≤ x_1))
theorem lR {F:Nat} {s0:bg} {f0:Nat} {r:Bool} (h:gH F s0 f0 = some r):az Tryz.prog (bj mx) 118 [] [.one (.str s0),.one (.raw (.func (.func f0) #[] #[]))] (Is [] (.b (.one (.bool r)))):=by
 unfold gH at h
 refine az.intro 9 Tryz.func118 Tryz.ntmps118 rfl (by simp) fun E=>?_
 show ab _ E ⟨9,[],[]⟩ _ ⟨[(0,.b (.one (.str s0))),(1,.b (.one (.raw (.func (.func f0) #[] #[]))))],[]⟩ _
 refine ab.seq (ab.aa ?_)
 refine Oc oa (ad.aj ⟨[(0,.b (.one (.str s0))),(1,.b (.one (.raw (.func (.func f0) #[] #[]))))],[]⟩ rfl (ab.seq (ab.aa ?_)))
 refine Oc om (Oc om ?_)
 obtain ⟨x_1,e1,h⟩:=aE h
 refine Oc (ae (nY e1) goes164 rfl rfl) (Oc (fy rfl rfl) (Oc oa ?_))
 refine ad.aj ⟨[(4,B (decide (0 ≤ x_1)))],[]⟩ rfl (ab.ret ?_)
 obtain rfl:=Option.some.inj h
 refine Fin.ah ⟨[(4,_)],[]⟩ rfl (Fin.aq [.one (.bool (decide (0 ≤ x_1)))] (.inl rfl) rfl (.cons (.tmp rfl) .nil) ⟨rfl,rfl⟩)
def lK (F:Nat) (front0:bg) (behind0:bg):Option (bN × Int) :=
 Option.bind (cZ F front0 [45]) (b7 fun x_1 x_2=>(bA (!((decide (x_1 = [])) || (decide (behind0 = [])))) (il x_1 behind0)).bind fun x_3=>(bA (!((decide (x_1 = [])) || (decide (behind0 = [])))) (gH F x_3 119)).bind fun x_4=>bD ((((decide (x_1 = [])) || (decide (behind0 = []))) || x_4) || (decide (40 < (IntKind.i64.wrap ((x_1.length:Int) + (behind0.length:Int)))))) fun x_5=>if x_5 = true then (bD (⟨(⟨false,false,aP.zero⟩:bt),(⟨false,false,aP.zero⟩:bt)⟩:bN) fun x_6=>some (x_6,281)) else ((ml F 0).bind fun x_7=>(ml F 1).bind fun x_8=>(ml F 10).bind fun x_9=>Option.bind ((il x_1 behind0).bind fun x_12=>iter F (kA fun x_13 scale_14 xp_15=>if decide (xp_15 < x_12.length) = true then ((lZ F x_13 x_9).bind fun x_18=>bD (IntKind.i32.wrap ((gx x_12 xp_15) - 48)) fun x_19=>(ml F (IntKind.i64.wrap x_19)).bind fun x_20=>(qZ F x_18 x_20).bind fun x_21=>if (decide ((x_1.length:Int) ≤ (xp_15:Nat))) = true then ((lZ F scale_14 x_9).bind fun x_22=>some (.inl (x_21,x_22,fY x_12 xp_15))) else (some (.inl (x_21,scale_14,fY x_12 xp_15)))) else (some (.inr (x_13,scale_14)))) (x_7,x_8,0)) (b7 fun x_10 scale_11=>Option.bind (if x_2 = true then ((tg F x_10).bind fun x_24=>some x_24) else (some x_10)) (fun x_23=>(nq F x_23 scale_11).bind fun x_25=>some (x_25,0)))))
theorem rS {F:Nat} {front0:bg} {behind0:bg} {r:bN × Int} (h:lK F front0 behind0 = some r):az Tryz.prog (bj mx) 60 [] [.one (.str front0),.one (.str behind0)] (Is [] (.fE [.agg (aI r.1),.one (.i r.2)])):=by
 unfold lK at h
 refine az.intro 70 Tryz.func60 Tryz.ntmps60 rfl (by simp) fun E=>?_
 show ab _ E ⟨70,[],[]⟩ _ ⟨[(0,.b (.one (.str front0))),(1,.b (.one (.str behind0)))],[]⟩ _
 refine ab.seq (ab.aa ?_)
 refine Oc (aA (k:=101) bO rfl) (Oc oa ?_)
 refine ad.aj ⟨[(0,.b (.one (.str front0))),(1,.b (.one (.str behind0))),(4,Pt 101 0)],[(101,.box 27 eh)]⟩ rfl (ab.seq (ab.aa ?_))
 refine Oc om ?_
 obtain ⟨⟨x_1,x_2⟩,e1,h⟩:=aE h
 refine Oc (ae (gG e1) wB rfl rfl) (Oc om (Oc (ay rfl rfl) (Oc (ay rfl rfl) (Oc oa (Oc oa ?_)))))
 refine ad.aj ⟨[(0,.b (.one (.str x_1))),(1,_),(4,_),(6,B x_2)],[(101,_)]⟩ rfl (ab.seq (ab.seq (ab.aa ?_)))
 refine Oc om (Oc (bh rfl rfl) (Oc om ?_))
 refine cN (!(decide (x_1 = []))) [] (fun g2=>trivial) (fun g2=>om) (cN (!(decide (x_1 = []))) [20] (fun g3=>by exact ⟨g3,trivial⟩) (fun g3=>bh rfl rfl) (Oc (aU (fun e=>by rw [e]; rfl) rfl rfl rfl rfl) (Oc om ?_)))
 refine ad.ah ⟨[(0,_),(1,_),(4,_),(6,_),(23,B ((decide (x_1 = [])) || (decide (behind0 = []))))],[(101,_)]⟩ rfl (cN (!((decide (x_1 = [])) || (decide (behind0 = [])))) [] (fun g4=>trivial) (fun g4=>om) (cN (!((decide (x_1 = [])) || (decide (behind0 = [])))) [] (fun g5=>by exact trivial) (fun g5=>om) ?_))
 obtain ⟨x_3,e7,h⟩:=aE h
 refine cN (!((decide (x_1 = [])) || (decide (behind0 = [])))) [24,25] (fun g6=>⟨g6,g6,trivial⟩) (fun g6=>cK (gc e7 g6) rfl rfl) ?_
 obtain ⟨x_4,e9,h⟩:=aE h
 refine cN (!((decide (x_1 = [])) || (decide (behind0 = [])))) [26] (fun g8=>⟨g8,trivial⟩) (fun g8=>ae (lR (gc e9 g8)) goes118 rfl rfl) (Oc (aU (fun e=>by rw [e]; rfl) rfl rfl rfl rfl) (Oc om ?_))
 refine ad.ah ⟨[(0,_),(1,_),(4,_),(6,_),(29,B (((decide (x_1 = [])) || (decide (behind0 = []))) || x_4))],[(101,_)]⟩ rfl (cN (!(((decide (x_1 = [])) || (decide (behind0 = []))) || x_4)) [] (fun g10=>trivial) (fun g10=>om) (cN (!(((decide (x_1 = [])) || (decide (behind0 = []))) || x_4)) [30] (fun g11=>by exact ⟨g11,trivial⟩) (fun g11=>b6 eg rfl) (cN (!(((decide (x_1 = [])) || (decide (behind0 = []))) || x_4)) [] (fun g12=>by exact trivial) (fun g12=>om) (cN (!(((decide (x_1 = [])) || (decide (behind0 = []))) || x_4)) [32] (fun g13=>by exact ⟨g13,trivial⟩) (fun g13=>b6 eg rfl) (cN (!(((decide (x_1 = [])) || (decide (behind0 = []))) || x_4)) [31,33] (fun g14=>by exact ⟨g14,g14,trivial⟩) (fun g14=>bb rfl rfl) ?_)))))
 refine cN (!(((decide (x_1 = [])) || (decide (behind0 = []))) || x_4)) [34] (fun g15=>⟨g15,trivial⟩) (fun g15=>dB rfl rfl) (ad.iJ h rfl (aU (fun e=>by rw [e]; rfl) rfl rfl rfl rfl) (fun x_5 h=>?_))
 refine ad.aj ⟨[(0,_),(1,_),(4,_),(6,_),(36,B x_5)],[(101,_)]⟩ rfl (ab.ite h rfl (fun _ h=>?_) (fun _ h=>?_))
 ·refine ab.seq (ab.aa ?_)
  refine ad.ek aI h rfl (aV fB rfl rfl) (fun x_6 h=>?_)
  refine Oc (ag aC rfl rfl rfl rfl (Nat.le_of_ble_eq_true rfl) rfl) (Oc oa ?_)
  refine ad.aj ⟨[(4,_),(5,I 281)],[(101,.box 27 (aI x_6))]⟩ rfl (ab.ret (Fin.ar ?_))
  obtain rfl:=Option.some.inj h
  refine Fin.ah ⟨[(4,_),(5,_)],[(101,_)]⟩ rfl (Fin.aq [.agg (aI x_6),.one (.i 281)] (.inl rfl) rfl (.cons (.agg aC rfl rfl rfl rfl) (.cons (.tmp rfl) .nil)) ⟨rfl,rfl⟩)
 ·refine ab.skip (Fin.ah ⟨[(0,_),(1,_),(4,_),(6,_)],[(101,_)]⟩ rfl (Fin.then (ab.seq (ab.aa ?_))))
  obtain ⟨x_7,e16,h⟩:=aE h
  refine Oc (ae (mS e16) tX rfl rfl) ?_
  obtain ⟨x_8,e17,h⟩:=aE h
  refine Oc (ae (mS e17) tX rfl rfl) (ad.ah ⟨[(0,_),(1,_),(4,_),(6,_),(38,.b (.agg (aI x_7))),(39,.b (.agg (aI x_8)))],[(101,_)]⟩ rfl ?_)
  obtain ⟨x_9,e18,h⟩:=aE h
  refine Oc (ae (mS e18) tX rfl rfl) (Oc (aA (k:=102) bO rfl) (Oc (aA (k:=103) bO rfl) (Oc (aA (k:=104) bO rfl) ?_)))
  refine ad.ah ⟨[(0,_),(1,_),(4,_),(6,_),(7,Pt 102 0),(8,Pt 103 0),(9,Pt 104 0),(38,_),(39,_),(40,.b (.agg (aI x_9)))],[(101,_),(102,.box 27 eh),(103,.box 27 eh),(104,.box 27 eh)]⟩ rfl (Oc (ag aC rfl rfl rfl rfl (Nat.le_of_ble_eq_true rfl) rfl) (Oc (ag aC rfl rfl rfl rfl (Nat.le_of_ble_eq_true rfl) rfl) (Oc (ag aC rfl rfl rfl rfl (Nat.le_of_ble_eq_true rfl) rfl) ?_)))
  refine ad.aj ⟨[(0,_),(1,_),(4,_),(6,_),(7,_),(8,_),(9,_)],[(101,_),(102,.box 27 (aI x_7)),(103,.box 27 (aI x_8)),(104,.box 27 (aI x_9))]⟩ rfl ?_
  obtain ⟨v19,h20,h⟩:=aE h
  refine ab.cB (v:=v19) (b7 fun (x_10:bN) (scale_11:bN)=>⟨[(4,Pt 101 0),(6,B x_2),(7,Pt 102 0),(8,Pt 103 0)],[(101,.box 27 eh),(102,.box 27 (aI x_10)),(103,.box 27 (aI scale_11))]⟩) (fun z=>z) ?_ ?_
  ·refine ab.seq (ab.aa ?_)
   refine Oc om (Oc om ?_)
   obtain ⟨x_12,e21,h20⟩:=aE h20
   refine Oc (cK e21 rfl rfl) (Oc (nU (k:=105) eg rfl rfl) ?_)
   refine ad.aj ⟨[(0,_),(4,_),(6,_),(7,_),(8,_),(9,_),(44,Pt 105 0)],[(101,_),(102,_),(103,_),(104,_),(105,.s8 x_12 0)]⟩ rfl (ab.block (ab.cS h20 (kA fun (x_13:bN) (scale_14:bN) (xp_15:Nat)=>⟨[(0,.b (.one (.str x_1))),(4,Pt 101 0),(6,B x_2),(7,Pt 102 0),(8,Pt 103 0),(9,Pt 104 0),(44,Pt 105 0)],[(101,.box 27 eh),(102,.box 27 (aI x_13)),(103,.box 27 (aI scale_14)),(104,.box 27 (aI x_9)),(105,.s8 x_12 xp_15)]⟩) [0,4,6,7,8,9,44] [101,102,103,104,105] rfl ?_))
   rintro ⟨x_13,scale_14,xp_15⟩ o22 h23 hy24
   refine ab.seq (ab.aa ?_)
   refine ad.ite h23 (fun hc25 h23=>?_) (fun hc25 h23=>?_)
   ·refine Oc (oZ rfl rfl (of_decide_eq_true hc25)) (Oc (ay rfl rfl) ?_)
    refine ad.aj ⟨[(0,_),(4,_),(6,_),(7,_),(8,_),(9,_),(44,_),(45,.fE [.one (.bool true),.one (.i (xp_15:Nat)),.one (.int .i32 (gx x_12 xp_15))]),(46,B true)],[(101,_),(102,_),(103,_),(104,_),(105,.s8 x_12 (fY x_12 xp_15))]⟩ rfl (ab.seq (ab.Ae rfl (ab.skip (Fin.ah ⟨[(0,_),(4,_),(6,_),(7,_),(8,_),(9,_),(44,_),(45,_)],[(101,_),(102,_),(103,_),(104,_),(105,_)]⟩ rfl (Fin.then (ab.block (ab.seq (ab.aa ?_))))))))
    refine Oc (ay rfl rfl) (Oc (ay rfl rfl) (Oc oa (Oc oa ?_)))
    refine ad.aj ⟨[(0,_),(4,_),(6,_),(7,_),(8,_),(9,_),(10,I (xp_15:Nat)),(11,.b (.one (.int .i32 (gx x_12 xp_15)))),(44,_)],[(101,_),(102,_),(103,_),(104,_),(105,_)]⟩ rfl (ab.seq (ab.aa ?_))
    refine Oc (lp aC) (Oc (lp aC) ?_)
    obtain ⟨x_18,e26,h23⟩:=aE h23
    refine Oc (ae (nK e26) vO rfl rfl) (Oc om ?_)
    refine ad.cp .i32 h23 rfl (bX rfl rfl) (fun x_19 h23=>?_)
    refine ad.ah ⟨[(0,_),(4,_),(6,_),(7,_),(8,_),(9,_),(10,_),(44,_),(51,.b (.agg (aI x_18))),(53,.b (.one (.int .i32 x_19)))],[(101,_),(102,_),(103,_),(104,_),(105,_)]⟩ rfl (Oc (aF Cs lc rfl) ?_)
    obtain ⟨x_20,e27,h23⟩:=aE h23
    refine Oc (ae (mS e27) tX rfl rfl) ?_
    obtain ⟨x_21,e28,h23⟩:=aE h23
    refine Oc (ae (qK e28) y7 rfl rfl) (Oc (ag aC rfl rfl rfl rfl (Nat.le_of_ble_eq_true rfl) rfl) ?_)
    refine ad.aj ⟨[(0,_),(4,_),(6,_),(7,_),(8,_),(9,_),(10,_),(44,_)],[(101,_),(102,.box 27 (aI x_21)),(103,_),(104,_),(105,_)]⟩ rfl (ab.seq (ab.aa ?_))
    refine Oc om (Oc om (Oc (b6 eg rfl) (Oc (fy rfl rfl) ?_)))
    refine ad.aj ⟨[(0,_),(4,_),(6,_),(7,_),(8,_),(9,_),(44,_),(60,B (decide ((x_1.length:Int) ≤ (xp_15:Nat))))],[(101,_),(102,_),(103,_),(104,_),(105,_)]⟩ rfl (ab.ite h23 rfl (fun _ h23=>?_) (fun _ h23=>?_))
    ·refine ab.aa (Oc (lp aC) (Oc (lp aC) ?_))
     obtain ⟨x_22,e29,h23⟩:=aE h23
     refine Oc (ae (nK e29) vO rfl rfl) (Oc (ag aC rfl rfl rfl rfl (Nat.le_of_ble_eq_true rfl) rfl) ?_)
     refine ad.nil (Fin.aH ?_)
     exact Fin.bR [0,4,6,7,8,9,44] [101,102,103,104,105] (x_21,x_22,fY x_12 xp_15) (Option.some.inj h23) rfl
    ·refine ab.skip (Fin.aH ?_)
     exact Fin.bR [0,4,6,7,8,9,44] [101,102,103,104,105] (x_21,scale_14,fY x_12 xp_15) (Option.some.inj h23) rfl
   ·refine Oc (oY rfl rfl (Nat.not_lt.1 (of_decide_eq_false hc25))) (Oc (ay rfl rfl) ?_)
    refine ad.aj ⟨[(0,_),(4,_),(6,_),(7,_),(8,_),(9,_),(44,_),(45,.fE [.one (.bool false)]),(46,B false)],[(101,_),(102,_),(103,_),(104,_),(105,_)]⟩ rfl (ab.seq (ab.xj rfl (ab.exit (Fin.aG ?_))))
    obtain rfl:=hy24 _ (Option.some.inj h23).symm
    refine Fin.aG (Fin.aY ?_)
    exact Fin.join [4,6,7,8] [101,102,103] (x_13,scale_14) rfl rfl
  ·rintro ⟨x_10,scale_11⟩ hv
   subst v19
   obtain ⟨v30,h31,h⟩:=aE h
   refine ab.cB (v:=v30) (fun (x_23:bN)=>⟨[(4,Pt 101 0),(7,Pt 102 0),(8,Pt 103 0)],[(101,.box 27 eh),(102,.box 27 (aI x_23)),(103,.box 27 (aI scale_11))]⟩) (fun z=>z) ?_ ?_
   ·refine ab.seq (ab.aa ?_)
    refine Oc om (ad.aj ⟨[(4,_),(7,_),(8,_),(64,B x_2)],[(101,_),(102,_),(103,_)]⟩ rfl (ab.ite h31 rfl (fun _ h31=>?_) (fun _ h31=>?_)))
    ·refine ab.aa (Oc (lp aC) ?_)
     obtain ⟨x_24,e32,h31⟩:=aE h31
     refine Oc (ae (uy e32) C2 rfl rfl) (Oc (ag aC rfl rfl rfl rfl (Nat.le_of_ble_eq_true rfl) rfl) ?_)
     refine ad.nil ?_
     exact Fin.join [4,7,8] [101,102,103] x_24 (Option.some.inj h31) rfl
    ·refine ab.skip ?_
     exact Fin.join [4,7,8] [101,102,103] x_10 (Option.some.inj h31) rfl
   ·rintro x_23 hv
    subst v30
    refine ab.seq (ab.aa ?_)
    refine Oc (lp aC) (Oc (lp aC) ?_)
    obtain ⟨x_25,e33,h⟩:=aE h
    refine Oc (ae (qJ e33) y8 rfl rfl) (Oc (ag aC rfl rfl rfl rfl (Nat.le_of_ble_eq_true rfl) rfl) (Oc oa ?_))
    refine ad.aj ⟨[(4,_),(5,I 0)],[(101,.box 27 (aI x_25))]⟩ rfl (ab.ret ?_)
    obtain rfl:=Option.some.inj h
    refine Fin.ah ⟨[(4,_),(5,_)],[(101,_)]⟩ rfl (Fin.aq [.agg (aI x_25),.one (.i 0)] (.inl rfl) rfl (.cons (.agg aC rfl rfl rfl rfl) (.cons (.tmp rfl) .nil)) ⟨rfl,rfl⟩)
def kV (F:Nat) (s0:bg):Option (bt × Int) :=
 Option.bind ((bA (decide (0 < (s0.length:Int))) (bB s0 0)).bind fun x_2=>bD ((decide (0 < (s0.length:Int))) && (decide ((x_2.toNat:Int) = 45))) fun x_3=>if x_3 = true then ((ld s0 1).bind fun x_4=>some x_4) else (some s0)) (fun digits_1=>(bA (!(decide (digits_1 = []))) (bB digits_1 0)).bind fun x_5=>bD ((decide (digits_1 = [])) || ((decide ((x_5.toNat:Int) = 48)) && (decide (s0 ≠ [48])))) fun x_6=>if x_6 = true then ((fV F).bind fun x_7=>some (x_7,281)) else (Option.bind (iter F (fun x_8=>if (decide (x_8 < ((ofStr digits_1).length:Int))) = true then ((bB (ofStr digits_1) x_8).bind fun x_9=>if ((decide (x_9 < 48)) || (decide (57 < x_9))) = true then ((fV F).bind fun x_10=>some (.inr (.inr (x_10,281)))) else (some (.inl (IntKind.i64.wrap (x_8 + 1))))) else (some (.inr (.inl ())))) 0) (j4 (fun _=>if (decide (512 < (digits_1.length:Int))) = true then ((fV F).bind fun x_11=>some (x_11,30)) else ((ja F 0).bind fun x_12=>(ja F 10).bind fun x_13=>Option.bind (iter F (b7 fun x_15 x_16=>if (decide (x_16 < ((ofStr digits_1).length:Int))) = true then ((bB (ofStr digits_1) x_16).bind fun x_18=>(jt F x_15 x_13).bind fun x_19=>bD (IntKind.i64.wrap (IntKind.u8.wrap (x_18 - 48))) fun x_20=>(ja F x_20).bind fun x_21=>(nn F x_19 x_21).bind fun x_22=>some (.inl (x_22,IntKind.i64.wrap (x_16 + 1)))) else (some (.inr x_15))) (x_12,0)) (fun x_14=>if x_14.Bad = true then (some (x_14,30)) else ((cL F (decide (digits_1 ≠ s0)) x_14.W).bind fun x_23=>some (x_23,0))))) (fun y=>some y))))
theorem rF {F:Nat} {s0:bg} {r:bt × Int} (h:kV F s0 = some r):az Tryz.prog (bj mx) 121 [] [.one (.str s0)] (Is [] (.fE [.agg (au r.1),.one (.i r.2)])):=by
 unfold kV at h
 refine az.intro 80 Tryz.func121 Tryz.ntmps121 rfl (by simp) fun E=>?_
 show ab _ E ⟨80,[],[]⟩ _ ⟨[(0,.b (.one (.str s0)))],[]⟩ _
 refine ab.seq (ab.aa ?_)
 refine Oc (aA (k:=101) bx rfl) (Oc oa ?_)
 refine ad.aj ⟨[(0,.b (.one (.str s0))),(2,Pt 101 0)],[(101,.box 25 cO)]⟩ rfl (ab.seq (ab.aa ?_))
 refine Oc om (Oc oa ?_)
 refine ad.aj ⟨[(0,_),(2,_),(4,.b (.one (.str s0)))],[(101,_)]⟩ rfl ?_
 obtain ⟨v1,h2,h⟩:=aE h
 refine ab.cB (v:=v1) (fun (digits_1:bg)=>⟨[(0,.b (.one (.str s0))),(2,Pt 101 0),(4,.b (.one (.str digits_1)))],[(101,.box 25 cO)]⟩) (fun z=>z) ?_ ?_
 ·refine ab.seq (ab.aa ?_)
  refine Oc om (Oc (b6 eg rfl) (Oc (dB rfl rfl) (Oc om ?_)))
  refine bU (decide (0 < (s0.length:Int))) [] (fun g3=>trivial) (fun g3=>om) ?_
  obtain ⟨x_2,e5,h2⟩:=aE h2
  refine bU (decide (0 < (s0.length:Int))) [16] (fun g4=>⟨g4,trivial⟩) (fun g4=>cf eg rfl rfl (bp (gc e5 g4)) (gf (gc e5 g4))) (bU (decide (0 < (s0.length:Int))) [17] (fun g6=>⟨g6,trivial⟩) (fun g6=>cy rfl rfl) (ad.iJ h2 rfl (aD (fun e=>e) rfl rfl rfl rfl) (fun x_3 h2=>?_)))
  refine ad.aj ⟨[(0,_),(2,_),(4,_),(19,B x_3)],[(101,_)]⟩ rfl (ab.ite h2 rfl (fun _ h2=>?_) (fun _ h2=>?_))
  ·refine ab.aa (Oc om ?_)
   obtain ⟨x_4,e7,h2⟩:=aE h2
   refine Oc (gk eg e7 rfl rfl) (Oc oa ?_)
   refine ad.nil ?_
   exact Fin.join [0,2,4] [101] x_4 (Option.some.inj h2) rfl
  ·refine ab.skip ?_
   exact Fin.join [0,2,4] [101] s0 (Option.some.inj h2) rfl
 ·rintro digits_1 hv
  subst v1
  refine ab.seq (ab.seq (ab.aa ?_))
  refine Oc om (Oc (bh rfl rfl) (Oc om ?_))
  refine cN (!(decide (digits_1 = []))) [] (fun g8=>trivial) (fun g8=>om) ?_
  obtain ⟨x_5,e10,h⟩:=aE h
  refine cN (!(decide (digits_1 = []))) [25] (fun g9=>⟨g9,trivial⟩) (fun g9=>cf eg rfl rfl (bp (gc e10 g9)) (gf (gc e10 g9))) (cN (!(decide (digits_1 = []))) [26] (fun g11=>⟨g11,trivial⟩) (fun g11=>cy rfl rfl) (cN (!(decide (digits_1 = []))) [27] (fun g12=>⟨g12,trivial⟩) (fun g12=>om) (ad.ah ⟨[(0,_),(2,_),(4,_),(24,B (decide (digits_1 = []))),(28,.dA (!(decide (digits_1 = []))) (.one (.bool (decide ((x_5.toNat:Int) = 48)))))],[(101,_)]⟩ rfl (ad.dy ((!(decide (digits_1 = []))) && (decide ((x_5.toNat:Int) = 48))) 99 [] (.under rfl) (gu _ _) rfl rfl (fun g13=>by exact trivial) (fun g13=>om) (ad.dy ((!(decide (digits_1 = []))) && (decide ((x_5.toNat:Int) = 48))) 99 [29] (.under rfl) (gu _ _) rfl rfl (fun g14=>by exact ⟨g14,trivial⟩) (fun g14=>qL rfl rfl) ?_)))))
  refine cN (!(decide (digits_1 = []))) [28] (fun g15=>⟨g15,trivial⟩) (fun g15=>aD (fun e=>by rw [g15,e]; rfl) rfl rfl rfl rfl) (ad.iJ h rfl (aU (fun e=>by rw [e]; rfl) rfl rfl rfl rfl) (fun x_6 h=>?_))
  refine ad.aj ⟨[(0,_),(2,_),(4,_),(32,B x_6)],[(101,_)]⟩ rfl (ab.ite h rfl (fun _ h=>?_) (fun _ h=>?_))
  ·refine ab.seq (ab.aa ?_)
   obtain ⟨x_7,e16,h⟩:=aE h
   refine Oc (ae (ec e16) iu rfl rfl) (Oc (ag ao rfl rfl rfl rfl (Nat.le_of_ble_eq_true rfl) rfl) (Oc oa ?_))
   refine ad.aj ⟨[(2,_),(3,I 281)],[(101,.box 25 (au x_7))]⟩ rfl (ab.ret (Fin.ar ?_))
   obtain rfl:=Option.some.inj h
   refine Fin.ah ⟨[(2,_),(3,_)],[(101,_)]⟩ rfl (Fin.aq [.agg (au x_7),.one (.i 281)] (.inl rfl) rfl (.cons (.agg ao rfl rfl rfl rfl) (.cons (.tmp rfl) .nil)) ⟨rfl,rfl⟩)
  ·refine ab.skip (Fin.ah ⟨[(0,_),(2,_),(4,_)],[(101,_)]⟩ rfl (Fin.then ?_))
   obtain ⟨v17,h18,h⟩:=aE h
   refine ab.cB (v:=v17) (fun (_:Unit)=>⟨[(0,.b (.one (.str s0))),(2,Pt 101 0),(4,.b (.one (.str digits_1)))],[(101,.box 25 cO)]⟩) (fun z=>.inl z) ?_ ?_
   ·refine ab.seq (ab.aa ?_)
    refine Oc om (Oc (sL eg zY u4 rfl) (Oc (b8 zY rfl (List.length_map _)) (Oc om ?_)))
    refine ad.aj ⟨[(0,_),(2,_),(4,_),(35,.b (.one (.sl 1 ((ofStr digits_1).map (eK .u8))))),(36,I ((ofStr digits_1).length:Int)),(37,I 0)],[(101,_)]⟩ rfl (ab.block (ab.cS h18 (fun (x_8:Int)=>⟨[(0,.b (.one (.str s0))),(2,Pt 101 0),(4,.b (.one (.str digits_1))),(35,.b (.one (.sl 1 ((ofStr digits_1).map (eK .u8))))),(36,I ((ofStr digits_1).length:Int)),(37,I x_8)],[(101,.box 25 cO)]⟩) [0,2,4,35,36,37] [101] rfl ?_))
    rintro x_8 o19 h20 hy21
    refine ab.seq (ab.aa ?_)
    refine Oc (bK rfl rfl) (ad.aj ⟨[(0,_),(2,_),(4,_),(35,_),(36,_),(37,_),(38,B (decide (x_8 < ((ofStr digits_1).length:Int))))],[(101,_)]⟩ rfl (ab.seq (ab.ite h20 rfl (fun _ h20=>?_) (fun _ h20=>?_))))
    ·refine ab.skip (Fin.ah ⟨[(0,_),(2,_),(4,_),(35,_),(36,_),(37,_)],[(101,_)]⟩ rfl (Fin.then (ab.seq (ab.block (ab.seq (ab.aa ?_))))))
     obtain ⟨x_9,e22,h20⟩:=aE h20
     refine Oc (ef Ct (bp e22) (fZ (e:=(eK .u8)) e22) rfl rfl) (Oc (fk Cu rfl rfl) (Oc oa ?_))
     refine ad.aj ⟨[(0,_),(2,_),(4,_),(6,.b (.one (.int .u8 x_9))),(35,_),(36,_),(37,_)],[(101,_)]⟩ rfl (ab.seq (ab.aa ?_))
     refine Oc om (Oc (bK rfl rfl) (Oc om ?_))
     refine cN (!(decide (x_9 < 48))) [] (fun g23=>trivial) (fun g23=>om) (cN (!(decide (x_9 < 48))) [44] (fun g24=>by exact ⟨g24,trivial⟩) (fun g24=>dB rfl rfl) (Oc (aU (fun e=>by rw [e]; rfl) rfl rfl rfl rfl) (ad.aj ⟨[(0,_),(2,_),(4,_),(35,_),(36,_),(37,_),(46,B ((decide (x_9 < 48)) || (decide (57 < x_9))))],[(101,_)]⟩ rfl (ab.ite h20 rfl (fun _ h20=>?_) (fun _ h20=>?_)))))
     ·refine ab.seq (ab.aa ?_)
      obtain ⟨x_10,e25,h20⟩:=aE h20
      refine Oc (ae (ec e25) iu rfl rfl) (Oc (ag ao rfl rfl rfl rfl (Nat.le_of_ble_eq_true rfl) rfl) (Oc oa ?_))
      refine ad.aj ⟨[(2,_),(3,I 281)],[(101,.box 25 (au x_10))]⟩ rfl (ab.ret (Fin.aL (Fin.ar ?_)))
      obtain rfl:=hy21 _ (Option.some.inj h20).symm
      refine Fin.ar (Fin.aL (Fin.ar ?_))
      obtain rfl:=Option.some.inj h
      refine Fin.ah ⟨[(2,_),(3,_)],[(101,_)]⟩ rfl (Fin.aq [.agg (au x_10),.one (.i 281)] (.inl rfl) rfl (.cons (.agg ao rfl rfl rfl rfl) (.cons (.tmp rfl) .nil)) ⟨rfl,rfl⟩)
     ·refine ab.skip (Fin.aH (Fin.ah ⟨[(0,_),(2,_),(4,_),(35,_),(36,_),(37,_)],[(101,_)]⟩ rfl (Fin.then (ab.aa ?_))))
      refine Oc (bb rfl rfl) (Oc om ?_)
      refine ad.nil ?_
      exact Fin.bR [0,2,4,35,36,37] [101] (IntKind.i64.wrap (x_8 + 1)) (Option.some.inj h20) rfl
    ·refine ab.exit (Fin.aG ?_)
     obtain rfl:=hy21 _ (Option.some.inj h20).symm
     refine Fin.aG (Fin.aY ?_)
     exact Fin.join [0,2,4] [101] () rfl rfl
   ·rintro _ hv
    subst v17
    refine ab.seq (ab.seq (ab.aa ?_))
    refine Oc om (Oc (b6 eg rfl) (Oc (dB rfl rfl) ?_))
    refine ad.aj ⟨[(0,_),(2,_),(4,_),(51,B (decide (512 < (digits_1.length:Int))))],[(101,_)]⟩ rfl (ab.ite h rfl (fun _ h=>?_) (fun _ h=>?_))
    ·refine ab.seq (ab.aa ?_)
     obtain ⟨x_11,e26,h⟩:=aE h
     refine Oc (ae (ec e26) iu rfl rfl) (Oc (ag ao rfl rfl rfl rfl (Nat.le_of_ble_eq_true rfl) rfl) (Oc oa ?_))
     refine ad.aj ⟨[(2,_),(3,I 30)],[(101,.box 25 (au x_11))]⟩ rfl (ab.ret (Fin.ar ?_))
     obtain rfl:=Option.some.inj h
     refine Fin.ah ⟨[(2,_),(3,_)],[(101,_)]⟩ rfl (Fin.aq [.agg (au x_11),.one (.i 30)] (.inl rfl) rfl (.cons (.agg ao rfl rfl rfl rfl) (.cons (.tmp rfl) .nil)) ⟨rfl,rfl⟩)
    ·refine ab.skip (Fin.ah ⟨[(0,_),(2,_),(4,_)],[(101,_)]⟩ rfl (Fin.then (ab.seq (ab.aa ?_))))
     obtain ⟨x_12,e27,h⟩:=aE h
     refine Oc (ae (gO e27) mq rfl rfl) ?_
     obtain ⟨x_13,e28,h⟩:=aE h
     refine Oc (ae (gO e28) mq rfl rfl) (ad.ah ⟨[(0,_),(2,_),(4,_),(53,.b (.agg (au x_12))),(54,.b (.agg (au x_13)))],[(101,_)]⟩ rfl (Oc (aA (k:=102) bx rfl) (Oc (aA (k:=103) bx rfl) (Oc (ag ao rfl rfl rfl rfl (Nat.le_of_ble_eq_true rfl) rfl) (Oc (ag ao rfl rfl rfl rfl (Nat.le_of_ble_eq_true rfl) rfl) ?_)))))
     refine ad.aj ⟨[(0,_),(2,_),(4,_),(7,Pt 102 0),(8,Pt 103 0)],[(101,_),(102,.box 25 (au x_12)),(103,.box 25 (au x_13))]⟩ rfl ?_
     obtain ⟨v29,h30,h⟩:=aE h
     refine ab.cB (v:=v29) (fun (x_14:bt)=>⟨[(0,.b (.one (.str s0))),(2,Pt 101 0),(4,.b (.one (.str digits_1))),(7,Pt 102 0)],[(101,.box 25 cO),(102,.box 25 (au x_14))]⟩) (fun z=>z) ?_ ?_
     ·refine ab.seq (ab.aa ?_)
      refine Oc om (Oc (sL eg zY u4 rfl) (Oc (b8 zY rfl (List.length_map _)) (Oc om ?_)))
      refine ad.aj ⟨[(0,_),(2,_),(4,_),(7,_),(8,_),(56,.b (.one (.sl 1 ((ofStr digits_1).map (eK .u8))))),(57,I ((ofStr digits_1).length:Int)),(58,I 0)],[(101,_),(102,_),(103,_)]⟩ rfl (ab.block (ab.cS h30 (b7 fun (x_15:bt) (x_16:Int)=>⟨[(0,.b (.one (.str s0))),(2,Pt 101 0),(4,.b (.one (.str digits_1))),(7,Pt 102 0),(8,Pt 103 0),(56,.b (.one (.sl 1 ((ofStr digits_1).map (eK .u8))))),(57,I ((ofStr digits_1).length:Int)),(58,I x_16)],[(101,.box 25 cO),(102,.box 25 (au x_15)),(103,.box 25 (au x_13))]⟩) [0,2,4,7,8,56,57,58] [101,102,103] rfl ?_))
      rintro ⟨x_15,x_16⟩ o31 h32 hy33
      refine ab.seq (ab.aa ?_)
      refine Oc (bK rfl rfl) (ad.aj ⟨[(0,_),(2,_),(4,_),(7,_),(8,_),(56,_),(57,_),(58,_),(59,B (decide (x_16 < ((ofStr digits_1).length:Int))))],[(101,_),(102,_),(103,_)]⟩ rfl (ab.seq (ab.ite h32 rfl (fun _ h32=>?_) (fun _ h32=>?_))))
      ·refine ab.skip (Fin.ah ⟨[(0,_),(2,_),(4,_),(7,_),(8,_),(56,_),(57,_),(58,_)],[(101,_),(102,_),(103,_)]⟩ rfl (Fin.then (ab.seq (ab.block (ab.seq (ab.aa ?_))))))
       obtain ⟨x_18,e34,h32⟩:=aE h32
       refine Oc (ef Ct (bp e34) (fZ (e:=(eK .u8)) e34) rfl rfl) (Oc (fk Cu rfl rfl) (Oc oa ?_))
       refine ad.aj ⟨[(0,_),(2,_),(4,_),(7,_),(8,_),(10,.b (.one (.int .u8 x_18))),(56,_),(57,_),(58,_)],[(101,_),(102,_),(103,_)]⟩ rfl (ab.aa (Oc (lp ao) (Oc (lp ao) ?_)))
       obtain ⟨x_19,e35,h32⟩:=aE h32
       refine Oc (ae (eE e35) kr rfl rfl) (Oc om (Oc (bX rfl rfl) ?_))
       refine ad.ah ⟨[(0,_),(2,_),(4,_),(7,_),(8,_),(56,_),(57,_),(58,_),(64,.b (.agg (au x_19))),(66,.b (.one (.int .u8 (IntKind.u8.wrap (x_18 - 48)))))],[(101,_),(102,_),(103,_)]⟩ rfl (ad.cp .i64 h32 rfl (aF u4 lc rfl) (fun x_20 h32=>?_))
       obtain ⟨x_21,e36,h32⟩:=aE h32
       refine Oc (ae (gO e36) mq rfl rfl) ?_
       obtain ⟨x_22,e37,h32⟩:=aE h32
       refine Oc (ae (qD e37) yZ rfl rfl) (Oc (ag ao rfl rfl rfl rfl (Nat.le_of_ble_eq_true rfl) rfl) ?_)
       refine ad.nil (Fin.aH (Fin.ah ⟨[(0,_),(2,_),(4,_),(7,_),(8,_),(56,_),(57,_),(58,_)],[(101,_),(102,.box 25 (au x_22)),(103,_)]⟩ rfl (Fin.then (ab.aa ?_))))
       refine Oc (bb rfl rfl) (Oc om ?_)
       refine ad.nil ?_
       exact Fin.bR [0,2,4,7,8,56,57,58] [101,102,103] (x_22,IntKind.i64.wrap (x_16 + 1)) (Option.some.inj h32) rfl
      ·refine ab.exit (Fin.aG ?_)
       obtain rfl:=hy33 _ (Option.some.inj h32).symm
       refine Fin.aG (Fin.aY ?_)
       exact Fin.join [0,2,4,7] [101,102] x_15 rfl rfl
     ·rintro x_14 hv
      subst v29
      refine ab.seq (ab.seq (ab.aa ?_))
      refine Oc (af ji rfl rfl) (Oc (ax cC rfl rfl rfl) ?_)
      refine ad.aj ⟨[(0,_),(2,_),(4,_),(7,_),(72,B x_14.Bad)],[(101,_),(102,_)]⟩ rfl (ab.ite h rfl (fun _ h=>?_) (fun _ h=>?_))
      ·refine ab.seq (ab.aa ?_)
       refine Oc (lp ao) (Oc (ag ao rfl rfl rfl rfl (Nat.le_of_ble_eq_true rfl) rfl) (Oc oa ?_))
       refine ad.aj ⟨[(2,_),(3,I 30)],[(101,.box 25 (au x_14))]⟩ rfl (ab.ret (Fin.ar ?_))
       obtain rfl:=Option.some.inj h
       refine Fin.ah ⟨[(2,_),(3,_)],[(101,_)]⟩ rfl (Fin.aq [.agg (au x_14),.one (.i 30)] (.inl rfl) rfl (.cons (.agg ao rfl rfl rfl rfl) (.cons (.tmp rfl) .nil)) ⟨rfl,rfl⟩)
      ·refine ab.skip (Fin.ah ⟨[(0,_),(2,_),(4,_),(7,_)],[(101,_),(102,_)]⟩ rfl (Fin.then (ab.seq (ab.aa ?_))))
       refine Oc om (Oc om (Oc (qL rfl rfl) (Oc (af ba rfl rfl) (Oc (lp aK) ?_))))
       refine ad.ah ⟨[(2,_),(76,B (decide (digits_1 ≠ s0))),(78,.b (.agg (eW x_14.W)))],[(101,_)]⟩ rfl ?_
       obtain ⟨x_23,e38,h⟩:=aE h
       refine Oc (ae (cJ e38) iw rfl rfl) (Oc (ag ao rfl rfl rfl rfl (Nat.le_of_ble_eq_true rfl) rfl) (Oc oa ?_))
       refine ad.aj ⟨[(2,_),(3,I 0)],[(101,.box 25 (au x_23))]⟩ rfl (ab.ret ?_)
       obtain rfl:=Option.some.inj h
       refine Fin.ah ⟨[(2,_),(3,_)],[(101,_)]⟩ rfl (Fin.aq [.agg (au x_23),.one (.i 0)] (.inl rfl) rfl (.cons (.agg ao rfl rfl rfl rfl) (.cons (.tmp rfl) .nil)) ⟨rfl,rfl⟩)
def mR (F:Nat) (s0:bg):Option (bN × Int) :=
 Option.bind (dz F s0 [47]) (kA fun x_1 x_2 x_3=>(kH F).bind fun x_4=>bD (⟨(⟨false,false,aP.zero⟩:bt),x_4⟩:bN) fun x_5=>Option.bind (kV F x_1) (b7 fun x_6 x_7=>Option.bind (if x_3 = true then (Option.bind (kV F x_2) (b7 fun x_10 x_11=>some ((⟨x_6,x_10⟩:bN),x_11))) else (some ((⟨x_6,x_5.D⟩:bN),0))) (b7 fun x_8 f_9=>(bA (((!((decide (x_7 = 281)) || (decide (f_9 = 281)))) && x_3) && !((decide (x_2 = [48])) || (decide (x_2 = [49])))) (dM F x_2 [45])).bind fun x_12=>bD (((decide (x_7 = 281)) || (decide (f_9 = 281))) || (x_3 && (((decide (x_2 = [48])) || (decide (x_2 = [49]))) || x_12))) fun x_13=>if x_13 = true then ((im F).bind fun x_14=>some (x_14,281)) else (if ((decide (x_7 ≠ 0)) || (decide (f_9 ≠ 0))) = true then ((im F).bind fun x_15=>some (x_15,30)) else ((dE F x_8).bind fun x_16=>if (!x_16) = true then ((im F).bind fun x_17=>some (x_17,281)) else (some (x_8,0)))))))
theorem wV {F:Nat} {s0:bg} {r:bN × Int} (h:mR F s0 = some r):az Tryz.prog (bj mx) 61 [] [.one (.str s0)] (Is [] (.fE [.agg (aI r.1),.one (.i r.2)])):=by
 unfold mR at h
 refine az.intro 68 Tryz.func61 Tryz.ntmps61 rfl (by simp) fun E=>?_
 show ab _ E ⟨68,[],[]⟩ _ ⟨[(0,.b (.one (.str s0)))],[]⟩ _
 refine ab.seq (ab.aa ?_)
 refine Oc (aA (k:=101) bO rfl) (Oc oa ?_)
 refine ad.aj ⟨[(0,.b (.one (.str s0))),(2,Pt 101 0)],[(101,.box 27 eh)]⟩ rfl (ab.seq (ab.aa ?_))
 refine Oc om ?_
 obtain ⟨⟨x_1,x_2,x_3⟩,e1,h⟩:=aE h
 refine Oc (ae (jR e1) y5 rfl rfl) (Oc om (Oc (ay rfl rfl) (Oc (ay rfl rfl) ?_)))
 refine ad.ah ⟨[(2,_),(10,.fE [.one (.str x_1),.one (.str x_2),.one (.bool x_3)]),(13,.b (.one (.str x_1))),(14,.b (.one (.str x_2)))],[(101,_)]⟩ rfl (Oc (ay rfl rfl) (Oc oa (Oc oa (Oc oa ?_))))
 refine ad.aj ⟨[(2,_),(4,.b (.one (.str x_1))),(5,.b (.one (.str x_2))),(6,B x_3)],[(101,_)]⟩ rfl (ab.seq (ab.aa ?_))
 obtain ⟨x_4,e2,h⟩:=aE h
 refine Oc (ae (lJ e2) tU rfl rfl) (ad.ek aI h rfl (aV fB rfl rfl) (fun x_5 h=>?_))
 refine Oc (aA (k:=102) bO rfl) (Oc (ag aC rfl rfl rfl rfl (Nat.le_of_ble_eq_true rfl) rfl) ?_)
 refine ad.aj ⟨[(2,_),(4,_),(5,_),(6,_),(7,Pt 102 0)],[(101,_),(102,.box 27 (aI x_5))]⟩ rfl (ab.seq (ab.aa ?_))
 refine Oc oa (Oc oa ?_)
 refine ad.aj ⟨[(2,_),(4,_),(5,_),(6,_),(7,_),(9,I 0)],[(101,_),(102,_)]⟩ rfl (ab.seq (ab.aa ?_))
 refine Oc om ?_
 obtain ⟨⟨x_6,x_7⟩,e3,h⟩:=aE h
 refine Oc (ae (rF e3) A0 rfl rfl) (Oc om (Oc (ay rfl rfl) (Oc (ay rfl rfl) ?_)))
 refine ad.ah ⟨[(2,_),(5,_),(6,_),(7,_),(9,_),(21,.b (.agg (au x_6))),(22,I x_7)],[(101,_),(102,_)]⟩ rfl (Oc (af bF rfl rfl) (Oc (ag ao rfl rfl rfl rfl (Nat.le_of_ble_eq_true rfl) rfl) (Oc oa ?_)))
 refine ad.aj ⟨[(2,_),(5,_),(6,_),(7,_),(8,I x_7),(9,_)],[(101,_),(102,.box 27 (au x_6 ++ (au x_5.D)))]⟩ rfl ?_
 obtain ⟨v4,h5,h⟩:=aE h
 refine ab.cB (v:=v4) (b7 fun (x_8:bN) (f_9:Int)=>⟨[(2,Pt 101 0),(5,.b (.one (.str x_2))),(6,B x_3),(7,Pt 102 0),(8,I x_7),(9,I f_9)],[(101,.box 27 eh),(102,.box 27 (aI x_8))]⟩) (fun z=>z) ?_ ?_
 ·refine ab.seq (ab.aa ?_)
  refine Oc om (ad.aj ⟨[(2,_),(5,_),(6,_),(7,_),(8,_),(9,_),(24,B x_3)],[(101,_),(102,_)]⟩ rfl (ab.ite h5 rfl (fun _ h5=>?_) (fun _ h5=>?_)))
  ·refine ab.aa (Oc om ?_)
   obtain ⟨⟨x_10,x_11⟩,e6,h5⟩:=aE h5
   refine Oc (ae (rF e6) A0 rfl rfl) (Oc om (Oc (ay rfl rfl) (Oc (ay rfl rfl) ?_)))
   refine ad.ah ⟨[(2,_),(5,_),(6,_),(7,_),(8,_),(9,_),(28,.b (.agg (au x_10))),(29,I x_11)],[(101,_),(102,_)]⟩ rfl (Oc (af bm rfl rfl) (Oc (ag ao rfl rfl rfl rfl (Nat.le_of_ble_eq_true rfl) rfl) (Oc oa ?_)))
   refine ad.nil ?_
   exact Fin.join [2,5,6,7,8,9] [101,102] ((⟨x_6,x_10⟩:bN),x_11) (Option.some.inj h5) rfl
  ·refine ab.skip ?_
   exact Fin.join [2,5,6,7,8,9] [101,102] ((⟨x_6,x_5.D⟩:bN),0) (Option.some.inj h5) rfl
 ·rintro ⟨x_8,f_9⟩ hv
  subst v4
  refine ab.seq (ab.block (ab.seq (ab.aa ?_)))
  refine Oc om (Oc (cy rfl rfl) (Oc om ?_))
  refine cN (!(decide (x_7 = 281))) [] (fun g7=>trivial) (fun g7=>om) (cN (!(decide (x_7 = 281))) [35] (fun g8=>by exact ⟨g8,trivial⟩) (fun g8=>cy rfl rfl) (Oc (aU (fun e=>by rw [e]; rfl) rfl rfl rfl rfl) (Oc om ?_)))
  refine ad.ah ⟨[(2,_),(5,_),(6,_),(7,_),(8,_),(9,_),(38,B ((decide (x_7 = 281)) || (decide (f_9 = 281))))],[(101,_),(102,_)]⟩ rfl (cN (!((decide (x_7 = 281)) || (decide (f_9 = 281)))) [] (fun g9=>trivial) (fun g9=>om) (cN (!((decide (x_7 = 281)) || (decide (f_9 = 281)))) [39] (fun g10=>by exact ⟨g10,trivial⟩) (fun g10=>om) (ad.dy ((!((decide (x_7 = 281)) || (decide (f_9 = 281)))) && x_3) 99 [] (.under rfl) (gu _ _) rfl rfl (fun g11=>by exact trivial) (fun g11=>om) (ad.dy ((!((decide (x_7 = 281)) || (decide (f_9 = 281)))) && x_3) 99 [41] (.under rfl) (gu _ _) rfl rfl (fun g12=>by exact ⟨g12,trivial⟩) (fun g12=>bh rfl rfl) (ad.dy ((!((decide (x_7 = 281)) || (decide (f_9 = 281)))) && x_3) 99 [42] (.under rfl) (gu _ _) rfl rfl (fun g13=>by exact ⟨g13,trivial⟩) (fun g13=>om) ?_)))))
  refine ad.dy (((!((decide (x_7 = 281)) || (decide (f_9 = 281)))) && x_3) && !(decide (x_2 = [48]))) 99 [] (.under rfl) (eZ _ _) rfl rfl (fun g14=>trivial) (fun g14=>om) (ad.dy (((!((decide (x_7 = 281)) || (decide (f_9 = 281)))) && x_3) && !(decide (x_2 = [48]))) 99 [44] (.under rfl) (eZ _ _) rfl rfl (fun g15=>⟨g15,trivial⟩) (fun g15=>bh rfl rfl) (ad.dy ((!((decide (x_7 = 281)) || (decide (f_9 = 281)))) && x_3) 99 [43] (.under rfl) (gu _ _) rfl rfl (fun g16=>⟨g16,trivial⟩) (fun g16=>aU (fun e=>by rw [g16,e]; rfl) rfl rfl rfl rfl) (ad.ah ⟨[(2,_),(5,_),(7,_),(8,_),(9,_),(38,_),(40,.dA (!((decide (x_7 = 281)) || (decide (f_9 = 281)))) (.one (.bool x_3))),(46,.dA ((!((decide (x_7 = 281)) || (decide (f_9 = 281)))) && x_3) (.one (.bool ((decide (x_2 = [48])) || (decide (x_2 = [49]))))))],[(101,_),(102,_)]⟩ rfl (ad.dy ((!((decide (x_7 = 281)) || (decide (f_9 = 281)))) && x_3) 99 [46] (.under rfl) (gu _ _) rfl rfl (fun g17=>⟨g17,trivial⟩) (fun g17=>om) (ad.dy (((!((decide (x_7 = 281)) || (decide (f_9 = 281)))) && x_3) && !((decide (x_2 = [48])) || (decide (x_2 = [49])))) 99 [] (.under rfl) (eZ _ _) rfl rfl (fun g18=>trivial) (fun g18=>om) ?_)))))
  obtain ⟨x_12,e20,h⟩:=aE h
  refine ad.dy (((!((decide (x_7 = 281)) || (decide (f_9 = 281)))) && x_3) && !((decide (x_2 = [48])) || (decide (x_2 = [49])))) 99 [48] (.under rfl) (eZ _ _) rfl rfl (fun g19=>⟨g19,trivial⟩) (fun g19=>ae (gF (gc e20 g19)) wA rfl rfl) (ad.dy ((!((decide (x_7 = 281)) || (decide (f_9 = 281)))) && x_3) 99 [47] (.under rfl) (gu _ _) rfl rfl (fun g21=>⟨g21,trivial⟩) (fun g21=>aU (fun e=>by rw [g21,e]; rfl) rfl rfl rfl rfl) (cN (!((decide (x_7 = 281)) || (decide (f_9 = 281)))) [40] (fun g22=>⟨g22,trivial⟩) (fun g22=>aD (fun e=>by rw [g22,e]; rfl) rfl rfl rfl rfl) (ad.iJ h rfl (aU (fun e=>by rw [e]; rfl) rfl rfl rfl rfl) (fun x_13 h=>?_))))
  refine Oc oa (ad.aj ⟨[(2,_),(7,_),(8,_),(9,_),(31,B x_13)],[(101,_),(102,_)]⟩ rfl (ab.ite h rfl (fun _ h=>?_) (fun _ h=>?_)))
  ·refine ab.seq (ab.aa ?_)
   obtain ⟨x_14,e23,h⟩:=aE h
   refine Oc (ae (gA e23) nj rfl rfl) (Oc (ag aC rfl rfl rfl rfl (Nat.le_of_ble_eq_true rfl) rfl) (Oc oa ?_))
   refine ad.aj ⟨[(2,_),(3,I 281)],[(101,.box 27 (aI x_14))]⟩ rfl (ab.ret (Fin.aL (Fin.ar ?_)))
   obtain rfl:=Option.some.inj h
   refine Fin.ah ⟨[(2,_),(3,_)],[(101,_)]⟩ rfl (Fin.aq [.agg (aI x_14),.one (.i 281)] (.inl rfl) rfl (.cons (.agg aC rfl rfl rfl rfl) (.cons (.tmp rfl) .nil)) ⟨rfl,rfl⟩)
  ·refine ab.seq (ab.aa ?_)
   refine Oc om (Oc (dY rfl rfl) (Oc om ?_))
   refine cN (!(decide (x_7 ≠ 0))) [] (fun g24=>trivial) (fun g24=>om) (cN (!(decide (x_7 ≠ 0))) [58] (fun g25=>by exact ⟨g25,trivial⟩) (fun g25=>dY rfl rfl) (Oc (aU (fun e=>by rw [e]; rfl) rfl rfl rfl rfl) (Oc oa ?_)))
   refine ad.aj ⟨[(2,_),(7,_),(54,B ((decide (x_7 ≠ 0)) || (decide (f_9 ≠ 0))))],[(101,_),(102,_)]⟩ rfl (ab.ite h rfl (fun _ h=>?_) (fun _ h=>?_))
   ·refine ab.seq (ab.aa ?_)
    obtain ⟨x_15,e26,h⟩:=aE h
    refine Oc (ae (gA e26) nj rfl rfl) (Oc (ag aC rfl rfl rfl rfl (Nat.le_of_ble_eq_true rfl) rfl) (Oc oa ?_))
    refine ad.aj ⟨[(2,_),(3,I 30)],[(101,.box 27 (aI x_15))]⟩ rfl (ab.ret (Fin.aL (Fin.ar ?_)))
    obtain rfl:=Option.some.inj h
    refine Fin.ah ⟨[(2,_),(3,_)],[(101,_)]⟩ rfl (Fin.aq [.agg (aI x_15),.one (.i 30)] (.inl rfl) rfl (.cons (.agg aC rfl rfl rfl rfl) (.cons (.tmp rfl) .nil)) ⟨rfl,rfl⟩)
   ·refine ab.seq (ab.aa ?_)
    refine Oc (lp aC) ?_
    obtain ⟨x_16,e27,h⟩:=aE h
    refine Oc (ae (dQ e27) kv rfl rfl) (Oc (bq rfl) (Oc oa ?_))
    refine ad.aj ⟨[(2,_),(7,_),(62,B (!x_16))],[(101,_),(102,_)]⟩ rfl (ab.ite h rfl (fun _ h=>?_) (fun _ h=>?_))
    ·refine ab.seq (ab.aa ?_)
     obtain ⟨x_17,e28,h⟩:=aE h
     refine Oc (ae (gA e28) nj rfl rfl) (Oc (ag aC rfl rfl rfl rfl (Nat.le_of_ble_eq_true rfl) rfl) (Oc oa ?_))
     refine ad.aj ⟨[(2,_),(3,I 281)],[(101,.box 27 (aI x_17))]⟩ rfl (ab.ret (Fin.aL (Fin.ar ?_)))
     obtain rfl:=Option.some.inj h
     refine Fin.ah ⟨[(2,_),(3,_)],[(101,_)]⟩ rfl (Fin.aq [.agg (aI x_17),.one (.i 281)] (.inl rfl) rfl (.cons (.agg aC rfl rfl rfl rfl) (.cons (.tmp rfl) .nil)) ⟨rfl,rfl⟩)
    ·refine ab.skip (Fin.aH (Fin.ah ⟨[(2,_),(7,_)],[(101,_),(102,_)]⟩ rfl (Fin.then (ab.seq (ab.aa ?_)))))
     refine Oc (lp aC) (Oc (ag aC rfl rfl rfl rfl (Nat.le_of_ble_eq_true rfl) rfl) (Oc oa ?_))
     refine ad.aj ⟨[(2,_),(3,I 0)],[(101,.box 27 (aI x_8))]⟩ rfl (ab.ret ?_)
     obtain rfl:=Option.some.inj h
     refine Fin.ah ⟨[(2,_),(3,_)],[(101,_)]⟩ rfl (Fin.aq [.agg (aI x_8),.one (.i 0)] (.inl rfl) rfl (.cons (.agg aC rfl rfl rfl rfl) (.cons (.tmp rfl) .nil)) ⟨rfl,rfl⟩)
def de (F:Nat) (l0:List aw):Option Bool :=
 Option.bind (iter F (fun x_1=>if (decide (x_1 < (l0.length:Int))) = true then ((bB l0 x_1).bind fun x_2=>(dE F x_2.V).bind fun x_3=>(bA (!(!x_3)) (dj F x_2.U)).bind fun x_4=>if ((!x_3) || (!x_4)) = true then (some (.inr (.inr false))) else (some (.inl (IntKind.i64.wrap (x_1 + 1))))) else (some (.inr (.inl ())))) 0) (j4 (fun _=>some true) (fun y=>some y))
theorem gX {F:Nat} {l0:List aw} {r:Bool} (h:de F l0 = some r):az Tryz.prog (bj mx) 54 [] [.one (.sl 39 (l0.map ap))] (Is [] (.b (.one (.bool r)))):=by
 unfold de at h
 refine az.intro 22 Tryz.func54 Tryz.ntmps54 rfl (by simp) fun E=>?_
 show ab _ E ⟨22,[],[]⟩ _ ⟨[(0,.b (.one (.sl 39 (l0.map ap))))],[]⟩ _
 refine ab.seq (ab.aa ?_)
 refine Oc oa (ad.aj ⟨[(0,.b (.one (.sl 39 (l0.map ap))))],[]⟩ rfl ?_)
 obtain ⟨v1,h2,h⟩:=aE h
 refine ab.cB (v:=v1) (fun (_:Unit)=>⟨[],[]⟩) (fun z=>.inl z) ?_ ?_
 ·refine ab.seq (ab.aa ?_)
  refine Oc om (Oc (b8 und120 rfl (List.length_map _)) (Oc om ?_))
  refine ad.aj ⟨[(5,.b (.one (.sl 39 (l0.map ap)))),(6,I (l0.length:Int)),(7,I 0)],[]⟩ rfl (ab.block (ab.cS h2 (fun (x_1:Int)=>⟨[(5,.b (.one (.sl 39 (l0.map ap)))),(6,I (l0.length:Int)),(7,I x_1)],[]⟩) [5,6,7] [] rfl ?_))
  rintro x_1 o3 h4 hy5
  refine ab.seq (ab.aa ?_)
  refine Oc (bK rfl rfl) (ad.aj ⟨[(5,_),(6,_),(7,_),(8,B (decide (x_1 < (l0.length:Int))))],[]⟩ rfl (ab.seq (ab.ite h4 rfl (fun _ h4=>?_) (fun _ h4=>?_))))
  ·refine ab.skip (Fin.ah ⟨[(5,_),(6,_),(7,_)],[]⟩ rfl (Fin.then (ab.seq (ab.block (ab.seq (ab.aa ?_))))))
   obtain ⟨x_2,e6,h4⟩:=aE h4
   refine Oc (ef qV (bp e6) (fZ (e:=ap) e6) rfl rfl) (Oc (vo aW rfl rfl rfl) (Oc (aA (k:=101) dD rfl) (Oc (ag aW rfl rfl rfl rfl (Nat.le_of_ble_eq_true rfl) rfl) ?_)))
   refine ad.aj ⟨[(4,Pt 101 0),(5,_),(6,_),(7,_)],[(101,.box 31 (ap x_2))]⟩ rfl (ab.seq (ab.aa ?_))
   refine Oc (af c9 rfl rfl) (Oc (lp aC) ?_)
   obtain ⟨x_3,e7,h4⟩:=aE h4
   refine Oc (ae (dQ e7) kv rfl rfl) (Oc (bq rfl) (Oc om ?_))
   refine ad.ah ⟨[(4,_),(5,_),(6,_),(7,_),(15,B (!x_3))],[(101,_)]⟩ rfl (cN (!(!x_3)) [] (fun g8=>trivial) (fun g8=>af c8 rfl rfl) (cN (!(!x_3)) [16] (fun g9=>⟨g9,trivial⟩) (fun g9=>lp bz) ?_))
   obtain ⟨x_4,e11,h4⟩:=aE h4
   refine cN (!(!x_3)) [17] (fun g10=>⟨g10,trivial⟩) (fun g10=>ae (gM (gc e11 g10)) tW rfl rfl) (cN (!(!x_3)) [18] (fun g12=>⟨g12,trivial⟩) (fun g12=>bq rfl) (Oc (aU (fun e=>by rw [e]; rfl) rfl rfl rfl rfl) (ad.aj ⟨[(5,_),(6,_),(7,_),(20,B ((!x_3) || (!x_4)))],[]⟩ rfl (ab.ite h4 rfl (fun _ h4=>?_) (fun _ h4=>?_)))))
   ·refine ab.seq (ab.aa ?_)
    refine Oc oa (ad.aj ⟨[(2,B false)],[]⟩ rfl (ab.ret (Fin.aL (Fin.ar ?_))))
    obtain rfl:=hy5 _ (Option.some.inj h4).symm
    refine Fin.ar (Fin.aL (Fin.ar ?_))
    obtain rfl:=Option.some.inj h
    refine Fin.ah ⟨[(2,_)],[]⟩ rfl (Fin.aq [.one (.bool false)] (.inl rfl) rfl (.cons (.tmp rfl) .nil) ⟨rfl,rfl⟩)
   ·refine ab.skip (Fin.aH (Fin.ah ⟨[(5,_),(6,_),(7,_)],[]⟩ rfl (Fin.then (ab.aa ?_))))
    refine Oc (bb rfl rfl) (Oc om ?_)
    refine ad.nil ?_
    exact Fin.bR [5,6,7] [] (IntKind.i64.wrap (x_1 + 1)) (Option.some.inj h4) rfl
  ·refine ab.exit (Fin.aG ?_)
   obtain rfl:=hy5 _ (Option.some.inj h4).symm
   refine Fin.aG (Fin.aY ?_)
   exact Fin.join [] [] () rfl rfl
 ·rintro _ hv
  subst v1
  refine ab.seq (ab.aa ?_)
  refine Oc oa (ad.aj ⟨[(2,B true)],[]⟩ rfl (ab.ret ?_))
  obtain rfl:=Option.some.inj h
  refine Fin.ah ⟨[(2,_)],[]⟩ rfl (Fin.aq [.one (.bool true)] (.inl rfl) rfl (.cons (.tmp rfl) .nil) ⟨rfl,rfl⟩)
def fD (F:Nat) (v0:bN) (u0:aX):Option (aw × Int) :=
 (dE F v0).bind fun x_1=>if (!x_1) = true then (bD (⟨(⟨(⟨false,false,aP.zero⟩:bt),(⟨false,false,aP.zero⟩:bt)⟩:bN),(⟨0,0,0⟩:aX)⟩:aw) fun x_2=>some (x_2,30)) else (some ((⟨v0,u0⟩:aw),0))
theorem lM {F:Nat} {v0:bN} {u0:aX} {r:aw × Int} (h:fD F v0 u0 = some r):az Tryz.prog (bj mx) 55 [] [.agg (aI v0),.agg (aZ u0)] (Is [] (.fE [.agg (ap r.1),.one (.i r.2)])):=by
 unfold fD at h
 refine az.intro 13 Tryz.func55 Tryz.ntmps55 rfl (by simp) fun E=>?_
 show ab _ E ⟨13,[],[]⟩ _ ⟨[(0,.b (.agg (aI v0))),(1,.b (.agg (aZ u0)))],[]⟩ _
 refine ab.seq (ab.aa ?_)
 refine Oc (aS (k:=101) rfl rfl) (Oc (aS (k:=102) rfl rfl) (Oc (aA (k:=103) dD rfl) (Oc oa ?_)))
 refine ad.aj ⟨[(2,Pt 101 0),(3,Pt 102 0),(4,Pt 103 0)],[(101,.box 27 (aI v0)),(102,.box 29 (aZ u0)),(103,.box 31 (.bool false :: .bool false :: (eW aP.zero ++ (.bool false :: .bool false :: (eW aP.zero ++ ([.i 0,.i 0,.i 0]))))))]⟩ rfl (ab.seq (ab.seq (ab.aa ?_)))
 refine Oc (lp aC) ?_
 obtain ⟨x_1,e1,h⟩:=aE h
 refine Oc (ae (dQ e1) kv rfl rfl) (Oc (bq rfl) ?_)
 refine ad.aj ⟨[(2,_),(3,_),(4,_),(8,B (!x_1))],[(101,_),(102,_),(103,_)]⟩ rfl (ab.ite h rfl (fun _ h=>?_) (fun _ h=>?_))
 ·refine ab.seq (ab.aa ?_)
  refine ad.ek ap h rfl (aV dI rfl rfl) (fun x_2 h=>?_)
  refine Oc (ag aW rfl rfl rfl rfl (Nat.le_of_ble_eq_true rfl) rfl) (Oc oa ?_)
  refine ad.aj ⟨[(4,_),(5,I 30)],[(103,.box 31 (ap x_2))]⟩ rfl (ab.ret (Fin.ar ?_))
  obtain rfl:=Option.some.inj h
  refine Fin.ah ⟨[(4,_),(5,_)],[(103,_)]⟩ rfl (Fin.aq [.agg (ap x_2),.one (.i 30)] (.inl rfl) rfl (.cons (.agg aW rfl rfl rfl rfl) (.cons (.tmp rfl) .nil)) ⟨rfl,rfl⟩)
 ·refine ab.skip (Fin.ah ⟨[(2,_),(3,_),(4,_)],[(101,_),(102,_),(103,_)]⟩ rfl (Fin.then (ab.seq (ab.aa ?_))))
  refine Oc (lp aC) (Oc (lp bz) (Oc (aV dI rfl rfl) (Oc (ag aW rfl rfl rfl rfl (Nat.le_of_ble_eq_true rfl) rfl) (Oc oa ?_))))
  refine ad.aj ⟨[(4,_),(5,I 0)],[(103,.box 31 (aI v0 ++ (aZ u0)))]⟩ rfl (ab.ret ?_)
  obtain rfl:=Option.some.inj h
  refine Fin.ah ⟨[(4,_),(5,_)],[(103,_)]⟩ rfl (Fin.aq [.agg (aI v0 ++ (aZ u0)),.one (.i 0)] (.inl rfl) rfl (.cons (.agg aW rfl rfl rfl rfl) (.cons (.tmp rfl) .nil)) ⟨rfl,rfl⟩)
end Go.Proofs.YtcbbilehdaaffaaGreatDoor

