/- printed walks -/
import Derived.Test.YtcbbilehdaaffaaGreatDoorW3
namespace Go.Proofs.YtcbbilehdaaffaaGreatDoor
open Go.Sk
set_option maxHeartbeats 1000000
set_option maxRecDepth 4000
set_option linter.unusedSimpArgs false
set_option linter.unusedVariables false
variable {mx : Int}
def ez (F:Nat) (u0:aO):Option bA :=
 (bH F u0).bind fun x_1=>if (!x_1) = true then (some []) else (Option.bind (iter F (b9 fun out_3 i_4=>if (decide (i_4 < 3)) = true then (Option.bind ((bI [u0.M,u0.Kg,u0.S] i_4).bind fun x_7=>if (decide (0 < x_7)) = true then (Option.bind (if (decide (out_3 ≠ [])) = true then ((eJ out_3 [42]).bind fun x_9=>some x_9) else (some out_3)) (fun out_8=>(bI [[109],[107,103],[115]] i_4).bind fun x_10=>(bI [u0.M,u0.Kg,u0.S] i_4).bind fun x_11=>(cu F x_10 x_11).bind fun x_12=>(eJ out_8 x_12).bind fun x_13=>some x_13)) else (some out_3)) (fun out_6=>some (.inl (out_6,IntKind.i64.wrap (i_4 + 1))))) else (some (.inr out_3))) ([],0)) (fun out_2=>Option.bind (if (decide (out_2 = [])) = true then (some [49]) else (some out_2)) (fun out_14=>Option.bind (iter F (b9 fun out_16 i_17=>if (decide (i_17 < 3)) = true then (Option.bind ((bI [u0.M,u0.Kg,u0.S] i_17).bind fun x_20=>if (decide (x_20 < 0)) = true then ((eJ out_16 [47]).bind fun x_21=>(bI [[109],[107,103],[115]] i_17).bind fun x_22=>(bI [u0.M,u0.Kg,u0.S] i_17).bind fun x_23=>(cu F x_22 (IntKind.i64.wrap (-x_23))).bind fun x_24=>(eJ x_21 x_24).bind fun x_25=>some x_25) else (some out_16)) (fun out_19=>some (.inl (out_19,IntKind.i64.wrap (i_17 + 1))))) else (some (.inr out_16))) (out_14,0)) (fun out_15=>some out_15))))
theorem nQ {F:Nat} {u0:aO} {r:bA} (h:ez F u0 = some r):aA Tryz.prog (bd mx) 34 [] [.agg (aP u0)] (Is [] (.b (.one (.str r)))):=by
 unfold ez at h
 refine aA.intro 70 Tryz.func34 Tryz.ntmps34 rfl (by simp) fun E=>?_
 show ab _ E ⟨70,[],[]⟩ _ ⟨[(0,.b (.agg (aP u0)))],[]⟩ _
 refine ab.seq (ab.aa ?_)
 refine Oc (aL (k:=101) rfl rfl) (Oc oa ?_)
 refine ae.an ⟨[(1,Pt 101 0)],[(101,.box 29 (aP u0))]⟩ rfl (ab.seq (ab.aa ?_))
 refine Oc (lp aY) ?_
 obtain ⟨x_1,e1,h⟩:=aD h
 refine Oc (ad (cg e1) p6 rfl rfl) (Oc oa ?_)
 refine ae.an ⟨[(1,_),(3,B x_1)],[(101,_)]⟩ rfl (ab.seq (ab.seq (ab.aa ?_)))
 refine Oc om (Oc (aT rfl) ?_)
 refine ae.an ⟨[(1,_),(12,B (!x_1))],[(101,_)]⟩ rfl (ab.ite h rfl (fun _ h=>?_) (fun _ h=>?_))
 ·refine ab.seq (ab.aa ?_)
  refine Oc oa (ae.an ⟨[(2,.b (.one (.str [])))],[]⟩ rfl (ab.ret (Fin.aw ?_)))
  obtain rfl:=Option.some.inj h
  refine Fin.ag ⟨[(2,_)],[]⟩ rfl (Fin.aq [.one (.str [])] (.inl rfl) rfl (.cons (.tmp rfl) .nil) ⟨rfl,rfl⟩)
 ·refine ab.skip (Fin.ag ⟨[(1,_)],[(101,_)]⟩ rfl (Fin.then (ab.seq (ab.aa ?_))))
  refine Oc (bc (k:=102) (es:=[[109],[107,103],[115]].map eS) iS rfl rfl (cE fun _=>rfl) rfl (by decide) (by decide) rfl) (Oc oa ?_)
  refine ae.an ⟨[(1,_),(4,.b (.row 102))],[(101,_),(102,.row 9 1 ([[109],[107,103],[115]].map eS))]⟩ rfl (ab.seq (ab.aa ?_))
  refine Oc (af iz rfl rfl) (Oc (au bG rfl rfl rfl) (Oc (af iy rfl rfl) (Oc (au bG rfl rfl rfl) (Oc (af iw rfl rfl) (Oc (au bG rfl rfl rfl) ?_)))))
  refine Oc (bc (k:=103) (es:=[u0.M,u0.Kg,u0.S].map eI) cX rfl rfl (cE fun _=>rfl) rfl (by decide) (by decide) rfl) (Oc oa ?_)
  refine ae.an ⟨[(4,_),(5,.b (.row 103))],[(102,_),(103,.row 3 1 ([u0.M,u0.Kg,u0.S].map eI))]⟩ rfl (ab.seq (ab.aa ?_))
  refine Oc oa (ae.an ⟨[(4,_),(5,_),(6,.b (.one (.str [])))],[(102,_),(103,_)]⟩ rfl ?_)
  obtain ⟨v2,h3,h⟩:=aD h
  refine ab.cB (v:=v2) (fun (out_2:bA)=>⟨[(4,.b (.row 102)),(5,.b (.row 103)),(6,.b (.one (.str out_2)))],[(102,.row 9 1 ([[109],[107,103],[115]].map eS)),(103,.row 3 1 ([u0.M,u0.Kg,u0.S].map eI))]⟩) (fun z=>z) ?_ ?_
  ·refine ab.seq (ab.aa ?_)
   refine Oc oa (ae.an ⟨[(4,_),(5,_),(6,_),(7,I 0)],[(102,_),(103,_)]⟩ rfl (ab.block (ab.cW h3 (b9 fun (out_3:bA) (i_4:Int)=>⟨[(4,.b (.row 102)),(5,.b (.row 103)),(6,.b (.one (.str out_3))),(7,I i_4)],[(102,.row 9 1 ([[109],[107,103],[115]].map eS)),(103,.row 3 1 ([u0.M,u0.Kg,u0.S].map eI))]⟩) [4,5,6,7] [102,103] rfl ?_)))
   rintro ⟨out_3,i_4⟩ o4 h5 hy6
   refine ab.seq (ab.seq (ab.aa ?_))
   refine Oc om (Oc (bP rfl rfl) ?_)
   refine ae.an ⟨[(4,_),(5,_),(6,_),(7,_),(22,B (decide (i_4 < 3)))],[(102,_),(103,_)]⟩ rfl (ab.ite h5 rfl (fun _ h5=>?_) (fun _ h5=>?_))
   ·refine ab.skip (Fin.ag ⟨[(4,_),(5,_),(6,_),(7,_)],[(102,_),(103,_)]⟩ rfl (Fin.then ?_))
    obtain ⟨v7,h8,h5⟩:=aD h5
    refine ab.cB (v:=v7) (fun (out_6:bA)=>⟨[(4,.b (.row 102)),(5,.b (.row 103)),(6,.b (.one (.str out_6))),(7,I i_4)],[(102,.row 9 1 ([[109],[107,103],[115]].map eS)),(103,.row 3 1 ([u0.M,u0.Kg,u0.S].map eI))]⟩) (fun z=>z) ?_ ?_
    ·refine ab.block (ab.seq (ab.aa ?_))
     refine Oc om (Oc om ?_)
     obtain ⟨x_7,e9,h8⟩:=aD h8
     refine Oc (dk cX (bx e9) (je e9) rfl rfl rfl rfl) (Oc (gq (i:=(i_4:Int).toNat) (f:=0) bG rfl rfl rfl (eE (e:=eI) e9) rfl) (Oc (fj rfl rfl) ?_))
     refine ae.an ⟨[(4,_),(5,_),(6,_),(7,_),(29,B (decide (0 < x_7)))],[(102,_),(103,_)]⟩ rfl (ab.ite h8 rfl (fun _ h8=>?_) (fun _ h8=>?_))
     ·obtain ⟨v10,h11,h8⟩:=aD h8
      refine ab.cB (v:=v10) (fun (out_8:bA)=>⟨[(4,.b (.row 102)),(5,.b (.row 103)),(6,.b (.one (.str out_8))),(7,I i_4)],[(102,.row 9 1 ([[109],[107,103],[115]].map eS)),(103,.row 3 1 ([u0.M,u0.Kg,u0.S].map eI))]⟩) (fun z=>z) ?_ ?_
      ·refine ab.seq (ab.aa ?_)
       refine Oc om (Oc (o9 rfl rfl) ?_)
       refine ae.an ⟨[(4,_),(5,_),(6,_),(7,_),(31,B (decide (out_3 ≠ [])))],[(102,_),(103,_)]⟩ rfl (ab.ite h11 rfl (fun _ h11=>?_) (fun _ h11=>?_))
       ·refine ab.aa (Oc om ?_)
        obtain ⟨x_9,e12,h11⟩:=aD h11
        refine Oc (bK e12 rfl rfl) (Oc oa ?_)
        refine ae.nil ?_
        exact Fin.join [4,5,6,7] [102,103] x_9 (Option.some.inj h11) rfl
       ·refine ab.skip ?_
        exact Fin.join [4,5,6,7] [102,103] out_3 (Option.some.inj h11) rfl
      ·rintro out_8 hv
       subst v10
       refine ab.ag ⟨[(4,_),(5,_),(6,_),(7,_)],[(102,_),(103,_)]⟩ rfl ?_
       obtain ⟨x_10,e13,h8⟩:=aD h8
       obtain ⟨x_11,e14,h8⟩:=aD h8
       obtain ⟨x_12,e15,h8⟩:=aD h8
       obtain ⟨x_13,e16,h8⟩:=aD h8
       refine ab.hS mixed 11 [.b (.one (.str out_8)),.b (.row 102),I i_4,.b (.jV 102 ((i_4:Int).toNat * 1)),.b (.one (.str x_10)),.b (.row 103),I i_4,.b (.jV 103 ((i_4:Int).toNat * 1)),I x_11,.b (.one (.str x_12)),.b (.one (.str x_13))] [4,5,6,7] [102,103] (s':=⟨[(4,_),(5,_),(6,.b (.one (.str x_13))),(7,_)],[(102,_),(103,_)]⟩) rfl ⟨fun _=>.p om,fun _=>.p om,fun _=>.p om,fun _=>.p (dk iS (bx e13) (je e13) rfl rfl rfl rfl),fun _=>.p (gq (i:=(i_4:Int).toNat) (f:=0) fi rfl rfl rfl (eE (e:=eS) e13) rfl),fun _=>.p om,fun _=>.p om,fun _=>.p (dk cX (bx e14) (je e14) rfl rfl rfl rfl),fun _=>.p (gq (i:=(i_4:Int).toNat) (f:=0) bG rfl rfl rfl (eE (e:=eI) e14) rfl),fun _=>.p (ad (jr e15) DX rfl rfl),fun _=>.p (bK e16 rfl rfl),trivial⟩ ⟨_,by exact .p oa,rfl⟩ rfl (Fin.aI ?_)
       exact Fin.join [4,5,6,7] [102,103] x_13 (Option.some.inj h8) rfl
     ·refine ab.skip (Fin.aI ?_)
      exact Fin.join [4,5,6,7] [102,103] out_3 (Option.some.inj h8) rfl
    ·rintro out_6 hv
     subst v7
     refine ab.aa (Oc om (Oc (bg rfl rfl) (Oc oa ?_)))
     refine ae.nil ?_
     exact Fin.b6 [4,5,6,7] [102,103] (out_6,IntKind.i64.wrap (i_4 + 1)) (Option.some.inj h5) rfl
   ·refine ab.exit (Fin.aF ?_)
    obtain rfl:=hy6 _ (Option.some.inj h5).symm
    refine Fin.aF (Fin.aX ?_)
    exact Fin.join [4,5,6] [102,103] out_3 rfl rfl
  ·rintro out_2 hv
   subst v2
   obtain ⟨v17,h18,h⟩:=aD h
   refine ab.cB (v:=v17) (fun (out_14:bA)=>⟨[(4,.b (.row 102)),(5,.b (.row 103)),(6,.b (.one (.str out_14)))],[(102,.row 9 1 ([[109],[107,103],[115]].map eS)),(103,.row 3 1 ([u0.M,u0.Kg,u0.S].map eI))]⟩) (fun z=>z) ?_ ?_
   ·refine ab.seq (ab.aa ?_)
    refine Oc om (Oc (c7 rfl rfl) ?_)
    refine ae.an ⟨[(4,_),(5,_),(6,_),(46,B (decide (out_2 = [])))],[(102,_),(103,_)]⟩ rfl (ab.ite h18 rfl (fun _ h18=>?_) (fun _ h18=>?_))
    ·refine ab.aa (Oc oa (ae.nil ?_))
     exact Fin.join [4,5,6] [102,103] [49] (Option.some.inj h18) rfl
    ·refine ab.skip ?_
     exact Fin.join [4,5,6] [102,103] out_2 (Option.some.inj h18) rfl
   ·rintro out_14 hv
    subst v17
    obtain ⟨v19,h20,h⟩:=aD h
    refine ab.cB (v:=v19) (fun (out_15:bA)=>⟨[(6,.b (.one (.str out_15)))],[]⟩) (fun z=>z) ?_ ?_
    ·refine ab.seq (ab.aa ?_)
     refine Oc oa (ae.an ⟨[(4,_),(5,_),(6,_),(8,I 0)],[(102,_),(103,_)]⟩ rfl (ab.block (ab.cW h20 (b9 fun (out_16:bA) (i_17:Int)=>⟨[(4,.b (.row 102)),(5,.b (.row 103)),(6,.b (.one (.str out_16))),(8,I i_17)],[(102,.row 9 1 ([[109],[107,103],[115]].map eS)),(103,.row 3 1 ([u0.M,u0.Kg,u0.S].map eI))]⟩) [4,5,6,8] [102,103] rfl ?_)))
     rintro ⟨out_16,i_17⟩ o21 h22 hy23
     refine ab.seq (ab.seq (ab.aa ?_))
     refine Oc om (Oc (bP rfl rfl) ?_)
     refine ae.an ⟨[(4,_),(5,_),(6,_),(8,_),(48,B (decide (i_17 < 3)))],[(102,_),(103,_)]⟩ rfl (ab.ite h22 rfl (fun _ h22=>?_) (fun _ h22=>?_))
     ·refine ab.skip (Fin.ag ⟨[(4,_),(5,_),(6,_),(8,_)],[(102,_),(103,_)]⟩ rfl (Fin.then ?_))
      obtain ⟨v24,h25,h22⟩:=aD h22
      refine ab.cB (v:=v24) (fun (out_19:bA)=>⟨[(4,.b (.row 102)),(5,.b (.row 103)),(6,.b (.one (.str out_19))),(8,I i_17)],[(102,.row 9 1 ([[109],[107,103],[115]].map eS)),(103,.row 3 1 ([u0.M,u0.Kg,u0.S].map eI))]⟩) (fun z=>z) ?_ ?_
      ·refine ab.block (ab.seq (ab.aa ?_))
       refine Oc om (Oc om ?_)
       obtain ⟨x_20,e26,h25⟩:=aD h25
       refine Oc (dk cX (bx e26) (je e26) rfl rfl rfl rfl) (Oc (gq (i:=(i_17:Int).toNat) (f:=0) bG rfl rfl rfl (eE (e:=eI) e26) rfl) (Oc (bP rfl rfl) ?_))
       refine ae.an ⟨[(4,_),(5,_),(6,_),(8,_),(55,B (decide (x_20 < 0)))],[(102,_),(103,_)]⟩ rfl (ab.ite h25 rfl (fun _ h25=>?_) (fun _ h25=>?_))
       ·refine ab.ag ⟨[(4,_),(5,_),(6,_),(8,_)],[(102,_),(103,_)]⟩ rfl ?_
        obtain ⟨x_21,e27,h25⟩:=aD h25
        obtain ⟨x_22,e28,h25⟩:=aD h25
        obtain ⟨x_23,e29,h25⟩:=aD h25
        obtain ⟨x_24,e30,h25⟩:=aD h25
        obtain ⟨x_25,e31,h25⟩:=aD h25
        refine ab.hS mixed 13 [.b (.one (.str out_16)),.b (.one (.str x_21)),.b (.row 102),I i_17,.b (.jV 102 ((i_17:Int).toNat * 1)),.b (.one (.str x_22)),.b (.row 103),I i_17,.b (.jV 103 ((i_17:Int).toNat * 1)),I x_23,I (IntKind.i64.wrap (-x_23)),.b (.one (.str x_24)),.b (.one (.str x_25))] [4,5,6,8] [102,103] (s':=⟨[(4,_),(5,_),(6,.b (.one (.str x_25))),(8,_)],[(102,_),(103,_)]⟩) rfl ⟨fun _=>.p om,fun _=>.p (bK e27 rfl rfl),fun _=>.p om,fun _=>.p om,fun _=>.p (dk iS (bx e28) (je e28) rfl rfl rfl rfl),fun _=>.p (gq (i:=(i_17:Int).toNat) (f:=0) fi rfl rfl rfl (eE (e:=eS) e28) rfl),fun _=>.p om,fun _=>.p om,fun _=>.p (dk cX (bx e29) (je e29) rfl rfl rfl rfl),fun _=>.p (gq (i:=(i_17:Int).toNat) (f:=0) bG rfl rfl rfl (eE (e:=eI) e29) rfl),fun _=>.p (lz rfl),fun _=>.p (ad (jr e30) DX rfl rfl),fun _=>.p (bK e31 rfl rfl),trivial⟩ ⟨_,by exact .p oa,rfl⟩ rfl (Fin.aI ?_)
        exact Fin.join [4,5,6,8] [102,103] x_25 (Option.some.inj h25) rfl
       ·refine ab.skip (Fin.aI ?_)
        exact Fin.join [4,5,6,8] [102,103] out_16 (Option.some.inj h25) rfl
      ·rintro out_19 hv
       subst v24
       refine ab.aa (Oc om (Oc (bg rfl rfl) (Oc oa ?_)))
       refine ae.nil ?_
       exact Fin.b6 [4,5,6,8] [102,103] (out_19,IntKind.i64.wrap (i_17 + 1)) (Option.some.inj h22) rfl
     ·refine ab.exit (Fin.aF ?_)
      obtain rfl:=hy23 _ (Option.some.inj h22).symm
      refine Fin.aF (Fin.aX ?_)
      exact Fin.join [6] [] out_16 rfl rfl
    ·rintro out_15 hv
     subst v19
     refine ab.seq (ab.aa ?_)
     refine Oc om (Oc oa ?_)
     refine ae.an ⟨[(2,.b (.one (.str out_15)))],[]⟩ rfl (ab.ret ?_)
     obtain rfl:=Option.some.inj h
     refine Fin.ag ⟨[(2,_)],[]⟩ rfl (Fin.aq [.one (.str out_15)] (.inl rfl) rfl (.cons (.tmp rfl) .nil) ⟨rfl,rfl⟩)
def eu (F:Nat) (a0:az):Option bA :=
 (bu F a0).bind fun x_1=>if (!x_1) = true then (some []) else ((n9 F a0.V).bind fun x_2=>Option.bind (if (decide (a0.U ≠ (⟨0,0,0⟩:aO))) = true then ((eJ x_2 [32]).bind fun x_4=>(ez F a0.U).bind fun x_5=>(eJ x_4 x_5).bind fun x_6=>some x_6) else (some x_2)) (fun out_3=>some out_3))
theorem nN {F:Nat} {a0:az} {r:bA} (h:eu F a0 = some r):aA Tryz.prog (bd mx) 49 [] [.agg (ao a0)] (Is [] (.b (.one (.str r)))):=by
 unfold eu at h
 refine aA.intro 23 Tryz.func49 Tryz.ntmps49 rfl (by simp) fun E=>?_
 show ab _ E ⟨23,[],[]⟩ _ ⟨[(0,.b (.agg (ao a0)))],[]⟩ _
 refine ab.seq (ab.aa ?_)
 refine Oc (aL (k:=101) rfl rfl) (Oc oa ?_)
 refine ae.an ⟨[(1,Pt 101 0)],[(101,.box 31 (ao a0))]⟩ rfl (ab.seq (ab.aa ?_))
 refine Oc (lp aJ) ?_
 obtain ⟨x_1,e1,h⟩:=aD h
 refine Oc (ad (bM e1) nK rfl rfl) (Oc oa ?_)
 refine ae.an ⟨[(1,_),(3,B x_1)],[(101,_)]⟩ rfl (ab.seq (ab.seq (ab.aa ?_)))
 refine Oc om (Oc (aT rfl) ?_)
 refine ae.an ⟨[(1,_),(8,B (!x_1))],[(101,_)]⟩ rfl (ab.ite h rfl (fun _ h=>?_) (fun _ h=>?_))
 ·refine ab.seq (ab.aa ?_)
  refine Oc oa (ae.an ⟨[(2,.b (.one (.str [])))],[]⟩ rfl (ab.ret (Fin.aw ?_)))
  obtain rfl:=Option.some.inj h
  refine Fin.ag ⟨[(2,_)],[]⟩ rfl (Fin.aq [.one (.str [])] (.inl rfl) rfl (.cons (.tmp rfl) .nil) ⟨rfl,rfl⟩)
 ·refine ab.skip (Fin.ag ⟨[(1,_)],[(101,_)]⟩ rfl (Fin.then (ab.seq (ab.aa ?_))))
  refine Oc (af bU rfl rfl) (Oc (lp aC) ?_)
  obtain ⟨x_2,e2,h⟩:=aD h
  refine Oc (ad (yE e2) goes104 rfl rfl) (Oc oa ?_)
  refine ae.an ⟨[(1,_),(4,.b (.one (.str x_2)))],[(101,_)]⟩ rfl ?_
  obtain ⟨v3,h4,h⟩:=aD h
  refine ab.cB (v:=v3) (fun (out_3:bA)=>⟨[(4,.b (.one (.str out_3)))],[]⟩) (fun z=>z) ?_ ?_
  ·refine ab.seq (ab.aa ?_)
   refine Oc (af cy rfl rfl) (Oc (lp aY) (Oc (aS dV rfl rfl) (Oc (dG (oM a0.U (⟨0,0,0⟩:aO)) rfl rfl gR) ?_)))
   refine ae.an ⟨[(1,_),(4,_),(15,B (decide (a0.U ≠ (⟨0,0,0⟩:aO))))],[(101,_)]⟩ rfl (ab.ite h4 rfl (fun _ h4=>?_) (fun _ h4=>?_))
   ·refine ab.aa (Oc om ?_)
    obtain ⟨x_4,e5,h4⟩:=aD h4
    refine Oc (bK e5 rfl rfl) (Oc (af cy rfl rfl) (Oc (lp aY) ?_))
    obtain ⟨x_5,e6,h4⟩:=aD h4
    refine Oc (ad (nQ e6) goes34 rfl rfl) ?_
    obtain ⟨x_6,e7,h4⟩:=aD h4
    refine Oc (bK e7 rfl rfl) (Oc oa ?_)
    refine ae.nil ?_
    exact Fin.join [4] [] x_6 (Option.some.inj h4) rfl
   ·refine ab.skip ?_
    exact Fin.join [4] [] x_2 (Option.some.inj h4) rfl
  ·rintro out_3 hv
   subst v3
   refine ab.seq (ab.aa ?_)
   refine Oc om (Oc oa ?_)
   refine ae.an ⟨[(2,.b (.one (.str out_3)))],[]⟩ rfl (ab.ret ?_)
   obtain rfl:=Option.some.inj h
   refine Fin.ag ⟨[(2,_)],[]⟩ rfl (Fin.aq [.one (.str out_3)] (.inl rfl) rfl (.cons (.tmp rfl) .nil) ⟨rfl,rfl⟩)
def cA (F:Nat) (a0:az) (b0:az) (n0:Int):Option Bool :=
 Option.bind (kH F a0 b0) (b9 fun x_1 x_2=>(fG F a0 b0).bind fun x_3=>if ((decide (x_1 ≠ x_3.Q)) || (decide (x_2 ≠ x_3.E))) = true then (some false) else (Option.bind (mA F a0 b0) (b9 fun x_4 x_5=>(fC F a0 b0).bind fun x_6=>if ((decide (x_4 ≠ x_6.Q)) || (decide (x_5 ≠ x_6.E))) = true then (some false) else (Option.bind (iY F a0 b0) (b9 fun x_7 x_8=>(ew F a0 b0).bind fun x_9=>if ((decide (x_7 ≠ x_9.Q)) || (decide (x_8 ≠ x_9.E))) = true then (some false) else (Option.bind (jR F a0 b0) (b9 fun x_10 x_11=>(eV F a0 b0).bind fun x_12=>if ((decide (x_10 ≠ x_12.Q)) || (decide (x_11 ≠ x_12.E))) = true then (some false) else (Option.bind (kp F a0 n0) (b9 fun x_13 x_14=>(ey F a0 n0).bind fun x_15=>if ((decide (x_13 ≠ x_15.Q)) || (decide (x_14 ≠ x_15.E))) = true then (some false) else (Option.bind (mE F a0 b0) (b9 fun x_16 x_17=>Option.bind ((bu F a0).bind fun x_20=>(bE (!(!x_20)) (bu F b0)).bind fun x_21=>if ((!x_20) || (!x_21)) = true then (some (0,1)) else (if (decide (a0.U ≠ b0.U)) = true then (some (0,110)) else ((qk F a0.V b0.V).bind fun x_22=>some (x_22,0)))) (b9 fun want_18 sure_19=>(dU F).bind fun x_23=>(bE ((x_23 && (decide (x_16 = want_18))) && (decide (x_17 = sure_19))) (gW F a0)).bind fun x_24=>(bE ((x_23 && (decide (x_16 = want_18))) && (decide (x_17 = sure_19))) (eu F a0)).bind fun x_25=>some (((x_23 && (decide (x_16 = want_18))) && (decide (x_17 = sure_19))) && (decide (x_24 = x_25)))))))))))))))
theorem hM {F:Nat} {a0:az} {b0:az} {n0:Int} {r:Bool} (h:cA F a0 b0 n0 = some r):aA Tryz.prog (bd mx) 9 [] [.agg (ao a0),.agg (ao b0),.one (.i n0)] (Is [] (.b (.one (.bool r)))):=by
 unfold cA at h
 refine aA.intro 151 Tryz.func9 Tryz.ntmps9 rfl (by simp) fun E=>?_
 show ab _ E ⟨151,[],[]⟩ _ ⟨[(0,.b (.agg (ao a0))),(1,.b (.agg (ao b0))),(2,I n0)],[]⟩ _
 refine ab.seq (ab.aa ?_)
 refine Oc (aL (k:=101) rfl rfl) (Oc (aL (k:=102) rfl rfl) (Oc oa ?_))
 refine ae.an ⟨[(2,I n0),(3,Pt 101 0),(4,Pt 102 0)],[(101,.box 31 (ao a0)),(102,.box 31 (ao b0))]⟩ rfl (ab.seq (ab.aa ?_))
 refine Oc (lp aJ) (Oc (lp aJ) ?_)
 obtain ⟨⟨x_1,x_2⟩,e1,h⟩:=aD h
 refine Oc (ad (rO e1) D7 rfl rfl) (Oc om (Oc (ay rfl rfl) ?_))
 refine ae.ag ⟨[(2,_),(3,_),(4,_),(14,.eY [.agg (ao x_1),.one (.i x_2)]),(18,.b (.agg (ao x_1)))],[(101,_),(102,_)]⟩ rfl (Oc (ay rfl rfl) (Oc (aB (k:=103) dw rfl) (Oc (ah aJ rfl rfl rfl rfl (Nat.le_of_ble_eq_true rfl) rfl) (Oc oa ?_))))
 refine ae.an ⟨[(2,_),(3,_),(4,_),(7,Pt 103 0),(8,I x_2)],[(101,_),(102,_),(103,.box 31 (ao x_1))]⟩ rfl (ab.seq (ab.aa ?_))
 refine Oc (lp aJ) (Oc (lp aJ) ?_)
 obtain ⟨x_3,e2,h⟩:=aD h
 refine Oc (ad (pD e2) goes41 rfl rfl) (Oc (aB (k:=104) mj rfl) (Oc (ah cf rfl rfl rfl rfl (Nat.le_of_ble_eq_true rfl) rfl) ?_))
 refine ae.an ⟨[(2,_),(3,_),(4,_),(7,_),(8,_),(9,Pt 104 0)],[(101,_),(102,_),(103,_),(104,.box 69 (dZ x_3))]⟩ rfl (ab.seq (ab.seq (ab.aa ?_)))
 refine Oc (lp aJ) (Oc (af n6 rfl rfl) (Oc (lp aJ) (Oc (dG (nn x_1 x_3.Q) rfl rfl gR) (Oc om ?_))))
 refine cx (!(decide (x_1 ≠ x_3.Q))) [] (fun g3=>trivial) (fun g3=>om) (cx (!(decide (x_1 ≠ x_3.Q))) [] (fun g4=>by exact trivial) (fun g4=>af n5 rfl rfl) (ae.ag ⟨[(2,_),(3,_),(4,_),(7,_),(9,_),(27,B (decide (x_1 ≠ x_3.Q))),(28,.dh (!(decide (x_1 ≠ x_3.Q))) (.one (.i x_2))),(29,.dh (!(decide (x_1 ≠ x_3.Q))) (.ptr 104 39))],[(101,_),(102,_),(103,_),(104,_)]⟩ rfl (cx (!(decide (x_1 ≠ x_3.Q))) [29] (fun g5=>by exact ⟨g5,trivial⟩) (fun g5=>au j9 rfl rfl rfl) (cx (!(decide (x_1 ≠ x_3.Q))) [28,30] (fun g6=>by exact ⟨g6,g6,trivial⟩) (fun g6=>di rfl rfl) (Oc (aQ (fun e=>by rw [e]; rfl) rfl rfl rfl rfl) ?_)))))
 refine ae.an ⟨[(2,_),(3,_),(4,_),(7,_),(9,_),(32,B ((decide (x_1 ≠ x_3.Q)) || (decide (x_2 ≠ x_3.E))))],[(101,_),(102,_),(103,_),(104,_)]⟩ rfl (ab.ite h rfl (fun _ h=>?_) (fun _ h=>?_))
 ·refine ab.seq (ab.aa ?_)
  refine Oc oa (ae.an ⟨[(6,B false)],[]⟩ rfl (ab.ret (Fin.aw ?_)))
  obtain rfl:=Option.some.inj h
  refine Fin.ag ⟨[(6,_)],[]⟩ rfl (Fin.aq [.one (.bool false)] (.inl rfl) rfl (.cons (.tmp rfl) .nil) ⟨rfl,rfl⟩)
 ·refine ab.skip (Fin.ag ⟨[(2,_),(3,_),(4,_),(7,_),(9,_)],[(101,_),(102,_),(103,_),(104,_)]⟩ rfl (Fin.then (ab.seq (ab.aa ?_))))
  refine Oc (lp aJ) (Oc (lp aJ) ?_)
  obtain ⟨⟨x_4,x_5⟩,e7,h⟩:=aD h
  refine Oc (ad (wU e7) goes42 rfl rfl) (Oc om (Oc (ay rfl rfl) ?_))
  refine ae.ag ⟨[(2,_),(3,_),(4,_),(7,_),(9,_),(33,.eY [.agg (ao x_4),.one (.i x_5)]),(37,.b (.agg (ao x_4)))],[(101,_),(102,_),(103,_),(104,_)]⟩ rfl (Oc (ay rfl rfl) (Oc (ah aJ rfl rfl rfl rfl (Nat.le_of_ble_eq_true rfl) rfl) (Oc oa ?_)))
  refine ae.an ⟨[(2,_),(3,_),(4,_),(7,_),(8,I x_5),(9,_)],[(101,_),(102,_),(103,.box 31 (ao x_4)),(104,_)]⟩ rfl (ab.seq (ab.aa ?_))
  refine Oc (lp aJ) (Oc (lp aJ) ?_)
  obtain ⟨x_6,e8,h⟩:=aD h
  refine Oc (ad (pz e8) goes43 rfl rfl) (Oc (ah cf rfl rfl rfl rfl (Nat.le_of_ble_eq_true rfl) rfl) ?_)
  refine ae.an ⟨[(2,_),(3,_),(4,_),(7,_),(8,_),(9,_)],[(101,_),(102,_),(103,_),(104,.box 69 (dZ x_6))]⟩ rfl (ab.seq (ab.seq (ab.aa ?_)))
  refine Oc (lp aJ) (Oc (af n6 rfl rfl) (Oc (lp aJ) (Oc (dG (nn x_4 x_6.Q) rfl rfl gR) (Oc om ?_))))
  refine cx (!(decide (x_4 ≠ x_6.Q))) [] (fun g9=>trivial) (fun g9=>om) (cx (!(decide (x_4 ≠ x_6.Q))) [] (fun g10=>by exact trivial) (fun g10=>af n5 rfl rfl) (ae.ag ⟨[(2,_),(3,_),(4,_),(7,_),(9,_),(46,B (decide (x_4 ≠ x_6.Q))),(47,.dh (!(decide (x_4 ≠ x_6.Q))) (.one (.i x_5))),(48,.dh (!(decide (x_4 ≠ x_6.Q))) (.ptr 104 39))],[(101,_),(102,_),(103,_),(104,_)]⟩ rfl (cx (!(decide (x_4 ≠ x_6.Q))) [48] (fun g11=>by exact ⟨g11,trivial⟩) (fun g11=>au j9 rfl rfl rfl) (cx (!(decide (x_4 ≠ x_6.Q))) [47,49] (fun g12=>by exact ⟨g12,g12,trivial⟩) (fun g12=>di rfl rfl) (Oc (aQ (fun e=>by rw [e]; rfl) rfl rfl rfl rfl) ?_)))))
  refine ae.an ⟨[(2,_),(3,_),(4,_),(7,_),(9,_),(51,B ((decide (x_4 ≠ x_6.Q)) || (decide (x_5 ≠ x_6.E))))],[(101,_),(102,_),(103,_),(104,_)]⟩ rfl (ab.ite h rfl (fun _ h=>?_) (fun _ h=>?_))
  ·refine ab.seq (ab.aa ?_)
   refine Oc oa (ae.an ⟨[(6,B false)],[]⟩ rfl (ab.ret (Fin.aw ?_)))
   obtain rfl:=Option.some.inj h
   refine Fin.ag ⟨[(6,_)],[]⟩ rfl (Fin.aq [.one (.bool false)] (.inl rfl) rfl (.cons (.tmp rfl) .nil) ⟨rfl,rfl⟩)
  ·refine ab.skip (Fin.ag ⟨[(2,_),(3,_),(4,_),(7,_),(9,_)],[(101,_),(102,_),(103,_),(104,_)]⟩ rfl (Fin.then (ab.seq (ab.aa ?_))))
   refine Oc (lp aJ) (Oc (lp aJ) ?_)
   obtain ⟨⟨x_7,x_8⟩,e13,h⟩:=aD h
   refine Oc (ad (pJ e13) D6 rfl rfl) (Oc om (Oc (ay rfl rfl) ?_))
   refine ae.ag ⟨[(2,_),(3,_),(4,_),(7,_),(9,_),(52,.eY [.agg (ao x_7),.one (.i x_8)]),(56,.b (.agg (ao x_7)))],[(101,_),(102,_),(103,_),(104,_)]⟩ rfl (Oc (ay rfl rfl) (Oc (ah aJ rfl rfl rfl rfl (Nat.le_of_ble_eq_true rfl) rfl) (Oc oa ?_)))
   refine ae.an ⟨[(2,_),(3,_),(4,_),(7,_),(8,I x_8),(9,_)],[(101,_),(102,_),(103,.box 31 (ao x_7)),(104,_)]⟩ rfl (ab.seq (ab.aa ?_))
   refine Oc (lp aJ) (Oc (lp aJ) ?_)
   obtain ⟨x_9,e14,h⟩:=aD h
   refine Oc (ad (nO e14) goes44 rfl rfl) (Oc (ah cf rfl rfl rfl rfl (Nat.le_of_ble_eq_true rfl) rfl) ?_)
   refine ae.an ⟨[(2,_),(3,_),(4,_),(7,_),(8,_),(9,_)],[(101,_),(102,_),(103,_),(104,.box 69 (dZ x_9))]⟩ rfl (ab.seq (ab.seq (ab.aa ?_)))
   refine Oc (lp aJ) (Oc (af n6 rfl rfl) (Oc (lp aJ) (Oc (dG (nn x_7 x_9.Q) rfl rfl gR) (Oc om ?_))))
   refine cx (!(decide (x_7 ≠ x_9.Q))) [] (fun g15=>trivial) (fun g15=>om) (cx (!(decide (x_7 ≠ x_9.Q))) [] (fun g16=>by exact trivial) (fun g16=>af n5 rfl rfl) (ae.ag ⟨[(2,_),(3,_),(4,_),(7,_),(9,_),(65,B (decide (x_7 ≠ x_9.Q))),(66,.dh (!(decide (x_7 ≠ x_9.Q))) (.one (.i x_8))),(67,.dh (!(decide (x_7 ≠ x_9.Q))) (.ptr 104 39))],[(101,_),(102,_),(103,_),(104,_)]⟩ rfl (cx (!(decide (x_7 ≠ x_9.Q))) [67] (fun g17=>by exact ⟨g17,trivial⟩) (fun g17=>au j9 rfl rfl rfl) (cx (!(decide (x_7 ≠ x_9.Q))) [66,68] (fun g18=>by exact ⟨g18,g18,trivial⟩) (fun g18=>di rfl rfl) (Oc (aQ (fun e=>by rw [e]; rfl) rfl rfl rfl rfl) ?_)))))
   refine ae.an ⟨[(2,_),(3,_),(4,_),(7,_),(9,_),(70,B ((decide (x_7 ≠ x_9.Q)) || (decide (x_8 ≠ x_9.E))))],[(101,_),(102,_),(103,_),(104,_)]⟩ rfl (ab.ite h rfl (fun _ h=>?_) (fun _ h=>?_))
   ·refine ab.seq (ab.aa ?_)
    refine Oc oa (ae.an ⟨[(6,B false)],[]⟩ rfl (ab.ret (Fin.aw ?_)))
    obtain rfl:=Option.some.inj h
    refine Fin.ag ⟨[(6,_)],[]⟩ rfl (Fin.aq [.one (.bool false)] (.inl rfl) rfl (.cons (.tmp rfl) .nil) ⟨rfl,rfl⟩)
   ·refine ab.skip (Fin.ag ⟨[(2,_),(3,_),(4,_),(7,_),(9,_)],[(101,_),(102,_),(103,_),(104,_)]⟩ rfl (Fin.then (ab.seq (ab.aa ?_))))
    refine Oc (lp aJ) (Oc (lp aJ) ?_)
    obtain ⟨⟨x_10,x_11⟩,e19,h⟩:=aD h
    refine Oc (ad (qP e19) D4 rfl rfl) (Oc om (Oc (ay rfl rfl) ?_))
    refine ae.ag ⟨[(2,_),(3,_),(4,_),(7,_),(9,_),(71,.eY [.agg (ao x_10),.one (.i x_11)]),(75,.b (.agg (ao x_10)))],[(101,_),(102,_),(103,_),(104,_)]⟩ rfl (Oc (ay rfl rfl) (Oc (ah aJ rfl rfl rfl rfl (Nat.le_of_ble_eq_true rfl) rfl) (Oc oa ?_)))
    refine ae.an ⟨[(2,_),(3,_),(4,_),(7,_),(8,I x_11),(9,_)],[(101,_),(102,_),(103,.box 31 (ao x_10)),(104,_)]⟩ rfl (ab.seq (ab.aa ?_))
    refine Oc (lp aJ) (Oc (lp aJ) ?_)
    obtain ⟨x_12,e20,h⟩:=aD h
    refine Oc (ad (oo e20) goes45 rfl rfl) (Oc (ah cf rfl rfl rfl rfl (Nat.le_of_ble_eq_true rfl) rfl) ?_)
    refine ae.an ⟨[(2,_),(3,_),(4,_),(7,_),(8,_),(9,_)],[(101,_),(102,_),(103,_),(104,.box 69 (dZ x_12))]⟩ rfl (ab.seq (ab.seq (ab.aa ?_)))
    refine Oc (lp aJ) (Oc (af n6 rfl rfl) (Oc (lp aJ) (Oc (dG (nn x_10 x_12.Q) rfl rfl gR) (Oc om ?_))))
    refine cx (!(decide (x_10 ≠ x_12.Q))) [] (fun g21=>trivial) (fun g21=>om) (cx (!(decide (x_10 ≠ x_12.Q))) [] (fun g22=>by exact trivial) (fun g22=>af n5 rfl rfl) (ae.ag ⟨[(2,_),(3,_),(4,_),(7,_),(9,_),(84,B (decide (x_10 ≠ x_12.Q))),(85,.dh (!(decide (x_10 ≠ x_12.Q))) (.one (.i x_11))),(86,.dh (!(decide (x_10 ≠ x_12.Q))) (.ptr 104 39))],[(101,_),(102,_),(103,_),(104,_)]⟩ rfl (cx (!(decide (x_10 ≠ x_12.Q))) [86] (fun g23=>by exact ⟨g23,trivial⟩) (fun g23=>au j9 rfl rfl rfl) (cx (!(decide (x_10 ≠ x_12.Q))) [85,87] (fun g24=>by exact ⟨g24,g24,trivial⟩) (fun g24=>di rfl rfl) (Oc (aQ (fun e=>by rw [e]; rfl) rfl rfl rfl rfl) ?_)))))
    refine ae.an ⟨[(2,_),(3,_),(4,_),(7,_),(9,_),(89,B ((decide (x_10 ≠ x_12.Q)) || (decide (x_11 ≠ x_12.E))))],[(101,_),(102,_),(103,_),(104,_)]⟩ rfl (ab.ite h rfl (fun _ h=>?_) (fun _ h=>?_))
    ·refine ab.seq (ab.aa ?_)
     refine Oc oa (ae.an ⟨[(6,B false)],[]⟩ rfl (ab.ret (Fin.aw ?_)))
     obtain rfl:=Option.some.inj h
     refine Fin.ag ⟨[(6,_)],[]⟩ rfl (Fin.aq [.one (.bool false)] (.inl rfl) rfl (.cons (.tmp rfl) .nil) ⟨rfl,rfl⟩)
    ·refine ab.skip (Fin.ag ⟨[(2,_),(3,_),(4,_),(7,_),(9,_)],[(101,_),(102,_),(103,_),(104,_)]⟩ rfl (Fin.then (ab.seq (ab.aa ?_))))
     refine Oc (lp aJ) (Oc om ?_)
     obtain ⟨⟨x_13,x_14⟩,e25,h⟩:=aD h
     refine Oc (ad (uP e25) goes46 rfl rfl) (Oc om (Oc (ay rfl rfl) ?_))
     refine ae.ag ⟨[(2,_),(3,_),(4,_),(7,_),(9,_),(90,.eY [.agg (ao x_13),.one (.i x_14)]),(94,.b (.agg (ao x_13)))],[(101,_),(102,_),(103,_),(104,_)]⟩ rfl (Oc (ay rfl rfl) (Oc (ah aJ rfl rfl rfl rfl (Nat.le_of_ble_eq_true rfl) rfl) (Oc oa ?_)))
     refine ae.an ⟨[(2,_),(3,_),(4,_),(7,_),(8,I x_14),(9,_)],[(101,_),(102,_),(103,.box 31 (ao x_13)),(104,_)]⟩ rfl (ab.seq (ab.aa ?_))
     refine Oc (lp aJ) (Oc om ?_)
     obtain ⟨x_15,e26,h⟩:=aD h
     refine Oc (ad (nP e26) goes47 rfl rfl) (Oc (ah cf rfl rfl rfl rfl (Nat.le_of_ble_eq_true rfl) rfl) ?_)
     refine ae.an ⟨[(3,_),(4,_),(7,_),(8,_),(9,_)],[(101,_),(102,_),(103,_),(104,.box 69 (dZ x_15))]⟩ rfl (ab.seq (ab.seq (ab.aa ?_)))
     refine Oc (lp aJ) (Oc (af n6 rfl rfl) (Oc (lp aJ) (Oc (dG (nn x_13 x_15.Q) rfl rfl gR) (Oc om ?_))))
     refine cx (!(decide (x_13 ≠ x_15.Q))) [] (fun g27=>trivial) (fun g27=>om) (cx (!(decide (x_13 ≠ x_15.Q))) [] (fun g28=>by exact trivial) (fun g28=>af n5 rfl rfl) (ae.ag ⟨[(3,_),(4,_),(103,B (decide (x_13 ≠ x_15.Q))),(104,.dh (!(decide (x_13 ≠ x_15.Q))) (.one (.i x_14))),(105,.dh (!(decide (x_13 ≠ x_15.Q))) (.ptr 104 39))],[(101,_),(102,_),(104,_)]⟩ rfl (cx (!(decide (x_13 ≠ x_15.Q))) [105] (fun g29=>by exact ⟨g29,trivial⟩) (fun g29=>au j9 rfl rfl rfl) (cx (!(decide (x_13 ≠ x_15.Q))) [104,106] (fun g30=>by exact ⟨g30,g30,trivial⟩) (fun g30=>di rfl rfl) (Oc (aQ (fun e=>by rw [e]; rfl) rfl rfl rfl rfl) ?_)))))
     refine ae.an ⟨[(3,_),(4,_),(108,B ((decide (x_13 ≠ x_15.Q)) || (decide (x_14 ≠ x_15.E))))],[(101,_),(102,_)]⟩ rfl (ab.ite h rfl (fun _ h=>?_) (fun _ h=>?_))
     ·refine ab.seq (ab.aa ?_)
      refine Oc oa (ae.an ⟨[(6,B false)],[]⟩ rfl (ab.ret (Fin.aw ?_)))
      obtain rfl:=Option.some.inj h
      refine Fin.ag ⟨[(6,_)],[]⟩ rfl (Fin.aq [.one (.bool false)] (.inl rfl) rfl (.cons (.tmp rfl) .nil) ⟨rfl,rfl⟩)
     ·refine ab.skip (Fin.ag ⟨[(3,_),(4,_)],[(101,_),(102,_)]⟩ rfl (Fin.then (ab.seq (ab.aa ?_))))
      refine Oc (lp aJ) (Oc (lp aJ) ?_)
      obtain ⟨⟨x_16,x_17⟩,e31,h⟩:=aD h
      refine Oc (ad (wY e31) goes37 rfl rfl) (Oc om (Oc (ay rfl rfl) ?_))
      refine ae.ag ⟨[(3,_),(4,_),(109,.eY [.one (.i x_16),.one (.i x_17)]),(113,I x_16)],[(101,_),(102,_)]⟩ rfl (Oc (ay rfl rfl) (Oc oa (Oc oa ?_)))
      refine ae.an ⟨[(3,_),(4,_),(10,I x_16),(11,I x_17)],[(101,_),(102,_)]⟩ rfl (ab.seq (ab.aa ?_))
      refine Oc oa (ae.an ⟨[(3,_),(4,_),(10,_),(11,_),(12,I 0)],[(101,_),(102,_)]⟩ rfl (ab.seq (ab.aa ?_)))
      refine Oc oa (ae.an ⟨[(3,_),(4,_),(10,_),(11,_),(12,_),(13,I 0)],[(101,_),(102,_)]⟩ rfl ?_)
      obtain ⟨v32,h33,h⟩:=aD h
      refine ab.cB (v:=v32) (b9 fun (want_18:Int) (sure_19:Int)=>⟨[(3,Pt 101 0),(10,I x_16),(11,I x_17),(12,I want_18),(13,I sure_19)],[(101,.box 31 (ao a0))]⟩) (fun z=>z) ?_ ?_
      ·refine ab.seq (ab.aa ?_)
       refine Oc (lp aJ) ?_
       obtain ⟨x_20,e34,h33⟩:=aD h33
       refine Oc (ad (bM e34) nK rfl rfl) (Oc (aT rfl) (Oc om ?_))
       refine cx (!(!x_20)) [] (fun g35=>trivial) (fun g35=>lp aJ) (ae.ag ⟨[(3,_),(4,_),(10,_),(11,_),(12,_),(13,_),(118,B (!x_20)),(119,.dh (!(!x_20)) (.agg (ao b0)))],[(101,_),(102,_)]⟩ rfl ?_)
       obtain ⟨x_21,e37,h33⟩:=aD h33
       refine cx (!(!x_20)) [119] (fun g36=>⟨g36,trivial⟩) (fun g36=>ad (bM (gc e37 g36)) nK rfl rfl) (cx (!(!x_20)) [120] (fun g38=>⟨g38,trivial⟩) (fun g38=>aT rfl) (Oc (aQ (fun e=>by rw [e]; rfl) rfl rfl rfl rfl) (ae.an ⟨[(3,_),(4,_),(10,_),(11,_),(12,_),(13,_),(122,B ((!x_20) || (!x_21)))],[(101,_),(102,_)]⟩ rfl (ab.ite h33 rfl (fun _ h33=>?_) (fun _ h33=>?_)))))
       ·refine ab.aa (Oc oa (ae.nil ?_))
        exact Fin.join [3,10,11,12,13] [101] (0,1) (Option.some.inj h33) rfl
       ·refine ab.seq (ab.aa ?_)
        refine Oc (af cy rfl rfl) (Oc (lp aY) (Oc (af cy rfl rfl) (Oc (lp aY) (Oc (dG (oM a0.U b0.U) rfl rfl gR) ?_))))
        refine ae.an ⟨[(3,_),(4,_),(10,_),(11,_),(12,_),(13,_),(127,B (decide (a0.U ≠ b0.U)))],[(101,_),(102,_)]⟩ rfl (ab.ite h33 rfl (fun _ h33=>?_) (fun _ h33=>?_))
        ·refine ab.aa (Oc oa (ae.nil ?_))
         exact Fin.join [3,10,11,12,13] [101] (0,110) (Option.some.inj h33) rfl
        ·refine ab.aa (Oc (af bU rfl rfl) (Oc (lp aC) (Oc (af bU rfl rfl) (Oc (lp aC) ?_))))
         obtain ⟨x_22,e39,h33⟩:=aD h33
         refine Oc (ad (zL e39) goes48 rfl rfl) (Oc oa ?_)
         refine ae.nil ?_
         exact Fin.join [3,10,11,12,13] [101] (x_22,0) (Option.some.inj h33) rfl
      ·rintro ⟨want_18,sure_19⟩ hv
       subst v32
       refine ab.seq (ab.ag ⟨[(3,_),(10,_),(11,_),(12,_),(13,_)],[(101,_)]⟩ rfl ?_)
       obtain ⟨x_23,e40,h⟩:=aD h
       obtain ⟨x_24,e49,h⟩:=aD h
       obtain ⟨x_25,e52,h⟩:=aD h
       refine ab.bm mixed 19 [B x_23,B x_23,.dh x_23 (.one (.i x_16)),.dh x_23 (.one (.i want_18)),.dh x_23 (.one (.bool (decide (x_16 = want_18)))),B (x_23 && (decide (x_16 = want_18))),B (x_23 && (decide (x_16 = want_18))),.dh (x_23 && (decide (x_16 = want_18))) (.one (.i x_17)),.dh (x_23 && (decide (x_16 = want_18))) (.one (.i sure_19)),.dh (x_23 && (decide (x_16 = want_18))) (.one (.bool (decide (x_17 = sure_19)))),B ((x_23 && (decide (x_16 = want_18))) && (decide (x_17 = sure_19))),B ((x_23 && (decide (x_16 = want_18))) && (decide (x_17 = sure_19))),.dh ((x_23 && (decide (x_16 = want_18))) && (decide (x_17 = sure_19))) (.agg (ao a0)),.dh ((x_23 && (decide (x_16 = want_18))) && (decide (x_17 = sure_19))) (.one (.str x_24)),.dh ((x_23 && (decide (x_16 = want_18))) && (decide (x_17 = sure_19))) (.agg (ao a0)),.dh ((x_23 && (decide (x_16 = want_18))) && (decide (x_17 = sure_19))) (.one (.str x_25)),.dh ((x_23 && (decide (x_16 = want_18))) && (decide (x_17 = sure_19))) (.one (.bool (decide (x_24 = x_25)))),B (((x_23 && (decide (x_16 = want_18))) && (decide (x_17 = sure_19))) && (decide (x_24 = x_25))),B (((x_23 && (decide (x_16 = want_18))) && (decide (x_17 = sure_19))) && (decide (x_24 = x_25)))] [6] [] (s':=⟨[(6,B (((x_23 && (decide (x_16 = want_18))) && (decide (x_17 = sure_19))) && (decide (x_24 = x_25))))],[]⟩) rfl ⟨fun _=>.p (ad (mS e40) goes10 rfl rfl),fun _=>.p om,fun _=>by exact .guard x_23 1 [] (.plain rfl) (jY _) rfl rfl (fun g41=>trivial) (fun g41=>om),fun _=>by exact .guard x_23 1 [] (.plain rfl) (jY _) rfl rfl (fun g42=>trivial) (fun g42=>om),fun _=>by exact .guard x_23 3 [135,136] (.plain rfl) (jY _) rfl rfl (fun g43=>⟨g43,g43,trivial⟩) (fun g43=>cR rfl rfl),fun _=>.p (aG (fun e=>e) rfl rfl rfl rfl),fun _=>.p om,fun _=>by exact .guard (x_23 && (decide (x_16 = want_18))) 1 [] (.plain rfl) (jY _) rfl rfl (fun g44=>trivial) (fun g44=>om),fun _=>by exact .guard (x_23 && (decide (x_16 = want_18))) 1 [] (.plain rfl) (jY _) rfl rfl (fun g45=>trivial) (fun g45=>om),fun _=>by exact .guard (x_23 && (decide (x_16 = want_18))) 3 [140,141] (.plain rfl) (jY _) rfl rfl (fun g46=>⟨g46,g46,trivial⟩) (fun g46=>cR rfl rfl),fun _=>.p (aG (fun e=>e) rfl rfl rfl rfl),fun _=>.p om,fun _=>by exact .guard ((x_23 && (decide (x_16 = want_18))) && (decide (x_17 = sure_19))) 1 [] (.plain rfl) (jY _) rfl rfl (fun g47=>trivial) (fun g47=>lp aJ),fun _=>by exact .guard ((x_23 && (decide (x_16 = want_18))) && (decide (x_17 = sure_19))) 3 [145] (.plain rfl) (jY _) rfl rfl (fun g48=>⟨g48,trivial⟩) (fun g48=>ad (pI (gc e49 g48)) D9 rfl rfl),fun _=>by exact .guard ((x_23 && (decide (x_16 = want_18))) && (decide (x_17 = sure_19))) 1 [] (.plain rfl) (jY _) rfl rfl (fun g50=>trivial) (fun g50=>lp aJ),fun _=>by exact .guard ((x_23 && (decide (x_16 = want_18))) && (decide (x_17 = sure_19))) 3 [147] (.plain rfl) (jY _) rfl rfl (fun g51=>⟨g51,trivial⟩) (fun g51=>ad (nN (gc e52 g51)) goes49 rfl rfl),fun _=>by exact .guard ((x_23 && (decide (x_16 = want_18))) && (decide (x_17 = sure_19))) 3 [146,148] (.plain rfl) (jY _) rfl rfl (fun g53=>⟨g53,g53,trivial⟩) (fun g53=>c7 rfl rfl),fun _=>.p (aG (fun e=>e) rfl rfl rfl rfl),fun _=>.p oa,trivial⟩ rfl rfl ?_
       refine ab.ret ?_
       obtain rfl:=Option.some.inj h
       refine Fin.ag ⟨[(6,_)],[]⟩ rfl (Fin.aq [.one (.bool (((x_23 && (decide (x_16 = want_18))) && (decide (x_17 = sure_19))) && (decide (x_24 = x_25))))] (.inl rfl) rfl (.cons (.tmp rfl) .nil) ⟨rfl,rfl⟩)
end Go.Proofs.YtcbbilehdaaffaaGreatDoor

