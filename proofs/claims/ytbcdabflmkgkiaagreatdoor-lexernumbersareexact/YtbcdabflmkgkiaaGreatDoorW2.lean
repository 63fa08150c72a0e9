/- printed walks -/
import Derived.Test.YtbcdabflmkgkiaaGreatDoorW1
namespace Go.Proofs.YtbcdabflmkgkiaaGreatDoor
open Go.Sk
set_option maxHeartbeats 4000000
set_option maxRecDepth 4000
set_option linter.unusedSimpArgs false
set_option linter.unusedVariables false
variable {mx : Int}
def jg (F:Nat) (a0:cV) (b0:cV):Option cV :=
 (ew F [a0,b0]).bind fun x_1=>if (!x_1) = true then ((fm F).bind fun x_2=>some x_2) else ((gy F a0.W).bind fun x_3=>(gy F b0.W).bind fun x_4=>Option.bind (iter F (cF fun out_6 x_7=>if (decide (x_7 < x_3)) = true then (Option.bind (Option.bind (iter F (kr fun out_12 carry_13 x_14=>if (decide (x_14 < x_4)) = true then ((aZ a0.W.l x_7).bind fun x_17=>(aZ b0.W.l x_14).bind fun x_18=>(aZ out_12.l (IntKind.i64.wrap (x_7 + x_14))).bind fun x_19=>cu (IntKind.u64.wrap (carry_13 + (IntKind.u64.wrap ((IntKind.u64.wrap ((IntKind.u64.wrap x_17) * (IntKind.u64.wrap x_18))) + (IntKind.u64.wrap x_19))))) fun x_20=>(aZ out_12.l (IntKind.i64.wrap (x_7 + x_14))).bind fun x_21=>cu (IntKind.u64.wrap (carry_13 + (IntKind.u64.wrap ((IntKind.u64.wrap ((IntKind.u64.wrap x_17) * (IntKind.u64.wrap x_18))) + (IntKind.u64.wrap x_19))))) fun x_22=>some (.inl (out_12.set (IntKind.i64.wrap (x_7 + x_14)) (IntKind.u32.wrap x_20),x_22 / 4294967296,IntKind.i64.wrap (x_14 + 1)))) else (some (.inr (out_12,carry_13)))) (out_6,0,0)) (cF fun out_10 carry_11=>(aZ out_10.l (IntKind.i64.wrap (x_7 + x_4))).bind fun x_23=>some (out_10.set (IntKind.i64.wrap (x_7 + x_4)) (IntKind.u32.wrap carry_11)))) (fun out_9=>some (.inl (out_9,IntKind.i64.wrap (x_7 + 1))))) else (some (.inr out_6))) (gu.zero,0)) (fun out_5=>cu (⟨out_5.zN,out_5.a17,out_5.a18,out_5.a19,out_5.a20,out_5.a21,out_5.a22,out_5.a23,out_5.a24,out_5.a25,out_5.a26,out_5.a27,out_5.a28,out_5.a29,out_5.a30,out_5.a31⟩:aT) fun x_24=>if (decide (x_24 ≠ aT.zero)) = true then ((fm F).bind fun x_25=>some x_25) else ((cH F (a0.Neg != b0.Neg) (⟨out_5.a0,out_5.a1,out_5.a2,out_5.a3,out_5.a4,out_5.a5,out_5.a6,out_5.a7,out_5.a8,out_5.a9,out_5.a10,out_5.a11,out_5.a12,out_5.a13,out_5.a14,out_5.a15⟩:aT)).bind fun x_26=>some x_26)))
theorem dP {F:Nat} {a0:cV} {b0:cV} {r:cV} (h:jg F a0 b0 = some r):ax Tryz.prog (bh mx) 50 [] [.agg (au a0),.agg (au b0)] (Is [] (.b (.agg (au r)))):=by
 unfold jg at h
 refine ax.intro 82 Tryz.func50 Tryz.ntmps50 rfl (by simp) fun E=>?_
 show ab _ E ⟨82,[],[],[]⟩ _ ⟨[(0,.b (.agg (au a0))),(1,.b (.agg (au b0)))],[]⟩ _
 refine ab.seq (ab.aa ?_)
 refine Oc (bM (k:=101) rfl rfl) (Oc (bM (k:=102) rfl rfl) (Oc (aA (k:=103) bP rfl) ?_))
 refine ae.aj ⟨[(2,Pt 101 0),(3,Pt 102 0),(4,Pt 103 0)],[(101,.box 35 (au a0)),(102,.box 35 (au b0)),(103,.box 35 dF)]⟩ rfl (ab.seq (ab.seq (ab.aa ?_)))
 refine Oc (lp an) (Oc (lp an) (Oc (bp (k:=104) (es:=[a0,b0].map au) jW rfl rfl (cZ fun _=>rfl) rfl (by decide) (by decide) rfl) ?_))
 obtain ⟨x_1,e1,h⟩:=aO h
 refine Oc (fY (fc e1) kL rfl CP.gk) (Oc (cX rfl) ?_)
 refine ae.aj ⟨[(2,_),(3,_),(4,_),(15,B (!x_1))],[(101,_),(102,_),(103,_)]⟩ rfl (ab.ite h rfl (fun _ h=>?_) (fun _ h=>?_))
 ·refine ab.seq (ab.aa ?_)
  obtain ⟨x_2,e2,h⟩:=aO h
  refine Oc (ag (dB e2) jD rfl rfl) (Oc (ao an rfl rfl rfl rfl (Nat.le_of_ble_eq_true rfl) rfl) ?_)
  refine ae.aj ⟨[(4,_)],[(103,.box 35 (au x_2))]⟩ rfl (ab.ret (Fin.aI ?_))
  obtain rfl:=Option.some.inj h
  refine Fin.ah ⟨[(4,_)],[(103,_)]⟩ rfl (Fin.ay [.agg (au x_2)] (.inl rfl) rfl (.cons (.agg an rfl rfl rfl rfl) .nil) ⟨rfl,rfl⟩)
 ·refine ab.skip (Fin.ah ⟨[(2,_),(3,_),(4,_)],[(101,_),(102,_),(103,_)]⟩ rfl (Fin.then (ab.seq (ab.aa ?_))))
  refine Oc (aA (k:=105) AY rfl) (ae.aj ⟨[(2,_),(3,_),(4,_),(5,Pt 105 0)],[(101,_),(102,_),(103,_),(105,.box 133 ((xe .u32) gu.zero))]⟩ rfl (ab.seq ?_))
  obtain ⟨x_3,e3,h⟩:=aO h
  obtain ⟨x_4,e4,h⟩:=aO h
  refine ab.bR mixed 8 [Pt 101 2,.b (.agg (eW a0.W)),I x_3,Pt 102 2,.b (.agg (eW b0.W)),I x_4,I x_3,I x_4] [2,3,4,5,6,7] [101,102,103,105] (s':=⟨[(2,_),(3,_),(4,_),(5,_),(6,I x_3),(7,I x_4)],[(101,_),(102,_),(103,_),(105,_)]⟩) rfl ⟨fun _=>.p (af ba rfl rfl),fun _=>.p (lp aD),fun _=>.p (ag (gH e3) nB rfl rfl),fun _=>.p (af ba rfl rfl),fun _=>.p (lp aD),fun _=>.p (ag (gH e4) nB rfl rfl),fun _=>.p oa,fun _=>.p oa,trivial⟩ rfl rfl ?_
  obtain ⟨v5,h6,h⟩:=aO h
  refine ab.cN (v:=v5) (fun (out_5:gu)=>⟨[(2,Pt 101 0),(3,Pt 102 0),(4,Pt 103 0),(5,Pt 105 0)],[(101,.box 35 (au a0)),(102,.box 35 (au b0)),(103,.box 35 dF),(105,.box 133 ((xe .u32) out_5))]⟩) (fun z=>z) ?_ ?_
  ·refine ab.seq (ab.aa ?_)
   refine Oc om (Oc om ?_)
   refine ae.aj ⟨[(2,_),(3,_),(4,_),(5,_),(7,_),(23,I x_3),(24,I 0)],[(101,_),(102,_),(103,_),(105,_)]⟩ rfl (ab.block (ab.dM h6 (cF fun (out_6:gu) (x_7:Int)=>⟨[(2,Pt 101 0),(3,Pt 102 0),(4,Pt 103 0),(5,Pt 105 0),(7,I x_4),(23,I x_3),(24,I x_7)],[(101,.box 35 (au a0)),(102,.box 35 (au b0)),(103,.box 35 dF),(105,.box 133 ((xe .u32) out_6))]⟩) [2,3,4,5,7,23,24] [101,102,103,105] rfl ?_))
   rintro ⟨out_6,x_7⟩ o7 h8 hy9
   refine ab.seq (ab.aa ?_)
   refine Oc (b7 rfl rfl) (ae.aj ⟨[(2,_),(3,_),(4,_),(5,_),(7,_),(23,_),(24,_),(25,B (decide (x_7 < x_3)))],[(101,_),(102,_),(103,_),(105,_)]⟩ rfl (ab.seq (ab.ite h8 rfl (fun _ h8=>?_) (fun _ h8=>?_))))
   ·refine ab.skip (Fin.ah ⟨[(2,_),(3,_),(4,_),(5,_),(7,_),(23,_),(24,_)],[(101,_),(102,_),(103,_),(105,_)]⟩ rfl (Fin.then ?_))
    obtain ⟨v10,h11,h8⟩:=aO h8
    refine ab.cN (v:=v10) (fun (out_9:gu)=>⟨[(2,Pt 101 0),(3,Pt 102 0),(4,Pt 103 0),(5,Pt 105 0),(7,I x_4),(23,I x_3),(24,I x_7)],[(101,.box 35 (au a0)),(102,.box 35 (au b0)),(103,.box 35 dF),(105,.box 133 ((xe .u32) out_9))]⟩) (fun z=>z) ?_ ?_
    ·refine ab.block (ab.seq (ab.aa ?_))
     refine Oc om (Oc oa ?_)
     refine ae.aj ⟨[(2,_),(3,_),(4,_),(5,_),(7,_),(8,I x_7),(23,_),(24,_)],[(101,_),(102,_),(103,_),(105,_)]⟩ rfl (ab.seq (ab.aa ?_))
     refine Oc oa (ae.aj ⟨[(2,_),(3,_),(4,_),(5,_),(7,_),(8,_),(9,.b (.one (.int .u64 0))),(23,_),(24,_)],[(101,_),(102,_),(103,_),(105,_)]⟩ rfl ?_)
     obtain ⟨v12,h13,h11⟩:=aO h11
     refine ab.cN (v:=v12) (cF fun (out_10:gu) (carry_11:Int)=>⟨[(2,Pt 101 0),(3,Pt 102 0),(4,Pt 103 0),(5,Pt 105 0),(7,I x_4),(8,I x_7),(9,.b (.one (.int .u64 carry_11))),(23,I x_3),(24,I x_7)],[(101,.box 35 (au a0)),(102,.box 35 (au b0)),(103,.box 35 dF),(105,.box 133 ((xe .u32) out_10))]⟩) (fun z=>z) ?_ ?_
     ·refine ab.seq (ab.aa ?_)
      refine Oc om (Oc om ?_)
      refine ae.aj ⟨[(2,_),(3,_),(4,_),(5,_),(7,_),(8,_),(9,_),(23,_),(24,_),(27,I x_4),(28,I 0)],[(101,_),(102,_),(103,_),(105,_)]⟩ rfl (ab.block (ab.dM h13 (kr fun (out_12:gu) (carry_13:Int) (x_14:Int)=>⟨[(2,Pt 101 0),(3,Pt 102 0),(4,Pt 103 0),(5,Pt 105 0),(7,I x_4),(8,I x_7),(9,.b (.one (.int .u64 carry_13))),(23,I x_3),(24,I x_7),(27,I x_4),(28,I x_14)],[(101,.box 35 (au a0)),(102,.box 35 (au b0)),(103,.box 35 dF),(105,.box 133 ((xe .u32) out_12))]⟩) [2,3,4,5,7,8,9,23,24,27,28] [101,102,103,105] rfl ?_))
      rintro ⟨out_12,carry_13,x_14⟩ o14 h15 hy16
      refine ab.seq (ab.aa ?_)
      refine Oc (b7 rfl rfl) (ae.aj ⟨[(2,_),(3,_),(4,_),(5,_),(7,_),(8,_),(9,_),(23,_),(24,_),(27,_),(28,_),(29,B (decide (x_14 < x_4)))],[(101,_),(102,_),(103,_),(105,_)]⟩ rfl (ab.seq (ab.ite h15 rfl (fun _ h15=>?_) (fun _ h15=>?_))))
      ·refine ab.skip (Fin.ah ⟨[(2,_),(3,_),(4,_),(5,_),(7,_),(8,_),(9,_),(23,_),(24,_),(27,_),(28,_)],[(101,_),(102,_),(103,_),(105,_)]⟩ rfl (Fin.then (ab.seq (ab.block (ab.seq (ab.aa ?_))))))
       refine Oc om (Oc oa ?_)
       refine ae.aj ⟨[(2,_),(3,_),(4,_),(5,_),(7,_),(8,_),(9,_),(10,I x_14),(23,_),(24,_),(27,_),(28,_)],[(101,_),(102,_),(103,_),(105,_)]⟩ rfl (ab.seq ?_)
       obtain ⟨x_17,e17,h15⟩:=aO h15
       obtain ⟨x_18,e18,h15⟩:=aO h15
       obtain ⟨x_19,e19,h15⟩:=aO h15
       refine ab.bR mixed 20 [.b (.one (.int .u64 carry_13)),I x_7,Pt 101 2,.b (.ptr 101 (2 + (x_7:Int).toNat * 1)),.b (.one (.int .u32 x_17)),.b (.one (.int .u64 (IntKind.u64.wrap x_17))),I x_14,Pt 102 2,.b (.ptr 102 (2 + (x_14:Int).toNat * 1)),.b (.one (.int .u32 x_18)),.b (.one (.int .u64 (IntKind.u64.wrap x_18))),.b (.one (.int .u64 (IntKind.u64.wrap ((IntKind.u64.wrap x_17) * (IntKind.u64.wrap x_18))))),I x_7,I x_14,I (IntKind.i64.wrap (x_7 + x_14)),.b (.ptr 105 (0 + (IntKind.i64.wrap (x_7 + x_14):Int).toNat * 1)),.b (.one (.int .u32 x_19)),.b (.one (.int .u64 (IntKind.u64.wrap x_19))),.b (.one (.int .u64 (IntKind.u64.wrap ((IntKind.u64.wrap ((IntKind.u64.wrap x_17) * (IntKind.u64.wrap x_18))) + (IntKind.u64.wrap x_19))))),.b (.one (.int .u64 (IntKind.u64.wrap (carry_13 + (IntKind.u64.wrap ((IntKind.u64.wrap ((IntKind.u64.wrap x_17) * (IntKind.u64.wrap x_18))) + (IntKind.u64.wrap x_19)))))))] [2,3,4,5,7,8,9,10,23,24,27,28] [101,102,103,105] (s':=⟨[(2,_),(3,_),(4,_),(5,_),(7,_),(8,_),(9,.b (.one (.int .u64 (IntKind.u64.wrap (carry_13 + (IntKind.u64.wrap ((IntKind.u64.wrap ((IntKind.u64.wrap x_17) * (IntKind.u64.wrap x_18))) + (IntKind.u64.wrap x_19)))))))),(10,_),(23,_),(24,_),(27,_),(28,_)],[(101,_),(102,_),(103,_),(105,_)]⟩) rfl ⟨fun _=>.p om,fun _=>.p om,fun _=>.p (af ba rfl rfl),fun _=>.p (aN bQ (bb e17) (cD e17) rfl rfl rfl),fun _=>.p (aq bn rfl rfl (cI (post:=[]) (k:=.u32) [.bool a0.Bad,.bool a0.Neg] e17 rfl rfl rfl)),fun _=>.p (az bL bJ rfl),fun _=>.p om,fun _=>.p (af ba rfl rfl),fun _=>.p (aN bQ (bb e18) (cD e18) rfl rfl rfl),fun _=>.p (aq bn rfl rfl (cI (post:=[]) (k:=.u32) [.bool b0.Bad,.bool b0.Neg] e18 rfl rfl rfl)),fun _=>.p (az bL bJ rfl),fun _=>.p (rT rfl rfl),fun _=>.p om,fun _=>.p om,fun _=>.p (aW rfl rfl),fun _=>.p (aN oA (bb e19) (cD e19) rfl rfl rfl),fun _=>.p (aq bn rfl rfl (cI (post:=[]) (k:=.u32) [] e19 rfl rfl rfl)),fun _=>.p (az bL bJ rfl),fun _=>.p (aW rfl rfl),fun _=>.p (aW rfl rfl),trivial⟩ ⟨_,by exact .p oa,rfl⟩ rfl (ab.seq (ab.aa ?_))
       refine Oc om (Oc om (Oc (aW rfl rfl) ?_))
       refine ae.dw .u64 h15 rfl om (fun x_20 h15=>?_)
       refine Oc (az bJ bL rfl) ?_
       obtain ⟨x_21,e20,h15⟩:=aO h15
       refine Oc (aN oA (bb e20) (cD e20) rfl rfl rfl) (Oc (bA bn rfl rfl rfl (kA (post:=[]) (k:=.u32) [] e20 rfl rfl rfl) (iK (post:=[]) (k:=.u32) [] e20 rfl rfl (gu.jz out_12 (IntKind.i64.wrap (x_7 + x_14)) (IntKind.u32.wrap x_20)) rfl rfl)) ?_)
       refine ae.aj ⟨[(2,_),(3,_),(4,_),(5,_),(7,_),(8,_),(9,_),(23,_),(24,_),(27,_),(28,_)],[(101,_),(102,_),(103,_),(105,.box 133 ((xe .u32) (out_12.set (IntKind.i64.wrap (x_7 + x_14)) (IntKind.u32.wrap x_20))))]⟩ rfl (ab.aa (ae.dw .u64 h15 rfl om (fun x_22 h15=>?_)))
       refine Oc (fM (m:=32) (by decide) rfl rfl rfl) (Oc oa ?_)
       refine ae.nil (Fin.aC (Fin.ah ⟨[(2,_),(3,_),(4,_),(5,_),(7,_),(8,_),(9,.b (.one (.int .u64 (x_22 / 4294967296)))),(23,_),(24,_),(27,_),(28,_)],[(101,_),(102,_),(103,_),(105,_)]⟩ rfl (Fin.then (ab.aa ?_))))
       refine Oc (aW rfl rfl) (Oc om ?_)
       refine ae.nil ?_
       exact Fin.cy [2,3,4,5,7,8,9,23,24,27,28] [101,102,103,105] (out_12.set (IntKind.i64.wrap (x_7 + x_14)) (IntKind.u32.wrap x_20),x_22 / 4294967296,IntKind.i64.wrap (x_14 + 1)) (Option.some.inj h15) rfl
      ·refine ab.exit (Fin.aB ?_)
       obtain rfl:=hy16 _ (Option.some.inj h15).symm
       refine Fin.aB (Fin.aU ?_)
       exact Fin.join [2,3,4,5,7,8,9,23,24] [101,102,103,105] (out_12,carry_13) rfl rfl
     ·rintro ⟨out_10,carry_11⟩ hv
      subst v12
      refine ab.aa (Oc om (Oc om (Oc (aW rfl rfl) (Oc om (Oc (az bJ bL rfl) ?_)))))
      obtain ⟨x_23,e21,h11⟩:=aO h11
      refine Oc (aN oA (bb e21) (cD e21) rfl rfl rfl) (Oc (bA bn rfl rfl rfl (kA (post:=[]) (k:=.u32) [] e21 rfl rfl rfl) (iK (post:=[]) (k:=.u32) [] e21 rfl rfl (gu.jz out_10 (IntKind.i64.wrap (x_7 + x_4)) (IntKind.u32.wrap carry_11)) rfl rfl)) ?_)
      refine ae.nil (Fin.aC ?_)
      exact Fin.join [2,3,4,5,7,23,24] [101,102,103,105] (out_10.set (IntKind.i64.wrap (x_7 + x_4)) (IntKind.u32.wrap carry_11)) (Option.some.inj h11) rfl
    ·rintro out_9 hv
     subst v10
     refine ab.aa (Oc (aW rfl rfl) (Oc om ?_))
     refine ae.nil ?_
     exact Fin.cy [2,3,4,5,7,23,24] [101,102,103,105] (out_9,IntKind.i64.wrap (x_7 + 1)) (Option.some.inj h8) rfl
   ·refine ab.exit (Fin.aB ?_)
    obtain rfl:=hy9 _ (Option.some.inj h8).symm
    refine Fin.aB (Fin.aU ?_)
    exact Fin.join [2,3,4,5] [101,102,103,105] out_6 rfl rfl
  ·rintro out_5 hv
   subst v5
   refine ab.seq (ab.seq (ab.aa ?_))
   refine Oc (ya (i:=16) oA (by decide) (by decide) rfl rfl) (Oc (uc bQ (by decide) rfl) ?_)
   refine ae.vm eW h rfl (lp aD) (fun x_24 h=>?_)
   refine Oc (gg gf rfl rfl) (Oc (lq (po x_24 aT.zero) rfl rfl qN) ?_)
   refine ae.aj ⟨[(2,_),(3,_),(4,_),(5,_),(71,B (decide (x_24 ≠ aT.zero)))],[(101,_),(102,_),(103,_),(105,_)]⟩ rfl (ab.ite h rfl (fun _ h=>?_) (fun _ h=>?_))
   ·refine ab.seq (ab.aa ?_)
    obtain ⟨x_25,e22,h⟩:=aO h
    refine Oc (ag (dB e22) jD rfl rfl) (Oc (ao an rfl rfl rfl rfl (Nat.le_of_ble_eq_true rfl) rfl) ?_)
    refine ae.aj ⟨[(4,_)],[(103,.box 35 (au x_25))]⟩ rfl (ab.ret (Fin.aI ?_))
    obtain rfl:=Option.some.inj h
    refine Fin.ah ⟨[(4,_)],[(103,_)]⟩ rfl (Fin.ay [.agg (au x_25)] (.inl rfl) rfl (.cons (.agg an rfl rfl rfl rfl) .nil) ⟨rfl,rfl⟩)
   ·refine ab.skip (Fin.ah ⟨[(2,_),(3,_),(4,_),(5,_)],[(101,_),(102,_),(103,_),(105,_)]⟩ rfl (Fin.then (ab.seq ?_)))
    refine ab.ah ⟨[(2,_),(3,_),(4,_),(5,_)],[(101,_),(102,_),(103,_),(105,_)]⟩ rfl ?_
    obtain ⟨x_26,e23,h⟩:=aO h
    refine ab.bR mixed 9 [Pt 101 1,B a0.Neg,Pt 102 1,B b0.Neg,B (a0.Neg != b0.Neg),.b (.sG 105 0 16 32),Pt 105 0,.b (.agg [.int .u32 out_5.a0,.int .u32 out_5.a1,.int .u32 out_5.a2,.int .u32 out_5.a3,.int .u32 out_5.a4,.int .u32 out_5.a5,.int .u32 out_5.a6,.int .u32 out_5.a7,.int .u32 out_5.a8,.int .u32 out_5.a9,.int .u32 out_5.a10,.int .u32 out_5.a11,.int .u32 out_5.a12,.int .u32 out_5.a13,.int .u32 out_5.a14,.int .u32 out_5.a15]),.b (.agg (au x_26))] [4] [103] (s':=⟨[(4,_)],[(103,.box 35 (au x_26))]⟩) rfl ⟨fun _=>.p (af c6 rfl rfl),fun _=>.p (aq dG rfl rfl rfl),fun _=>.p (af c6 rfl rfl),fun _=>.p (aq dG rfl rfl rfl),fun _=>.p (lU B2 rfl rfl),fun _=>.p (sP (i:=16) oA (by decide) (by decide) rfl rfl),fun _=>.p (uc bQ (by decide) rfl),fun _=>.p (lp aD),fun _=>.p (ag (cC e23) jC rfl rfl),trivial⟩ ⟨_,by exact .p (ao an rfl rfl rfl rfl (Nat.le_of_ble_eq_true rfl) rfl),rfl⟩ rfl (ab.ret ?_)
    obtain rfl:=Option.some.inj h
    refine Fin.ah ⟨[(4,_)],[(103,_)]⟩ rfl (Fin.ay [.agg (au x_26)] (.inl rfl) rfl (.cons (.agg an rfl rfl rfl rfl) .nil) ⟨rfl,rfl⟩)
def ox (F:Nat) (a0:aT) (b0:aT):Option (aT × Bool) :=
 Option.bind (iter F (kr fun out_3 carry_4 x_5=>if (decide (x_5 < 16)) = true then ((aZ a0.l x_5).bind fun x_8=>(aZ b0.l x_5).bind fun x_9=>cu (IntKind.u64.wrap (carry_4 + (IntKind.u64.wrap ((IntKind.u64.wrap x_8) + (IntKind.u64.wrap x_9))))) fun x_10=>(aZ out_3.l x_5).bind fun x_11=>cu (IntKind.u64.wrap (carry_4 + (IntKind.u64.wrap ((IntKind.u64.wrap x_8) + (IntKind.u64.wrap x_9))))) fun x_12=>some (.inl (out_3.set x_5 (IntKind.u32.wrap x_10),x_12 / 4294967296,IntKind.i64.wrap (x_5 + 1)))) else (some (.inr (out_3,carry_4)))) (aT.zero,0,0)) (cF fun out_1 carry_2=>some (out_1,decide (carry_2 = 0)))
theorem xR {F:Nat} {a0:aT} {b0:aT} {r:aT × Bool} (h:ox F a0 b0 = some r):ax Tryz.prog (bh mx) 108 [] [.agg (eW a0),.agg (eW b0)] (Is [] (.fG [.agg (eW r.1),.one (.bool r.2)])):=by
 unfold ox at h
 refine ax.intro 33 Tryz.func108 Tryz.ntmps108 rfl (by simp) fun E=>?_
 show ab _ E ⟨33,[],[],[]⟩ _ ⟨[(0,.b (.agg (eW a0))),(1,.b (.agg (eW b0)))],[]⟩ _
 refine ab.seq (ab.aa ?_)
 refine Oc (bM (k:=101) rfl rfl) (Oc (bM (k:=102) rfl rfl) (Oc (aA (k:=103) cP rfl) (Oc oa ?_)))
 refine ae.aj ⟨[(2,Pt 101 0),(3,Pt 102 0),(4,Pt 103 0)],[(101,.box 33 (eW a0)),(102,.box 33 (eW b0)),(103,.box 33 (eW aT.zero))]⟩ rfl (ab.seq (ab.aa ?_))
 refine Oc (aA (k:=104) cP rfl) (ae.aj ⟨[(2,_),(3,_),(4,_),(6,Pt 104 0)],[(101,_),(102,_),(103,_),(104,.box 33 (eW aT.zero))]⟩ rfl (ab.seq (ab.aa ?_)))
 refine Oc oa (ae.aj ⟨[(2,_),(3,_),(4,_),(6,_),(7,.b (.one (.int .u64 0)))],[(101,_),(102,_),(103,_),(104,_)]⟩ rfl ?_)
 obtain ⟨v1,h2,h⟩:=aO h
 refine ab.cN (v:=v1) (cF fun (out_1:aT) (carry_2:Int)=>⟨[(4,Pt 103 0),(6,Pt 104 0),(7,.b (.one (.int .u64 carry_2)))],[(103,.box 33 (eW aT.zero)),(104,.box 33 (eW out_1))]⟩) (fun z=>z) ?_ ?_
 ·refine ab.seq (ab.aa ?_)
  refine Oc om (ae.aj ⟨[(2,_),(3,_),(4,_),(6,_),(7,_),(9,I 0)],[(101,_),(102,_),(103,_),(104,_)]⟩ rfl (ab.block (ab.dM h2 (kr fun (out_3:aT) (carry_4:Int) (x_5:Int)=>⟨[(2,Pt 101 0),(3,Pt 102 0),(4,Pt 103 0),(6,Pt 104 0),(7,.b (.one (.int .u64 carry_4))),(9,I x_5)],[(101,.box 33 (eW a0)),(102,.box 33 (eW b0)),(103,.box 33 (eW aT.zero)),(104,.box 33 (eW out_3))]⟩) [2,3,4,6,7,9] [101,102,103,104] rfl ?_)))
  rintro ⟨out_3,carry_4,x_5⟩ o3 h4 hy5
  refine ab.seq (ab.aa ?_)
  refine Oc (b7 rfl rfl) (ae.aj ⟨[(2,_),(3,_),(4,_),(6,_),(7,_),(9,_),(10,B (decide (x_5 < 16)))],[(101,_),(102,_),(103,_),(104,_)]⟩ rfl (ab.seq (ab.ite h4 rfl (fun _ h4=>?_) (fun _ h4=>?_))))
  ·refine ab.skip (Fin.ah ⟨[(2,_),(3,_),(4,_),(6,_),(7,_),(9,_)],[(101,_),(102,_),(103,_),(104,_)]⟩ rfl (Fin.then (ab.seq (ab.block (ab.seq (ab.aa ?_))))))
   refine Oc om (Oc oa ?_)
   refine ae.aj ⟨[(2,_),(3,_),(4,_),(6,_),(7,_),(8,I x_5),(9,_)],[(101,_),(102,_),(103,_),(104,_)]⟩ rfl (ab.seq ?_)
   obtain ⟨x_8,e6,h4⟩:=aO h4
   obtain ⟨x_9,e7,h4⟩:=aO h4
   refine ab.bR mixed 11 [.b (.one (.int .u64 carry_4)),I x_5,.b (.ptr 101 (0 + (x_5:Int).toNat * 1)),.b (.one (.int .u32 x_8)),.b (.one (.int .u64 (IntKind.u64.wrap x_8))),I x_5,.b (.ptr 102 (0 + (x_5:Int).toNat * 1)),.b (.one (.int .u32 x_9)),.b (.one (.int .u64 (IntKind.u64.wrap x_9))),.b (.one (.int .u64 (IntKind.u64.wrap ((IntKind.u64.wrap x_8) + (IntKind.u64.wrap x_9))))),.b (.one (.int .u64 (IntKind.u64.wrap (carry_4 + (IntKind.u64.wrap ((IntKind.u64.wrap x_8) + (IntKind.u64.wrap x_9)))))))] [2,3,4,6,7,8,9] [101,102,103,104] (s':=⟨[(2,_),(3,_),(4,_),(6,_),(7,.b (.one (.int .u64 (IntKind.u64.wrap (carry_4 + (IntKind.u64.wrap ((IntKind.u64.wrap x_8) + (IntKind.u64.wrap x_9)))))))),(8,_),(9,_)],[(101,_),(102,_),(103,_),(104,_)]⟩) rfl ⟨fun _=>.p om,fun _=>.p om,fun _=>.p (aN bQ (bb e6) (cD e6) rfl rfl rfl),fun _=>.p (aq bn rfl rfl (cI (post:=[]) (k:=.u32) [] e6 rfl rfl rfl)),fun _=>.p (az bL bJ rfl),fun _=>.p om,fun _=>.p (aN bQ (bb e7) (cD e7) rfl rfl rfl),fun _=>.p (aq bn rfl rfl (cI (post:=[]) (k:=.u32) [] e7 rfl rfl rfl)),fun _=>.p (az bL bJ rfl),fun _=>.p (aW rfl rfl),fun _=>.p (aW rfl rfl),trivial⟩ ⟨_,by exact .p oa,rfl⟩ rfl (ab.seq (ab.aa ?_))
   refine Oc om (ae.dw .u64 h4 rfl om (fun x_10 h4=>?_))
   refine Oc (az bJ bL rfl) ?_
   obtain ⟨x_11,e8,h4⟩:=aO h4
   refine Oc (aN bQ (bb e8) (cD e8) rfl rfl rfl) (Oc (bA bn rfl rfl rfl (kA (post:=[]) (k:=.u32) [] e8 rfl rfl rfl) (iK (post:=[]) (k:=.u32) [] e8 rfl rfl (aT.jz out_3 x_5 (IntKind.u32.wrap x_10)) rfl rfl)) ?_)
   refine ae.aj ⟨[(2,_),(3,_),(4,_),(6,_),(7,_),(9,_)],[(101,_),(102,_),(103,_),(104,.box 33 (eW (out_3.set x_5 (IntKind.u32.wrap x_10))))]⟩ rfl (ab.aa (ae.dw .u64 h4 rfl om (fun x_12 h4=>?_)))
   refine Oc (fM (m:=32) (by decide) rfl rfl rfl) (Oc oa ?_)
   refine ae.nil (Fin.aC (Fin.ah ⟨[(2,_),(3,_),(4,_),(6,_),(7,.b (.one (.int .u64 (x_12 / 4294967296)))),(9,_)],[(101,_),(102,_),(103,_),(104,_)]⟩ rfl (Fin.then (ab.aa ?_))))
   refine Oc (aW rfl rfl) (Oc om ?_)
   refine ae.nil ?_
   exact Fin.cy [2,3,4,6,7,9] [101,102,103,104] (out_3.set x_5 (IntKind.u32.wrap x_10),x_12 / 4294967296,IntKind.i64.wrap (x_5 + 1)) (Option.some.inj h4) rfl
  ·refine ab.exit (Fin.aB ?_)
   obtain rfl:=hy5 _ (Option.some.inj h4).symm
   refine Fin.aB (Fin.aU ?_)
   exact Fin.join [4,6,7] [103,104] (out_3,carry_4) rfl rfl
 ·rintro ⟨out_1,carry_2⟩ hv
  subst v1
  refine ab.seq (ab.aa ?_)
  refine Oc (lp aD) (Oc om (Oc (c9 rfl rfl) (Oc (ao aD rfl rfl rfl rfl (Nat.le_of_ble_eq_true rfl) rfl) (Oc oa ?_))))
  refine ae.aj ⟨[(4,_),(5,B (decide (carry_2 = 0)))],[(103,.box 33 (eW out_1))]⟩ rfl (ab.ret ?_)
  obtain rfl:=Option.some.inj h
  refine Fin.ah ⟨[(4,_),(5,_)],[(103,_)]⟩ rfl (Fin.ay [.agg (eW out_1),.one (.bool (decide (carry_2 = 0)))] (.inl rfl) rfl (.cons (.agg aD rfl rfl rfl rfl) (.cons (.tmp rfl) .nil)) ⟨rfl,rfl⟩)
def gL (F:Nat) (x0:Int):Option Bool :=
 some (decide (x0 ≠ x0))
theorem l4 {F:Nat} {x0:Int} {r:Bool} (h:gL F x0 = some r):ax Tryz.prog (bh mx) 170 [] [.one (.int .u32 x0)] (Is [] (.b (.one (.bool r)))):=by
 unfold gL at h
 refine ax.intro 6 Tryz.func170 Tryz.ntmps170 rfl (by simp) fun E=>?_
 show ab _ E ⟨6,[],[],[]⟩ _ ⟨[(0,.b (.one (.int .u32 x0)))],[]⟩ _
 refine ab.seq (ab.aa ?_)
 refine Oc oa (ae.aj ⟨[(0,.b (.one (.int .u32 x0)))],[]⟩ rfl (ab.seq (ab.aa ?_)))
 refine Oc om (Oc om (Oc (dU rfl rfl) (Oc oa ?_)))
 refine ae.aj ⟨[(2,B (decide (x0 ≠ x0)))],[]⟩ rfl (ab.ret ?_)
 obtain rfl:=Option.some.inj h
 refine Fin.ah ⟨[(2,_)],[]⟩ rfl (Fin.ay [.one (.bool (decide (x0 ≠ x0)))] (.inl rfl) rfl (.cons (.tmp rfl) .nil) ⟨rfl,rfl⟩)
def iF (F:Nat) (x0:Int) (y0:Int):Option Int :=
 (gL F x0).bind fun x_1=>(gL F y0).bind fun x_2=>if x_1 = true then (if x_2 = true then (some 0) else (some (-1))) else (if x_2 = true then (some 1) else (if (decide (x0 < y0)) = true then (some (-1)) else (if (decide (y0 < x0)) = true then (some 1) else (some 0))))
theorem sC {F:Nat} {x0:Int} {y0:Int} {r:Int} (h:iF F x0 y0 = some r):ax Tryz.prog (bh mx) 148 [] [.one (.int .u32 x0),.one (.int .u32 y0)] (Is [] (.b (.one (.i r)))):=by
 unfold iF at h
 refine ax.intro 20 Tryz.func148 Tryz.ntmps148 rfl (by simp) fun E=>?_
 show ab _ E ⟨20,[],[],[]⟩ _ ⟨[(0,.b (.one (.int .u32 x0))),(1,.b (.one (.int .u32 y0)))],[]⟩ _
 refine ab.seq (ab.aa ?_)
 refine Oc oa (ae.aj ⟨[(0,.b (.one (.int .u32 x0))),(1,.b (.one (.int .u32 y0)))],[]⟩ rfl (ab.seq (ab.aa ?_)))
 refine Oc om ?_
 obtain ⟨x_1,e1,h⟩:=aO h
 refine Oc (ag (l4 e1) Ap rfl rfl) (Oc oa ?_)
 refine ae.aj ⟨[(0,_),(1,_),(5,B x_1)],[]⟩ rfl (ab.seq (ab.aa ?_))
 refine Oc om ?_
 obtain ⟨x_2,e2,h⟩:=aO h
 refine Oc (ag (l4 e2) Ap rfl rfl) (Oc oa ?_)
 refine ae.aj ⟨[(0,_),(1,_),(5,_),(6,B x_2)],[]⟩ rfl (ab.seq (ab.seq (ab.aa ?_)))
 refine Oc om (ae.aj ⟨[(0,_),(1,_),(6,_),(11,B x_1)],[]⟩ rfl (ab.ite h rfl (fun _ h=>?_) (fun _ h=>?_)))
 ·refine ab.seq (ab.seq (ab.aa ?_))
  refine Oc om (ae.aj ⟨[(12,B x_2)],[]⟩ rfl (ab.ite h rfl (fun _ h=>?_) (fun _ h=>?_)))
  ·refine ab.seq (ab.aa ?_)
   refine Oc oa (ae.aj ⟨[(4,I 0)],[]⟩ rfl (ab.ret (Fin.aI (Fin.aI ?_))))
   obtain rfl:=Option.some.inj h
   refine Fin.ah ⟨[(4,_)],[]⟩ rfl (Fin.ay [.one (.i 0)] (.inl rfl) rfl (.cons (.tmp rfl) .nil) ⟨rfl,rfl⟩)
  ·refine ab.skip (Fin.ah ⟨[],[]⟩ rfl (Fin.then (ab.seq (ab.aa ?_))))
   refine Oc oa (ae.aj ⟨[(4,I (-1))],[]⟩ rfl (ab.ret (Fin.aI ?_)))
   obtain rfl:=Option.some.inj h
   refine Fin.ah ⟨[(4,_)],[]⟩ rfl (Fin.ay [.one (.i (-1))] (.inl rfl) rfl (.cons (.tmp rfl) .nil) ⟨rfl,rfl⟩)
 ·refine ab.skip (Fin.ah ⟨[(0,_),(1,_),(6,_)],[]⟩ rfl (Fin.then (ab.seq (ab.seq (ab.aa ?_)))))
  refine Oc om (ae.aj ⟨[(0,_),(1,_),(13,B x_2)],[]⟩ rfl (ab.ite h rfl (fun _ h=>?_) (fun _ h=>?_)))
  ·refine ab.seq (ab.aa ?_)
   refine Oc oa (ae.aj ⟨[(4,I 1)],[]⟩ rfl (ab.ret (Fin.aI ?_)))
   obtain rfl:=Option.some.inj h
   refine Fin.ah ⟨[(4,_)],[]⟩ rfl (Fin.ay [.one (.i 1)] (.inl rfl) rfl (.cons (.tmp rfl) .nil) ⟨rfl,rfl⟩)
  ·refine ab.skip (Fin.ah ⟨[(0,_),(1,_)],[]⟩ rfl (Fin.then (ab.seq (ab.seq (ab.aa ?_)))))
   refine Oc om (Oc om (Oc (b7 rfl rfl) ?_))
   refine ae.aj ⟨[(0,_),(1,_),(16,B (decide (x0 < y0)))],[]⟩ rfl (ab.ite h rfl (fun _ h=>?_) (fun _ h=>?_))
   ·refine ab.seq (ab.aa ?_)
    refine Oc oa (ae.aj ⟨[(4,I (-1))],[]⟩ rfl (ab.ret (Fin.aI ?_)))
    obtain rfl:=Option.some.inj h
    refine Fin.ah ⟨[(4,_)],[]⟩ rfl (Fin.ay [.one (.i (-1))] (.inl rfl) rfl (.cons (.tmp rfl) .nil) ⟨rfl,rfl⟩)
   ·refine ab.skip (Fin.ah ⟨[(0,_),(1,_)],[]⟩ rfl (Fin.then (ab.seq (ab.seq (ab.aa ?_)))))
    refine Oc om (Oc om (Oc (fJ rfl rfl) ?_))
    refine ae.aj ⟨[(19,B (decide (y0 < x0)))],[]⟩ rfl (ab.ite h rfl (fun _ h=>?_) (fun _ h=>?_))
    ·refine ab.seq (ab.aa ?_)
     refine Oc oa (ae.aj ⟨[(4,I 1)],[]⟩ rfl (ab.ret (Fin.aI ?_)))
     obtain rfl:=Option.some.inj h
     refine Fin.ah ⟨[(4,_)],[]⟩ rfl (Fin.ay [.one (.i 1)] (.inl rfl) rfl (.cons (.tmp rfl) .nil) ⟨rfl,rfl⟩)
    ·refine ab.skip (Fin.ah ⟨[],[]⟩ rfl (Fin.then (ab.seq (ab.aa ?_))))
     refine Oc oa (ae.aj ⟨[(4,I 0)],[]⟩ rfl (ab.ret ?_))
     obtain rfl:=Option.some.inj h
     refine Fin.ah ⟨[(4,_)],[]⟩ rfl (Fin.ay [.one (.i 0)] (.inl rfl) rfl (.cons (.tmp rfl) .nil) ⟨rfl,rfl⟩)
def kR (F:Nat) (a0:aT) (b0:aT):Option Int :=
 Option.bind (iter F (fun k_1=>if (decide (0 ≤ k_1)) = true then ((aZ a0.l k_1).bind fun x_2=>(aZ b0.l k_1).bind fun x_3=>if (decide (x_2 ≠ x_3)) = true then ((aZ a0.l k_1).bind fun x_4=>(aZ b0.l k_1).bind fun x_5=>(iF F x_4 x_5).bind fun x_6=>some (.inr (.inr x_6))) else (some (.inl (IntKind.i64.wrap (k_1 - 1))))) else (some (.inr (.inl ())))) 15) (eh (fun _=>some 0) (fun y=>some y))
theorem re {F:Nat} {a0:aT} {b0:aT} {r:Int} (h:kR F a0 b0 = some r):ax Tryz.prog (bh mx) 109 [] [.agg (eW a0),.agg (eW b0)] (Is [] (.b (.one (.i r)))):=by
 unfold kR at h
 refine ax.intro 24 Tryz.func109 Tryz.ntmps109 rfl (by simp) fun E=>?_
 show ab _ E ⟨24,[],[],[]⟩ _ ⟨[(0,.b (.agg (eW a0))),(1,.b (.agg (eW b0)))],[]⟩ _
 refine ab.seq (ab.aa ?_)
 refine Oc (bM (k:=101) rfl rfl) (Oc (bM (k:=102) rfl rfl) (Oc oa ?_))
 refine ae.aj ⟨[(2,Pt 101 0),(3,Pt 102 0)],[(101,.box 33 (eW a0)),(102,.box 33 (eW b0))]⟩ rfl ?_
 obtain ⟨v1,h2,h⟩:=aO h
 refine ab.cN (v:=v1) (fun (_:Unit)=>⟨[],[]⟩) (fun z=>.inl z) ?_ ?_
 ·refine ab.seq (ab.aa ?_)
  refine Oc oa (ae.aj ⟨[(2,_),(3,_),(5,I 15)],[(101,_),(102,_)]⟩ rfl (ab.block (ab.dM h2 (fun (k_1:Int)=>⟨[(2,Pt 101 0),(3,Pt 102 0),(5,I k_1)],[(101,.box 33 (eW a0)),(102,.box 33 (eW b0))]⟩) [2,3,5] [101,102] rfl ?_)))
  rintro k_1 o3 h4 hy5
  refine ab.seq (ab.seq (ab.aa ?_))
  refine Oc om (Oc (jc rfl rfl) ?_)
  refine ae.aj ⟨[(2,_),(3,_),(5,_),(7,B (decide (0 ≤ k_1)))],[(101,_),(102,_)]⟩ rfl (ab.ite h4 rfl (fun _ h4=>?_) (fun _ h4=>?_))
  ·refine ab.skip (Fin.ah ⟨[(2,_),(3,_),(5,_)],[(101,_),(102,_)]⟩ rfl (Fin.then (ab.seq (ab.block (ab.seq ?_)))))
   refine ab.ah ⟨[(2,_),(3,_),(5,_)],[(101,_),(102,_)]⟩ rfl ?_
   obtain ⟨x_2,e6,h4⟩:=aO h4
   obtain ⟨x_3,e7,h4⟩:=aO h4
   refine ab.bR mixed 7 [I k_1,.b (.ptr 101 (0 + (k_1:Int).toNat * 1)),.b (.one (.int .u32 x_2)),I k_1,.b (.ptr 102 (0 + (k_1:Int).toNat * 1)),.b (.one (.int .u32 x_3)),B (decide (x_2 ≠ x_3))] [2,3,5,16] [101,102] (s':=⟨[(2,_),(3,_),(5,_),(16,B (decide (x_2 ≠ x_3)))],[(101,_),(102,_)]⟩) rfl ⟨fun _=>.p om,fun _=>.p (aN bQ (bb e6) (cD e6) rfl rfl rfl),fun _=>.p (aq bn rfl rfl (cI (post:=[]) (k:=.u32) [] e6 rfl rfl rfl)),fun _=>.p om,fun _=>.p (aN bQ (bb e7) (cD e7) rfl rfl rfl),fun _=>.p (aq bn rfl rfl (cI (post:=[]) (k:=.u32) [] e7 rfl rfl rfl)),fun _=>.p (dU rfl rfl),trivial⟩ rfl rfl (ab.ite h4 rfl (fun _ h4=>?_) (fun _ h4=>?_))
   ·refine ab.seq (ab.ah ⟨[(2,_),(3,_),(5,_)],[(101,_),(102,_)]⟩ rfl ?_)
    obtain ⟨x_4,e8,h4⟩:=aO h4
    obtain ⟨x_5,e9,h4⟩:=aO h4
    obtain ⟨x_6,e10,h4⟩:=aO h4
    refine ab.bR mixed 8 [I k_1,.b (.ptr 101 (0 + (k_1:Int).toNat * 1)),.b (.one (.int .u32 x_4)),I k_1,.b (.ptr 102 (0 + (k_1:Int).toNat * 1)),.b (.one (.int .u32 x_5)),I x_6,I x_6] [4] [] (s':=⟨[(4,I x_6)],[]⟩) rfl ⟨fun _=>.p om,fun _=>.p (aN bQ (bb e8) (cD e8) rfl rfl rfl),fun _=>.p (aq bn rfl rfl (cI (post:=[]) (k:=.u32) [] e8 rfl rfl rfl)),fun _=>.p om,fun _=>.p (aN bQ (bb e9) (cD e9) rfl rfl rfl),fun _=>.p (aq bn rfl rfl (cI (post:=[]) (k:=.u32) [] e9 rfl rfl rfl)),fun _=>.p (ag (sC e10) goes148 rfl rfl),fun _=>.p oa,trivial⟩ rfl rfl (ab.ret (Fin.cL (Fin.aI ?_)))
    obtain rfl:=hy5 _ (Option.some.inj h4).symm
    refine Fin.aI (Fin.cL (Fin.aI ?_))
    obtain rfl:=Option.some.inj h
    refine Fin.ah ⟨[(4,_)],[]⟩ rfl (Fin.ay [.one (.i x_6)] (.inl rfl) rfl (.cons (.tmp rfl) .nil) ⟨rfl,rfl⟩)
   ·refine ab.skip (Fin.aC (Fin.ah ⟨[(2,_),(3,_),(5,_)],[(101,_),(102,_)]⟩ rfl (Fin.then (ab.aa ?_))))
    refine Oc om (Oc (cR rfl rfl) (Oc oa ?_))
    refine ae.nil ?_
    exact Fin.cy [2,3,5] [101,102] (IntKind.i64.wrap (k_1 - 1)) (Option.some.inj h4) rfl
  ·refine ab.exit (Fin.aB ?_)
   obtain rfl:=hy5 _ (Option.some.inj h4).symm
   refine Fin.aB (Fin.aU ?_)
   exact Fin.join [] [] () rfl rfl
 ·rintro _ hv
  subst v1
  refine ab.seq (ab.aa ?_)
  refine Oc oa (ae.aj ⟨[(4,I 0)],[]⟩ rfl (ab.ret ?_))
  obtain rfl:=Option.some.inj h
  refine Fin.ah ⟨[(4,_)],[]⟩ rfl (Fin.ay [.one (.i 0)] (.inl rfl) rfl (.cons (.tmp rfl) .nil) ⟨rfl,rfl⟩)
def iR (F:Nat) (a0:aT) (b0:aT):Option aT :=
 Option.bind (iter F (kr fun out_2 borrow_3 x_4=>if (decide (x_4 < 16)) = true then ((aZ a0.l x_4).bind fun x_6=>(aZ b0.l x_4).bind fun x_7=>cu (IntKind.u64.wrap ((IntKind.u64.wrap ((IntKind.u64.wrap x_6) - (IntKind.u64.wrap x_7))) - borrow_3)) fun x_8=>(aZ out_2.l x_4).bind fun x_9=>cu (IntKind.u64.wrap ((IntKind.u64.wrap ((IntKind.u64.wrap x_6) - (IntKind.u64.wrap x_7))) - borrow_3)) fun x_10=>some (.inl (out_2.set x_4 (IntKind.u32.wrap x_8),x_10 / 9223372036854775808,IntKind.i64.wrap (x_4 + 1)))) else (some (.inr out_2))) (aT.zero,0,0)) (fun out_1=>some out_1)
theorem nK {F:Nat} {a0:aT} {b0:aT} {r:aT} (h:iR F a0 b0 = some r):ax Tryz.prog (bh mx) 110 [] [.agg (eW a0),.agg (eW b0)] (Is [] (.b (.agg (eW r)))):=by
 unfold iR at h
 refine ax.intro 31 Tryz.func110 Tryz.ntmps110 rfl (by simp) fun E=>?_
 show ab _ E ⟨31,[],[],[]⟩ _ ⟨[(0,.b (.agg (eW a0))),(1,.b (.agg (eW b0)))],[]⟩ _
 refine ab.seq (ab.aa ?_)
 refine Oc (bM (k:=101) rfl rfl) (Oc (bM (k:=102) rfl rfl) (Oc (aA (k:=103) cP rfl) ?_))
 refine ae.aj ⟨[(2,Pt 101 0),(3,Pt 102 0),(4,Pt 103 0)],[(101,.box 33 (eW a0)),(102,.box 33 (eW b0)),(103,.box 33 (eW aT.zero))]⟩ rfl (ab.seq (ab.aa ?_))
 refine Oc (aA (k:=104) cP rfl) (ae.aj ⟨[(2,_),(3,_),(4,_),(5,Pt 104 0)],[(101,_),(102,_),(103,_),(104,.box 33 (eW aT.zero))]⟩ rfl (ab.seq (ab.aa ?_)))
 refine Oc oa (ae.aj ⟨[(2,_),(3,_),(4,_),(5,_),(6,.b (.one (.int .u64 0)))],[(101,_),(102,_),(103,_),(104,_)]⟩ rfl ?_)
 obtain ⟨v1,h2,h⟩:=aO h
 refine ab.cN (v:=v1) (fun (out_1:aT)=>⟨[(4,Pt 103 0),(5,Pt 104 0)],[(103,.box 33 (eW aT.zero)),(104,.box 33 (eW out_1))]⟩) (fun z=>z) ?_ ?_
 ·refine ab.seq (ab.aa ?_)
  refine Oc om (ae.aj ⟨[(2,_),(3,_),(4,_),(5,_),(6,_),(9,I 0)],[(101,_),(102,_),(103,_),(104,_)]⟩ rfl (ab.block (ab.dM h2 (kr fun (out_2:aT) (borrow_3:Int) (x_4:Int)=>⟨[(2,Pt 101 0),(3,Pt 102 0),(4,Pt 103 0),(5,Pt 104 0),(6,.b (.one (.int .u64 borrow_3))),(9,I x_4)],[(101,.box 33 (eW a0)),(102,.box 33 (eW b0)),(103,.box 33 (eW aT.zero)),(104,.box 33 (eW out_2))]⟩) [2,3,4,5,6,9] [101,102,103,104] rfl ?_)))
  rintro ⟨out_2,borrow_3,x_4⟩ o3 h4 hy5
  refine ab.seq (ab.aa ?_)
  refine Oc (b7 rfl rfl) (ae.aj ⟨[(2,_),(3,_),(4,_),(5,_),(6,_),(9,_),(10,B (decide (x_4 < 16)))],[(101,_),(102,_),(103,_),(104,_)]⟩ rfl (ab.seq (ab.ite h4 rfl (fun _ h4=>?_) (fun _ h4=>?_))))
  ·refine ab.skip (Fin.ah ⟨[(2,_),(3,_),(4,_),(5,_),(6,_),(9,_)],[(101,_),(102,_),(103,_),(104,_)]⟩ rfl (Fin.then (ab.seq (ab.block (ab.seq (ab.aa ?_))))))
   refine Oc om (Oc oa ?_)
   refine ae.aj ⟨[(2,_),(3,_),(4,_),(5,_),(6,_),(7,I x_4),(9,_)],[(101,_),(102,_),(103,_),(104,_)]⟩ rfl (ab.seq ?_)
   obtain ⟨x_6,e6,h4⟩:=aO h4
   obtain ⟨x_7,e7,h4⟩:=aO h4
   refine ab.bR mixed 12 [I x_4,.b (.ptr 101 (0 + (x_4:Int).toNat * 1)),.b (.one (.int .u32 x_6)),.b (.one (.int .u64 (IntKind.u64.wrap x_6))),I x_4,.b (.ptr 102 (0 + (x_4:Int).toNat * 1)),.b (.one (.int .u32 x_7)),.b (.one (.int .u64 (IntKind.u64.wrap x_7))),.b (.one (.int .u64 (IntKind.u64.wrap ((IntKind.u64.wrap x_6) - (IntKind.u64.wrap x_7))))),.b (.one (.int .u64 borrow_3)),.b (.one (.int .u64 (IntKind.u64.wrap ((IntKind.u64.wrap ((IntKind.u64.wrap x_6) - (IntKind.u64.wrap x_7))) - borrow_3)))),.b (.one (.int .u64 (IntKind.u64.wrap ((IntKind.u64.wrap ((IntKind.u64.wrap x_6) - (IntKind.u64.wrap x_7))) - borrow_3))))] [2,3,4,5,7,8,9] [101,102,103,104] (s':=⟨[(2,_),(3,_),(4,_),(5,_),(7,_),(8,.b (.one (.int .u64 (IntKind.u64.wrap ((IntKind.u64.wrap ((IntKind.u64.wrap x_6) - (IntKind.u64.wrap x_7))) - borrow_3))))),(9,_)],[(101,_),(102,_),(103,_),(104,_)]⟩) rfl ⟨fun _=>.p om,fun _=>.p (aN bQ (bb e6) (cD e6) rfl rfl rfl),fun _=>.p (aq bn rfl rfl (cI (post:=[]) (k:=.u32) [] e6 rfl rfl rfl)),fun _=>.p (az bL bJ rfl),fun _=>.p om,fun _=>.p (aN bQ (bb e7) (cD e7) rfl rfl rfl),fun _=>.p (aq bn rfl rfl (cI (post:=[]) (k:=.u32) [] e7 rfl rfl rfl)),fun _=>.p (az bL bJ rfl),fun _=>.p (cR rfl rfl),fun _=>.p om,fun _=>.p (cR rfl rfl),fun _=>.p oa,trivial⟩ rfl rfl (ab.seq (ab.aa ?_))
   refine Oc om (ae.dw .u64 h4 rfl om (fun x_8 h4=>?_))
   refine Oc (az bJ bL rfl) ?_
   obtain ⟨x_9,e8,h4⟩:=aO h4
   refine Oc (aN bQ (bb e8) (cD e8) rfl rfl rfl) (Oc (bA bn rfl rfl rfl (kA (post:=[]) (k:=.u32) [] e8 rfl rfl rfl) (iK (post:=[]) (k:=.u32) [] e8 rfl rfl (aT.jz out_2 x_4 (IntKind.u32.wrap x_8)) rfl rfl)) ?_)
   refine ae.aj ⟨[(2,_),(3,_),(4,_),(5,_),(8,_),(9,_)],[(101,_),(102,_),(103,_),(104,.box 33 (eW (out_2.set x_4 (IntKind.u32.wrap x_8))))]⟩ rfl (ab.aa (ae.dw .u64 h4 rfl om (fun x_10 h4=>?_)))
   refine Oc (fM (m:=63) (by decide) rfl rfl rfl) (Oc oa ?_)
   refine ae.nil (Fin.aC (Fin.ah ⟨[(2,_),(3,_),(4,_),(5,_),(6,.b (.one (.int .u64 (x_10 / 9223372036854775808)))),(9,_)],[(101,_),(102,_),(103,_),(104,_)]⟩ rfl (Fin.then (ab.aa ?_))))
   refine Oc (aW rfl rfl) (Oc om ?_)
   refine ae.nil ?_
   exact Fin.cy [2,3,4,5,6,9] [101,102,103,104] (out_2.set x_4 (IntKind.u32.wrap x_8),x_10 / 9223372036854775808,IntKind.i64.wrap (x_4 + 1)) (Option.some.inj h4) rfl
  ·refine ab.exit (Fin.aB ?_)
   obtain rfl:=hy5 _ (Option.some.inj h4).symm
   refine Fin.aB (Fin.aU ?_)
   exact Fin.join [4,5] [103,104] out_2 rfl rfl
 ·rintro out_1 hv
  subst v1
  refine ab.seq (ab.aa ?_)
  refine Oc (lp aD) (Oc (ao aD rfl rfl rfl rfl (Nat.le_of_ble_eq_true rfl) rfl) ?_)
  refine ae.aj ⟨[(4,_)],[(103,.box 33 (eW out_1))]⟩ rfl (ab.ret ?_)
  obtain rfl:=Option.some.inj h
  refine Fin.ah ⟨[(4,_)],[(103,_)]⟩ rfl (Fin.ay [.agg (eW out_1)] (.inl rfl) rfl (.cons (.agg aD rfl rfl rfl rfl) .nil) ⟨rfl,rfl⟩)
def nk (F:Nat) (a0:cV) (b0:cV):Option cV :=
 (ew F [a0,b0]).bind fun x_1=>if (!x_1) = true then ((fm F).bind fun x_2=>some x_2) else (if (a0.Neg == b0.Neg) = true then (Option.bind (ox F a0.W b0.W) (cF fun x_3 x_4=>if (!x_4) = true then ((fm F).bind fun x_5=>some x_5) else ((cH F a0.Neg x_3).bind fun x_6=>some x_6))) else ((kR F a0.W b0.W).bind fun x_7=>if (decide (0 ≤ x_7)) = true then ((iR F a0.W b0.W).bind fun x_8=>(cH F a0.Neg x_8).bind fun x_9=>some x_9) else ((iR F b0.W a0.W).bind fun x_10=>(cH F b0.Neg x_10).bind fun x_11=>some x_11)))
theorem qn {F:Nat} {a0:cV} {b0:cV} {r:cV} (h:nk F a0 b0 = some r):ax Tryz.prog (bh mx) 53 [] [.agg (au a0),.agg (au b0)] (Is [] (.b (.agg (au r)))):=by
 unfold nk at h
 refine ax.intro 55 Tryz.func53 Tryz.ntmps53 rfl (by simp) fun E=>?_
 show ab _ E ⟨55,[],[],[]⟩ _ ⟨[(0,.b (.agg (au a0))),(1,.b (.agg (au b0)))],[]⟩ _
 refine ab.seq (ab.aa ?_)
 refine Oc (bM (k:=101) rfl rfl) (Oc (bM (k:=102) rfl rfl) (Oc (aA (k:=103) bP rfl) ?_))
 refine ae.aj ⟨[(2,Pt 101 0),(3,Pt 102 0),(4,Pt 103 0)],[(101,.box 35 (au a0)),(102,.box 35 (au b0)),(103,.box 35 dF)]⟩ rfl (ab.seq (ab.seq (ab.aa ?_)))
 refine Oc (lp an) (Oc (lp an) (Oc (bp (k:=104) (es:=[a0,b0].map au) jW rfl rfl (cZ fun _=>rfl) rfl (by decide) (by decide) rfl) ?_))
 obtain ⟨x_1,e1,h⟩:=aO h
 refine Oc (fY (fc e1) kL rfl CP.gk) (Oc (cX rfl) ?_)
 refine ae.aj ⟨[(2,_),(3,_),(4,_),(11,B (!x_1))],[(101,_),(102,_),(103,_)]⟩ rfl (ab.ite h rfl (fun _ h=>?_) (fun _ h=>?_))
 ·refine ab.seq (ab.aa ?_)
  obtain ⟨x_2,e2,h⟩:=aO h
  refine Oc (ag (dB e2) jD rfl rfl) (Oc (ao an rfl rfl rfl rfl (Nat.le_of_ble_eq_true rfl) rfl) ?_)
  refine ae.aj ⟨[(4,_)],[(103,.box 35 (au x_2))]⟩ rfl (ab.ret (Fin.aI ?_))
  obtain rfl:=Option.some.inj h
  refine Fin.ah ⟨[(4,_)],[(103,_)]⟩ rfl (Fin.ay [.agg (au x_2)] (.inl rfl) rfl (.cons (.agg an rfl rfl rfl rfl) .nil) ⟨rfl,rfl⟩)
 ·refine ab.skip (Fin.ah ⟨[(2,_),(3,_),(4,_)],[(101,_),(102,_),(103,_)]⟩ rfl (Fin.then (ab.seq (ab.seq (ab.aa ?_)))))
  refine Oc (af c6 rfl rfl) (Oc (aq dG rfl rfl rfl) (Oc (af c6 rfl rfl) (Oc (aq dG rfl rfl rfl) (Oc (yd B2 rfl rfl) ?_))))
  refine ae.aj ⟨[(2,_),(3,_),(4,_),(17,B (a0.Neg == b0.Neg))],[(101,_),(102,_),(103,_)]⟩ rfl (ab.ite h rfl (fun _ h=>?_) (fun _ h=>?_))
  ·refine ab.seq (ab.aa ?_)
   refine Oc (af ba rfl rfl) (Oc (lp aD) (Oc (af ba rfl rfl) (Oc (lp aD) ?_)))
   obtain ⟨⟨x_3,x_4⟩,e3,h⟩:=aO h
   refine Oc (ag (xR e3) goes108 rfl rfl) (ae.ah ⟨[(2,_),(4,_),(23,.fG [.agg (eW x_3),.one (.bool x_4)])],[(101,_),(103,_)]⟩ rfl (Oc om (Oc (aF rfl rfl) (Oc (aF rfl rfl) (Oc (aA (k:=105) cP rfl) (Oc (ao aD rfl rfl rfl rfl (Nat.le_of_ble_eq_true rfl) rfl) (Oc oa ?_)))))))
   refine ae.aj ⟨[(2,_),(4,_),(5,Pt 105 0),(6,B x_4)],[(101,_),(103,_),(105,.box 33 (eW x_3))]⟩ rfl (ab.seq (ab.seq (ab.aa ?_)))
   refine Oc om (Oc (cX rfl) ?_)
   refine ae.aj ⟨[(2,_),(4,_),(5,_),(27,B (!x_4))],[(101,_),(103,_),(105,_)]⟩ rfl (ab.ite h rfl (fun _ h=>?_) (fun _ h=>?_))
   ·refine ab.seq (ab.aa ?_)
    obtain ⟨x_5,e4,h⟩:=aO h
    refine Oc (ag (dB e4) jD rfl rfl) (Oc (ao an rfl rfl rfl rfl (Nat.le_of_ble_eq_true rfl) rfl) ?_)
    refine ae.aj ⟨[(4,_)],[(103,.box 35 (au x_5))]⟩ rfl (ab.ret (Fin.aI (Fin.aI ?_)))
    obtain rfl:=Option.some.inj h
    refine Fin.ah ⟨[(4,_)],[(103,_)]⟩ rfl (Fin.ay [.agg (au x_5)] (.inl rfl) rfl (.cons (.agg an rfl rfl rfl rfl) .nil) ⟨rfl,rfl⟩)
   ·refine ab.skip (Fin.ah ⟨[(2,_),(4,_),(5,_)],[(101,_),(103,_),(105,_)]⟩ rfl (Fin.then (ab.seq (ab.aa ?_))))
    refine Oc (af c6 rfl rfl) (Oc (aq dG rfl rfl rfl) (Oc (lp aD) ?_))
    obtain ⟨x_6,e5,h⟩:=aO h
    refine Oc (ag (cC e5) jC rfl rfl) (Oc (ao an rfl rfl rfl rfl (Nat.le_of_ble_eq_true rfl) rfl) ?_)
    refine ae.aj ⟨[(4,_)],[(103,.box 35 (au x_6))]⟩ rfl (ab.ret (Fin.aI ?_))
    obtain rfl:=Option.some.inj h
    refine Fin.ah ⟨[(4,_)],[(103,_)]⟩ rfl (Fin.ay [.agg (au x_6)] (.inl rfl) rfl (.cons (.agg an rfl rfl rfl rfl) .nil) ⟨rfl,rfl⟩)
  ·refine ab.skip (Fin.ah ⟨[(2,_),(3,_),(4,_)],[(101,_),(102,_),(103,_)]⟩ rfl (Fin.then (ab.seq (ab.seq (ab.aa ?_)))))
   refine Oc (af ba rfl rfl) (Oc (lp aD) (Oc (af ba rfl rfl) (Oc (lp aD) ?_)))
   obtain ⟨x_7,e6,h⟩:=aO h
   refine Oc (ag (re e6) Ay rfl rfl) (Oc (jc rfl rfl) ?_)
   refine ae.aj ⟨[(2,_),(3,_),(4,_),(38,B (decide (0 ≤ x_7)))],[(101,_),(102,_),(103,_)]⟩ rfl (ab.ite h rfl (fun _ h=>?_) (fun _ h=>?_))
   ·refine ab.seq (ab.ah ⟨[(2,_),(3,_),(4,_)],[(101,_),(102,_),(103,_)]⟩ rfl ?_)
    obtain ⟨x_8,e7,h⟩:=aO h
    obtain ⟨x_9,e8,h⟩:=aO h
    refine ab.bR mixed 8 [Pt 101 1,B a0.Neg,Pt 101 2,.b (.agg (eW a0.W)),Pt 102 2,.b (.agg (eW b0.W)),.b (.agg (eW x_8)),.b (.agg (au x_9))] [4] [103] (s':=⟨[(4,_)],[(103,.box 35 (au x_9))]⟩) rfl ⟨fun _=>.p (af c6 rfl rfl),fun _=>.p (aq dG rfl rfl rfl),fun _=>.p (af ba rfl rfl),fun _=>.p (lp aD),fun _=>.p (af ba rfl rfl),fun _=>.p (lp aD),fun _=>.p (ag (nK e7) wH rfl rfl),fun _=>.p (ag (cC e8) jC rfl rfl),trivial⟩ ⟨_,by exact .p (ao an rfl rfl rfl rfl (Nat.le_of_ble_eq_true rfl) rfl),rfl⟩ rfl (ab.ret (Fin.aI ?_))
    obtain rfl:=Option.some.inj h
    refine Fin.ah ⟨[(4,_)],[(103,_)]⟩ rfl (Fin.ay [.agg (au x_9)] (.inl rfl) rfl (.cons (.agg an rfl rfl rfl rfl) .nil) ⟨rfl,rfl⟩)
   ·refine ab.skip (Fin.ah ⟨[(2,_),(3,_),(4,_)],[(101,_),(102,_),(103,_)]⟩ rfl (Fin.then (ab.seq ?_)))
    refine ab.ah ⟨[(2,_),(3,_),(4,_)],[(101,_),(102,_),(103,_)]⟩ rfl ?_
    obtain ⟨x_10,e9,h⟩:=aO h
    obtain ⟨x_11,e10,h⟩:=aO h
    refine ab.bR mixed 8 [Pt 102 1,B b0.Neg,Pt 102 2,.b (.agg (eW b0.W)),Pt 101 2,.b (.agg (eW a0.W)),.b (.agg (eW x_10)),.b (.agg (au x_11))] [4] [103] (s':=⟨[(4,_)],[(103,.box 35 (au x_11))]⟩) rfl ⟨fun _=>.p (af c6 rfl rfl),fun _=>.p (aq dG rfl rfl rfl),fun _=>.p (af ba rfl rfl),fun _=>.p (lp aD),fun _=>.p (af ba rfl rfl),fun _=>.p (lp aD),fun _=>.p (ag (nK e9) wH rfl rfl),fun _=>.p (ag (cC e10) jC rfl rfl),trivial⟩ ⟨_,by exact .p (ao an rfl rfl rfl rfl (Nat.le_of_ble_eq_true rfl) rfl),rfl⟩ rfl (ab.ret ?_)
    obtain rfl:=Option.some.inj h
    refine Fin.ah ⟨[(4,_)],[(103,_)]⟩ rfl (Fin.ay [.agg (au x_11)] (.inl rfl) rfl (.cons (.agg an rfl rfl rfl rfl) .nil) ⟨rfl,rfl⟩)
def gY (F:Nat) (s0:Str):Option (cV × Int) :=
 Option.bind ((bx (decide (0 < (s0.length:Int))) (aZ s0 0)).bind fun x_2=>cu ((decide (0 < (s0.length:Int))) && (decide ((x_2.toNat:Int) = 45))) fun x_3=>if x_3 = true then ((oh s0 1).bind fun x_4=>some x_4) else (some s0)) (fun digits_1=>(bx (!(decide (digits_1 = []))) (aZ digits_1 0)).bind fun x_5=>cu ((decide (digits_1 = [])) || ((decide ((x_5.toNat:Int) = 48)) && (decide (s0 ≠ [48])))) fun x_6=>if x_6 = true then ((fm F).bind fun x_7=>some (x_7,281)) else (Option.bind (iter F (fun x_8=>if (decide (x_8 < ((ofStr digits_1).length:Int))) = true then ((aZ (ofStr digits_1) x_8).bind fun x_9=>if ((decide (x_9 < 48)) || (decide (57 < x_9))) = true then ((fm F).bind fun x_10=>some (.inr (.inr (x_10,281)))) else (some (.inl (IntKind.i64.wrap (x_8 + 1))))) else (some (.inr (.inl ())))) 0) (eh (fun _=>if (decide (512 < (digits_1.length:Int))) = true then ((fm F).bind fun x_11=>some (x_11,30)) else ((iL F 0).bind fun x_12=>(iL F 10).bind fun x_13=>Option.bind (iter F (cF fun x_15 x_16=>if (decide (x_16 < ((ofStr digits_1).length:Int))) = true then ((aZ (ofStr digits_1) x_16).bind fun x_18=>(jg F x_15 x_13).bind fun x_19=>cu (IntKind.i64.wrap (IntKind.u8.wrap (x_18 - 48))) fun x_20=>(iL F x_20).bind fun x_21=>(nk F x_19 x_21).bind fun x_22=>some (.inl (x_22,IntKind.i64.wrap (x_16 + 1)))) else (some (.inr x_15))) (x_12,0)) (fun x_14=>if x_14.Bad = true then (some (x_14,30)) else ((cH F (decide (digits_1 ≠ s0)) x_14.W).bind fun x_23=>some (x_23,0))))) (fun y=>some y))))
theorem rj {F:Nat} {s0:Str} {r:cV × Int} (h:gY F s0 = some r):ax Tryz.prog (bh mx) 33 [] [.one (.str s0)] (Is [] (.fG [.agg (au r.1),.one (.i r.2)])):=by
 unfold gY at h
 refine ax.intro 80 Tryz.func33 Tryz.ntmps33 rfl (by simp) fun E=>?_
 show ab _ E ⟨80,[],[],[]⟩ _ ⟨[(0,.b (.one (.str s0)))],[]⟩ _
 refine ab.seq (ab.aa ?_)
 refine Oc (aA (k:=101) bP rfl) (Oc oa ?_)
 refine ae.aj ⟨[(0,.b (.one (.str s0))),(2,Pt 101 0)],[(101,.box 35 dF)]⟩ rfl (ab.seq (ab.aa ?_))
 refine Oc om (Oc oa ?_)
 refine ae.aj ⟨[(0,_),(2,_),(4,.b (.one (.str s0)))],[(101,_)]⟩ rfl ?_
 obtain ⟨v1,h2,h⟩:=aO h
 refine ab.cN (v:=v1) (fun (digits_1:Str)=>⟨[(0,.b (.one (.str s0))),(2,Pt 101 0),(4,.b (.one (.str digits_1)))],[(101,.box 35 dF)]⟩) (fun z=>z) ?_ ?_
 ·refine ab.seq (ab.aa ?_)
  refine Oc om (Oc (bS du rfl) (Oc (fJ rfl rfl) (Oc om ?_)))
  refine dE (decide (0 < (s0.length:Int))) [] (fun g3=>trivial) (fun g3=>om) ?_
  obtain ⟨x_2,e5,h2⟩:=aO h2
  refine dE (decide (0 < (s0.length:Int))) [16] (fun g4=>⟨g4,trivial⟩) (fun g4=>b8 du rfl rfl (bb (gc e5 g4)) (fK (gc e5 g4))) (dE (decide (0 < (s0.length:Int))) [17] (fun g6=>⟨g6,trivial⟩) (fun g6=>c9 rfl rfl) (ae.lK h2 rfl (aJ (fun e=>e) rfl rfl rfl rfl) (fun x_3 h2=>?_)))
  refine ae.aj ⟨[(0,_),(2,_),(4,_),(19,B x_3)],[(101,_)]⟩ rfl (ab.ite h2 rfl (fun _ h2=>?_) (fun _ h2=>?_))
  ·refine ab.aa (Oc om ?_)
   obtain ⟨x_4,e7,h2⟩:=aO h2
   refine Oc (lr du e7 rfl rfl) (Oc oa ?_)
   refine ae.nil ?_
   exact Fin.join [0,2,4] [101] x_4 (Option.some.inj h2) rfl
  ·refine ab.skip ?_
   exact Fin.join [0,2,4] [101] s0 (Option.some.inj h2) rfl
 ·rintro digits_1 hv
  subst v1
  refine ab.seq (ab.seq (ab.aa ?_))
  refine Oc om (Oc (jN rfl rfl) (Oc om ?_))
  refine fU (!(decide (digits_1 = []))) [] (fun g8=>trivial) (fun g8=>om) ?_
  obtain ⟨x_5,e10,h⟩:=aO h
  refine fU (!(decide (digits_1 = []))) [25] (fun g9=>⟨g9,trivial⟩) (fun g9=>b8 du rfl rfl (bb (gc e10 g9)) (fK (gc e10 g9))) (fU (!(decide (digits_1 = []))) [26] (fun g11=>⟨g11,trivial⟩) (fun g11=>c9 rfl rfl) (fU (!(decide (digits_1 = []))) [27] (fun g12=>⟨g12,trivial⟩) (fun g12=>om) (ae.ah ⟨[(0,_),(2,_),(4,_),(24,B (decide (digits_1 = []))),(28,.opt (!(decide (digits_1 = []))) (.one (.bool (decide ((x_5.toNat:Int) = 48)))))],[(101,_)]⟩ rfl (ae.mu ((!(decide (digits_1 = []))) && (decide ((x_5.toNat:Int) = 48))) 99 [] (.under rfl) (zW _ _) rfl rfl (fun g13=>by exact trivial) (fun g13=>om) (ae.mu ((!(decide (digits_1 = []))) && (decide ((x_5.toNat:Int) = 48))) 99 [29] (.under rfl) (zW _ _) rfl rfl (fun g14=>by exact ⟨g14,trivial⟩) (fun g14=>ll rfl rfl) ?_)))))
  refine fU (!(decide (digits_1 = []))) [28] (fun g15=>⟨g15,trivial⟩) (fun g15=>aJ (fun e=>by rw [g15,e]; rfl) rfl rfl rfl rfl) (ae.lK h rfl (bt (fun e=>by first | (rw [e]; rfl) | (simp only at e; rw [e]; rfl)) rfl rfl rfl rfl) (fun x_6 h=>?_))
  refine ae.aj ⟨[(0,_),(2,_),(4,_),(32,B x_6)],[(101,_)]⟩ rfl (ab.ite h rfl (fun _ h=>?_) (fun _ h=>?_))
  ·refine ab.seq (ab.aa ?_)
   obtain ⟨x_7,e16,h⟩:=aO h
   refine Oc (ag (dB e16) jD rfl rfl) (Oc (ao an rfl rfl rfl rfl (Nat.le_of_ble_eq_true rfl) rfl) (Oc oa ?_))
   refine ae.aj ⟨[(2,_),(3,I 281)],[(101,.box 35 (au x_7))]⟩ rfl (ab.ret (Fin.aI ?_))
   obtain rfl:=Option.some.inj h
   refine Fin.ah ⟨[(2,_),(3,_)],[(101,_)]⟩ rfl (Fin.ay [.agg (au x_7),.one (.i 281)] (.inl rfl) rfl (.cons (.agg an rfl rfl rfl rfl) (.cons (.tmp rfl) .nil)) ⟨rfl,rfl⟩)
  ·refine ab.skip (Fin.ah ⟨[(0,_),(2,_),(4,_)],[(101,_)]⟩ rfl (Fin.then ?_))
   obtain ⟨v17,h18,h⟩:=aO h
   refine ab.cN (v:=v17) (fun (_:Unit)=>⟨[(0,.b (.one (.str s0))),(2,Pt 101 0),(4,.b (.one (.str digits_1)))],[(101,.box 35 dF)]⟩) (fun z=>.inl z) ?_ ?_
   ·refine ab.seq (ab.aa ?_)
    refine Oc om (Oc (lW du jy mn rfl) (Oc (cm jy rfl (List.length_map _)) (Oc om ?_)))
    refine ae.aj ⟨[(0,_),(2,_),(4,_),(35,.b (.one (.sl 1 ((ofStr digits_1).map (eK .u8))))),(36,I ((ofStr digits_1).length:Int)),(37,I 0)],[(101,_)]⟩ rfl (ab.block (ab.dM h18 (fun (x_8:Int)=>⟨[(0,.b (.one (.str s0))),(2,Pt 101 0),(4,.b (.one (.str digits_1))),(35,.b (.one (.sl 1 ((ofStr digits_1).map (eK .u8))))),(36,I ((ofStr digits_1).length:Int)),(37,I x_8)],[(101,.box 35 dF)]⟩) [0,2,4,35,36,37] [101] rfl ?_))
    rintro x_8 o19 h20 hy21
    refine ab.seq (ab.aa ?_)
    refine Oc (b7 rfl rfl) (ae.aj ⟨[(0,_),(2,_),(4,_),(35,_),(36,_),(37,_),(38,B (decide (x_8 < ((ofStr digits_1).length:Int))))],[(101,_)]⟩ rfl (ab.seq (ab.ite h20 rfl (fun _ h20=>?_) (fun _ h20=>?_))))
    ·refine ab.skip (Fin.ah ⟨[(0,_),(2,_),(4,_),(35,_),(36,_),(37,_)],[(101,_)]⟩ rfl (Fin.then (ab.seq (ab.block (ab.seq (ab.aa ?_))))))
     obtain ⟨x_9,e22,h20⟩:=aO h20
     refine Oc (bK kW (bb e22) (dH (e:=(eK .u8)) e22) rfl rfl) (Oc (bm yO rfl rfl) (Oc oa ?_))
     refine ae.aj ⟨[(0,_),(2,_),(4,_),(6,.b (.one (.int .u8 x_9))),(35,_),(36,_),(37,_)],[(101,_)]⟩ rfl (ab.seq (ab.aa ?_))
     refine Oc om (Oc (b7 rfl rfl) (Oc om ?_))
     refine fU (!(decide (x_9 < 48))) [] (fun g23=>trivial) (fun g23=>om) (fU (!(decide (x_9 < 48))) [44] (fun g24=>by exact ⟨g24,trivial⟩) (fun g24=>fJ rfl rfl) (Oc (bt (fun e=>by first | (rw [e]; rfl) | (simp only at e; rw [e]; rfl)) rfl rfl rfl rfl) (ae.aj ⟨[(0,_),(2,_),(4,_),(35,_),(36,_),(37,_),(46,B ((decide (x_9 < 48)) || (decide (57 < x_9))))],[(101,_)]⟩ rfl (ab.ite h20 rfl (fun _ h20=>?_) (fun _ h20=>?_)))))
     ·refine ab.seq (ab.aa ?_)
      obtain ⟨x_10,e25,h20⟩:=aO h20
      refine Oc (ag (dB e25) jD rfl rfl) (Oc (ao an rfl rfl rfl rfl (Nat.le_of_ble_eq_true rfl) rfl) (Oc oa ?_))
      refine ae.aj ⟨[(2,_),(3,I 281)],[(101,.box 35 (au x_10))]⟩ rfl (ab.ret (Fin.cL (Fin.aI ?_)))
      obtain rfl:=hy21 _ (Option.some.inj h20).symm
      refine Fin.aI (Fin.cL (Fin.aI ?_))
      obtain rfl:=Option.some.inj h
      refine Fin.ah ⟨[(2,_),(3,_)],[(101,_)]⟩ rfl (Fin.ay [.agg (au x_10),.one (.i 281)] (.inl rfl) rfl (.cons (.agg an rfl rfl rfl rfl) (.cons (.tmp rfl) .nil)) ⟨rfl,rfl⟩)
     ·refine ab.skip (Fin.aC (Fin.ah ⟨[(0,_),(2,_),(4,_),(35,_),(36,_),(37,_)],[(101,_)]⟩ rfl (Fin.then (ab.aa ?_))))
      refine Oc (aW rfl rfl) (Oc om ?_)
      refine ae.nil ?_
      exact Fin.cy [0,2,4,35,36,37] [101] (IntKind.i64.wrap (x_8 + 1)) (Option.some.inj h20) rfl
    ·refine ab.exit (Fin.aB ?_)
     obtain rfl:=hy21 _ (Option.some.inj h20).symm
     refine Fin.aB (Fin.aU ?_)
     exact Fin.join [0,2,4] [101] () rfl rfl
   ·rintro _ hv
    subst v17
    refine ab.seq (ab.seq (ab.aa ?_))
    refine Oc om (Oc (bS du rfl) (Oc (fJ rfl rfl) ?_))
    refine ae.aj ⟨[(0,_),(2,_),(4,_),(51,B (decide (512 < (digits_1.length:Int))))],[(101,_)]⟩ rfl (ab.ite h rfl (fun _ h=>?_) (fun _ h=>?_))
    ·refine ab.seq (ab.aa ?_)
     obtain ⟨x_11,e26,h⟩:=aO h
     refine Oc (ag (dB e26) jD rfl rfl) (Oc (ao an rfl rfl rfl rfl (Nat.le_of_ble_eq_true rfl) rfl) (Oc oa ?_))
     refine ae.aj ⟨[(2,_),(3,I 30)],[(101,.box 35 (au x_11))]⟩ rfl (ab.ret (Fin.aI ?_))
     obtain rfl:=Option.some.inj h
     refine Fin.ah ⟨[(2,_),(3,_)],[(101,_)]⟩ rfl (Fin.ay [.agg (au x_11),.one (.i 30)] (.inl rfl) rfl (.cons (.agg an rfl rfl rfl rfl) (.cons (.tmp rfl) .nil)) ⟨rfl,rfl⟩)
    ·refine ab.skip (Fin.ah ⟨[(0,_),(2,_),(4,_)],[(101,_)]⟩ rfl (Fin.then (ab.seq (ab.aa ?_))))
     obtain ⟨x_12,e27,h⟩:=aO h
     refine Oc (ag (fZ e27) me rfl rfl) ?_
     obtain ⟨x_13,e28,h⟩:=aO h
     refine Oc (ag (fZ e28) me rfl rfl) (ae.ah ⟨[(0,_),(2,_),(4,_),(53,.b (.agg (au x_12))),(54,.b (.agg (au x_13)))],[(101,_)]⟩ rfl (Oc (aA (k:=102) bP rfl) (Oc (aA (k:=103) bP rfl) (Oc (ao an rfl rfl rfl rfl (Nat.le_of_ble_eq_true rfl) rfl) (Oc (ao an rfl rfl rfl rfl (Nat.le_of_ble_eq_true rfl) rfl) ?_)))))
     refine ae.aj ⟨[(0,_),(2,_),(4,_),(7,Pt 102 0),(8,Pt 103 0)],[(101,_),(102,.box 35 (au x_12)),(103,.box 35 (au x_13))]⟩ rfl ?_
     obtain ⟨v29,h30,h⟩:=aO h
     refine ab.cN (v:=v29) (fun (x_14:cV)=>⟨[(0,.b (.one (.str s0))),(2,Pt 101 0),(4,.b (.one (.str digits_1))),(7,Pt 102 0)],[(101,.box 35 dF),(102,.box 35 (au x_14))]⟩) (fun z=>z) ?_ ?_
     ·refine ab.seq (ab.aa ?_)
      refine Oc om (Oc (lW du jy mn rfl) (Oc (cm jy rfl (List.length_map _)) (Oc om ?_)))
      refine ae.aj ⟨[(0,_),(2,_),(4,_),(7,_),(8,_),(56,.b (.one (.sl 1 ((ofStr digits_1).map (eK .u8))))),(57,I ((ofStr digits_1).length:Int)),(58,I 0)],[(101,_),(102,_),(103,_)]⟩ rfl (ab.block (ab.dM h30 (cF fun (x_15:cV) (x_16:Int)=>⟨[(0,.b (.one (.str s0))),(2,Pt 101 0),(4,.b (.one (.str digits_1))),(7,Pt 102 0),(8,Pt 103 0),(56,.b (.one (.sl 1 ((ofStr digits_1).map (eK .u8))))),(57,I ((ofStr digits_1).length:Int)),(58,I x_16)],[(101,.box 35 dF),(102,.box 35 (au x_15)),(103,.box 35 (au x_13))]⟩) [0,2,4,7,8,56,57,58] [101,102,103] rfl ?_))
      rintro ⟨x_15,x_16⟩ o31 h32 hy33
      refine ab.seq (ab.aa ?_)
      refine Oc (b7 rfl rfl) (ae.aj ⟨[(0,_),(2,_),(4,_),(7,_),(8,_),(56,_),(57,_),(58,_),(59,B (decide (x_16 < ((ofStr digits_1).length:Int))))],[(101,_),(102,_),(103,_)]⟩ rfl (ab.seq (ab.ite h32 rfl (fun _ h32=>?_) (fun _ h32=>?_))))
      ·refine ab.skip (Fin.ah ⟨[(0,_),(2,_),(4,_),(7,_),(8,_),(56,_),(57,_),(58,_)],[(101,_),(102,_),(103,_)]⟩ rfl (Fin.then (ab.seq (ab.block (ab.seq (ab.aa ?_))))))
       obtain ⟨x_18,e34,h32⟩:=aO h32
       refine Oc (bK kW (bb e34) (dH (e:=(eK .u8)) e34) rfl rfl) (Oc (bm yO rfl rfl) (Oc oa ?_))
       refine ae.aj ⟨[(0,_),(2,_),(4,_),(7,_),(8,_),(10,.b (.one (.int .u8 x_18))),(56,_),(57,_),(58,_)],[(101,_),(102,_),(103,_)]⟩ rfl (ab.aa (Oc (lp an) (Oc (lp an) ?_)))
       obtain ⟨x_19,e35,h32⟩:=aO h32
       refine Oc (ag (dP e35) kz rfl rfl) (Oc om (Oc (cR rfl rfl) ?_))
       refine ae.ah ⟨[(0,_),(2,_),(4,_),(7,_),(8,_),(56,_),(57,_),(58,_),(64,.b (.agg (au x_19))),(66,.b (.one (.int .u8 (IntKind.u8.wrap (x_18 - 48)))))],[(101,_),(102,_),(103,_)]⟩ rfl (ae.dw .i64 h32 rfl (az mn pQ rfl) (fun x_20 h32=>?_))
       obtain ⟨x_21,e36,h32⟩:=aO h32
       refine Oc (ag (fZ e36) me rfl rfl) ?_
       obtain ⟨x_22,e37,h32⟩:=aO h32
       refine Oc (ag (qn e37) yY rfl rfl) (Oc (ao an rfl rfl rfl rfl (Nat.le_of_ble_eq_true rfl) rfl) ?_)
       refine ae.nil (Fin.aC (Fin.ah ⟨[(0,_),(2,_),(4,_),(7,_),(8,_),(56,_),(57,_),(58,_)],[(101,_),(102,.box 35 (au x_22)),(103,_)]⟩ rfl (Fin.then (ab.aa ?_))))
       refine Oc (aW rfl rfl) (Oc om ?_)
       refine ae.nil ?_
       exact Fin.cy [0,2,4,7,8,56,57,58] [101,102,103] (x_22,IntKind.i64.wrap (x_16 + 1)) (Option.some.inj h32) rfl
      ·refine ab.exit (Fin.aB ?_)
       obtain rfl:=hy33 _ (Option.some.inj h32).symm
       refine Fin.aB (Fin.aU ?_)
       exact Fin.join [0,2,4,7] [101,102] x_15 rfl rfl
     ·rintro x_14 hv
      subst v29
      refine ab.seq (ab.seq (ab.aa ?_))
      refine Oc (af kU rfl rfl) (Oc (aq dG rfl rfl rfl) ?_)
      refine ae.aj ⟨[(0,_),(2,_),(4,_),(7,_),(72,B x_14.Bad)],[(101,_),(102,_)]⟩ rfl (ab.ite h rfl (fun _ h=>?_) (fun _ h=>?_))
      ·refine ab.seq (ab.aa ?_)
       refine Oc (lp an) (Oc (ao an rfl rfl rfl rfl (Nat.le_of_ble_eq_true rfl) rfl) (Oc oa ?_))
       refine ae.aj ⟨[(2,_),(3,I 30)],[(101,.box 35 (au x_14))]⟩ rfl (ab.ret (Fin.aI ?_))
       obtain rfl:=Option.some.inj h
       refine Fin.ah ⟨[(2,_),(3,_)],[(101,_)]⟩ rfl (Fin.ay [.agg (au x_14),.one (.i 30)] (.inl rfl) rfl (.cons (.agg an rfl rfl rfl rfl) (.cons (.tmp rfl) .nil)) ⟨rfl,rfl⟩)
      ·refine ab.skip (Fin.ah ⟨[(0,_),(2,_),(4,_),(7,_)],[(101,_),(102,_)]⟩ rfl (Fin.then (ab.seq (ab.aa ?_))))
       refine Oc om (Oc om (Oc (ll rfl rfl) (Oc (af ba rfl rfl) (Oc (lp aD) ?_))))
       refine ae.ah ⟨[(2,_),(76,B (decide (digits_1 ≠ s0))),(78,.b (.agg (eW x_14.W)))],[(101,_)]⟩ rfl ?_
       obtain ⟨x_23,e38,h⟩:=aO h
       refine Oc (ag (cC e38) jC rfl rfl) (Oc (ao an rfl rfl rfl rfl (Nat.le_of_ble_eq_true rfl) rfl) (Oc oa ?_))
       refine ae.aj ⟨[(2,_),(3,I 0)],[(101,.box 35 (au x_23))]⟩ rfl (ab.ret ?_)
       obtain rfl:=Option.some.inj h
       refine Fin.ah ⟨[(2,_),(3,_)],[(101,_)]⟩ rfl (Fin.ay [.agg (au x_23),.one (.i 0)] (.inl rfl) rfl (.cons (.agg an rfl rfl rfl rfl) (.cons (.tmp rfl) .nil)) ⟨rfl,rfl⟩)
def kf (F:Nat) (x0:cV):Option Bool :=
 (bx (!x0.Bad) (kT F x0)).bind fun x_1=>some ((!x0.Bad) && x_1)
theorem lT {F:Nat} {x0:cV} {r:Bool} (h:kf F x0 = some r):ax Tryz.prog (bh mx) 73 [] [.agg (au x0)] (Is [] (.b (.one (.bool r)))):=by
 unfold kf at h
 refine ax.intro 10 Tryz.func73 Tryz.ntmps73 rfl (by simp) fun E=>?_
 show ab _ E ⟨10,[],[],[]⟩ _ ⟨[(0,.b (.agg (au x0)))],[]⟩ _
 refine ab.seq (ab.aa ?_)
 refine Oc (bM (k:=101) rfl rfl) (Oc oa ?_)
 refine ae.aj ⟨[(1,Pt 101 0)],[(101,.box 35 (au x0))]⟩ rfl (ab.seq (ab.aa ?_))
 refine Oc (af kU rfl rfl) (Oc (aq dG rfl rfl rfl) (Oc (cX rfl) (Oc om ?_)))
 refine dE (!x0.Bad) [] (fun g1=>trivial) (fun g1=>lp an) (ae.ah ⟨[(6,B (!x0.Bad)),(7,.opt (!x0.Bad) (.agg (au x0)))],[]⟩ rfl ?_)
 obtain ⟨x_1,e3,h⟩:=aO h
 refine dE (!x0.Bad) [7] (fun g2=>⟨g2,trivial⟩) (fun g2=>ag (rf (gc e3 g2)) Aw rfl rfl) (Oc (aJ (fun e=>e) rfl rfl rfl rfl) (Oc oa ?_))
 refine ae.aj ⟨[(2,B ((!x0.Bad) && x_1))],[]⟩ rfl (ab.ret ?_)
 obtain rfl:=Option.some.inj h
 refine Fin.ah ⟨[(2,_)],[]⟩ rfl (Fin.ay [.one (.bool ((!x0.Bad) && x_1))] (.inl rfl) rfl (.cons (.tmp rfl) .nil) ⟨rfl,rfl⟩)
def iB (F:Nat) (x0:cV):Option Int :=
 (ew F [x0]).bind fun x_1=>if ((!x_1) || (decide (x0.W = aT.zero))) = true then (some 0) else (if x0.Neg = true then (some (-1)) else (some 1))
theorem lS {F:Nat} {x0:cV} {r:Int} (h:iB F x0 = some r):ax Tryz.prog (bh mx) 74 [] [.agg (au x0)] (Is [] (.b (.one (.i r)))):=by
 unfold iB at h
 refine ax.intro 17 Tryz.func74 Tryz.ntmps74 rfl (by simp) fun E=>?_
 show ab _ E ⟨17,[],[],[]⟩ _ ⟨[(0,.b (.agg (au x0)))],[]⟩ _
 refine ab.seq (ab.aa ?_)
 refine Oc (bM (k:=101) rfl rfl) (Oc oa ?_)
 refine ae.aj ⟨[(1,Pt 101 0)],[(101,.box 35 (au x0))]⟩ rfl (ab.seq (ab.block (ab.seq (ab.aa ?_))))
 refine Oc (lp an) (Oc (bp (k:=102) (es:=[x0].map au) jW rfl rfl (cZ fun _=>rfl) rfl (by decide) (by decide) rfl) ?_)
 obtain ⟨x_1,e1,h⟩:=aO h
 refine Oc (fY (fc e1) kL rfl CP.gk) (Oc (cX rfl) ?_)
 refine ae.ah ⟨[(1,_),(7,B (!x_1))],[(101,_)]⟩ rfl (Oc om (fU (!(!x_1)) [] (fun g2=>by exact trivial) (fun g2=>af ba rfl rfl) (fU (!(!x_1)) [9] (fun g3=>by exact ⟨g3,trivial⟩) (fun g3=>lp aD) (fU (!(!x_1)) [] (fun g4=>by exact trivial) (fun g4=>gg gf rfl rfl) (fU (!(!x_1)) [10,11] (fun g5=>by exact ⟨g5,g5,trivial⟩) (fun g5=>dC (po x0.W aT.zero) rfl rfl) ?_)))))
 refine Oc (bt (fun e=>by first | (rw [e]; rfl) | (simp only at e; rw [e]; rfl)) rfl rfl rfl rfl) (Oc oa ?_)
 refine ae.aj ⟨[(1,_),(3,B ((!x_1) || (decide (x0.W = aT.zero))))],[(101,_)]⟩ rfl (ab.ite h rfl (fun _ h=>?_) (fun _ h=>?_))
 ·refine ab.seq (ab.aa ?_)
  refine Oc oa (ae.aj ⟨[(2,I 0)],[]⟩ rfl (ab.ret (Fin.cL (Fin.aI ?_))))
  obtain rfl:=Option.some.inj h
  refine Fin.ah ⟨[(2,_)],[]⟩ rfl (Fin.ay [.one (.i 0)] (.inl rfl) rfl (.cons (.tmp rfl) .nil) ⟨rfl,rfl⟩)
 ·refine ab.seq (ab.aa ?_)
  refine Oc (af c6 rfl rfl) (Oc (aq dG rfl rfl rfl) (Oc oa ?_))
  refine ae.aj ⟨[(14,B x0.Neg)],[]⟩ rfl (ab.ite h rfl (fun _ h=>?_) (fun _ h=>?_))
  ·refine ab.seq (ab.aa ?_)
   refine Oc oa (ae.aj ⟨[(2,I (-1))],[]⟩ rfl (ab.ret (Fin.cL (Fin.aI ?_))))
   obtain rfl:=Option.some.inj h
   refine Fin.ah ⟨[(2,_)],[]⟩ rfl (Fin.ay [.one (.i (-1))] (.inl rfl) rfl (.cons (.tmp rfl) .nil) ⟨rfl,rfl⟩)
  ·refine ab.skip (Fin.aC (Fin.ah ⟨[],[]⟩ rfl (Fin.then (ab.seq (ab.aa ?_)))))
   refine Oc oa (ae.aj ⟨[(2,I 1)],[]⟩ rfl (ab.ret ?_))
   obtain rfl:=Option.some.inj h
   refine Fin.ah ⟨[(2,_)],[]⟩ rfl (Fin.ay [.one (.i 1)] (.inl rfl) rfl (.cons (.tmp rfl) .nil) ⟨rfl,rfl⟩)
def nr (F:Nat):Option cV :=
 (iL F 1).bind fun x_1=>some x_1
theorem qt {F:Nat} {r:cV} (h:nr F = some r):ax Tryz.prog (bh mx) 102 [] [] (Is [] (.b (.agg (au r)))):=by
 unfold nr at h
 refine ax.intro 2 Tryz.func102 Tryz.ntmps102 rfl (by simp) fun E=>?_
 show ab _ E ⟨2,[],[],[]⟩ _ ⟨[],[]⟩ _
 refine ab.seq (ab.aa ?_)
 refine Oc (aA (k:=101) bP rfl) (ae.aj ⟨[(0,Pt 101 0)],[(101,.box 35 dF)]⟩ rfl (ab.seq (ab.aa ?_)))
 obtain ⟨x_1,e1,h⟩:=aO h
 refine Oc (ag (fZ e1) me rfl rfl) (Oc (ao an rfl rfl rfl rfl (Nat.le_of_ble_eq_true rfl) rfl) ?_)
 refine ae.aj ⟨[(0,_)],[(101,.box 35 (au x_1))]⟩ rfl (ab.ret ?_)
 obtain rfl:=Option.some.inj h
 refine Fin.ah ⟨[(0,_)],[(101,_)]⟩ rfl (Fin.ay [.agg (au x_1)] (.inl rfl) rfl (.cons (.agg an rfl rfl rfl rfl) .nil) ⟨rfl,rfl⟩)
def kJ (F:Nat):Option gS :=
 (fm F).bind fun x_1=>(nr F).bind fun x_2=>some (⟨x_1,x_2⟩:gS)
theorem lj {F:Nat} {r:gS} (h:kJ F = some r):ax Tryz.prog (bh mx) 49 [] [] (Is [] (.b (.agg (aR r)))):=by
 unfold kJ at h
 refine ax.intro 4 Tryz.func49 Tryz.ntmps49 rfl (by simp) fun E=>?_
 show ab _ E ⟨4,[],[],[]⟩ _ ⟨[],[]⟩ _
 refine ab.seq (ab.aa ?_)
 refine Oc (aA (k:=101) dy rfl) (ae.aj ⟨[(0,Pt 101 0)],[(101,.box 37 gl)]⟩ rfl (ab.seq (ab.aa ?_)))
 obtain ⟨x_1,e1,h⟩:=aO h
 refine Oc (ag (dB e1) jD rfl rfl) ?_
 obtain ⟨x_2,e2,h⟩:=aO h
 refine Oc (ag (qt e2) wI rfl rfl) (Oc (bz py rfl rfl) (Oc (ao bc rfl rfl rfl rfl (Nat.le_of_ble_eq_true rfl) rfl) ?_))
 refine ae.aj ⟨[(0,_)],[(101,.box 37 (au x_1 ++ (au x_2)))]⟩ rfl (ab.ret ?_)
 obtain rfl:=Option.some.inj h
 refine Fin.ah ⟨[(0,_)],[(101,_)]⟩ rfl (Fin.ay [.agg (au x_1 ++ (au x_2))] (.inl rfl) rfl (.cons (.agg bc rfl rfl rfl rfl) .nil) ⟨rfl,rfl⟩)
def mM (F:Nat) (a0:aT) (b0:Int):Option (aT × Int) :=
 Option.bind (iter F (kr fun q_3 r_4 k_5=>if (decide (0 ≤ k_5)) = true then ((aZ a0.l k_5).bind fun x_8=>cu (jT .u64 (IntKind.u64.wrap (r_4 * 4294967296)) (IntKind.u64.wrap x_8)) fun x_9=>(tA .u64 x_9 (IntKind.u64.wrap b0)).bind fun x_10=>(aZ q_3.l k_5).bind fun x_11=>(vT x_9 (IntKind.u64.wrap b0)).bind fun x_12=>some (.inl (q_3.set k_5 (IntKind.u32.wrap x_10),x_12,IntKind.i64.wrap (k_5 - 1)))) else (some (.inr (q_3,r_4)))) (aT.zero,0,15)) (cF fun q_1 r_2=>some (q_1,IntKind.u32.wrap r_2))
theorem wP {F:Nat} {a0:aT} {b0:Int} {r:aT × Int} (h:mM F a0 b0 = some r):ax Tryz.prog (bh mx) 139 [] [.agg (eW a0),.one (.int .u32 b0)] (Is [] (.fG [.agg (eW r.1),.one (.int .u32 r.2)])):=by
 unfold mM at h
 refine ax.intro 33 Tryz.func139 Tryz.ntmps139 rfl (by simp) fun E=>?_
 show ab _ E ⟨33,[],[],[]⟩ _ ⟨[(0,.b (.agg (eW a0))),(1,.b (.one (.int .u32 b0)))],[]⟩ _
 refine ab.seq (ab.aa ?_)
 refine Oc (bM (k:=101) rfl rfl) (Oc (aA (k:=102) cP rfl) (Oc oa ?_))
 refine ae.aj ⟨[(1,.b (.one (.int .u32 b0))),(2,Pt 101 0),(4,Pt 102 0)],[(101,.box 33 (eW a0)),(102,.box 33 (eW aT.zero))]⟩ rfl (ab.seq (ab.aa ?_))
 refine Oc oa (ae.aj ⟨[(1,_),(2,_),(4,_),(6,.b (.one (.int .u64 0)))],[(101,_),(102,_)]⟩ rfl ?_)
 obtain ⟨v1,h2,h⟩:=aO h
 refine ab.cN (v:=v1) (cF fun (q_1:aT) (r_2:Int)=>⟨[(4,Pt 102 0),(6,.b (.one (.int .u64 r_2)))],[(102,.box 33 (eW q_1))]⟩) (fun z=>z) ?_ ?_
 ·refine ab.seq (ab.aa ?_)
  refine Oc oa (ae.aj ⟨[(1,_),(2,_),(4,_),(6,_),(7,I 15)],[(101,_),(102,_)]⟩ rfl (ab.block (ab.dM h2 (kr fun (q_3:aT) (r_4:Int) (k_5:Int)=>⟨[(1,.b (.one (.int .u32 b0))),(2,Pt 101 0),(4,Pt 102 0),(6,.b (.one (.int .u64 r_4))),(7,I k_5)],[(101,.box 33 (eW a0)),(102,.box 33 (eW q_3))]⟩) [1,2,4,6,7] [101,102] rfl ?_)))
  rintro ⟨q_3,r_4,k_5⟩ o3 h4 hy5
  refine ab.seq (ab.seq (ab.aa ?_))
  refine Oc om (Oc (jc rfl rfl) ?_)
  refine ae.aj ⟨[(1,_),(2,_),(4,_),(6,_),(7,_),(9,B (decide (0 ≤ k_5)))],[(101,_),(102,_)]⟩ rfl (ab.ite h4 rfl (fun _ h4=>?_) (fun _ h4=>?_))
  ·refine ab.skip (Fin.ah ⟨[(1,_),(2,_),(4,_),(6,_),(7,_)],[(101,_),(102,_)]⟩ rfl (Fin.then (ab.seq (ab.block (ab.seq (ab.aa ?_))))))
   refine Oc om (Oc (nv (m:=32) (q:=4294967296) (by decide) rfl rfl (by decide)) (Oc om ?_))
   obtain ⟨x_8,e6,h4⟩:=aO h4
   refine Oc (aN bQ (bb e6) (cD e6) rfl rfl rfl) (Oc (aq bn rfl rfl (cI (post:=[]) (k:=.u32) [] e6 rfl rfl rfl)) (Oc (az bL bJ rfl) ?_))
   refine ae.dw .u64 h4 rfl (pR rfl rfl) (fun x_9 h4=>?_)
   refine Oc oa (ae.aj ⟨[(1,_),(2,_),(4,_),(6,.b (.one (.int .u64 x_9))),(7,_)],[(101,_),(102,_)]⟩ rfl (ab.seq (ab.aa ?_)))
   refine Oc om (Oc om (Oc om (Oc (az bL bJ rfl) ?_)))
   obtain ⟨x_10,e7,h4⟩:=aO h4
   refine Oc (qM e7 rfl rfl) (Oc (az bJ bL rfl) ?_)
   obtain ⟨x_11,e8,h4⟩:=aO h4
   refine Oc (aN bQ (bb e8) (cD e8) rfl rfl rfl) (Oc (bA bn rfl rfl rfl (kA (post:=[]) (k:=.u32) [] e8 rfl rfl rfl) (iK (post:=[]) (k:=.u32) [] e8 rfl rfl (aT.jz q_3 k_5 (IntKind.u32.wrap x_10)) rfl rfl)) ?_)
   refine ae.aj ⟨[(1,_),(2,_),(4,_),(6,_),(7,_)],[(101,_),(102,.box 33 (eW (q_3.set k_5 (IntKind.u32.wrap x_10))))]⟩ rfl (ab.aa (Oc om (Oc om (Oc (az bL bJ rfl) ?_))))
   obtain ⟨x_12,e9,h4⟩:=aO h4
   refine Oc (ti e9 rfl rfl) (Oc oa ?_)
   refine ae.nil (Fin.aC (Fin.ah ⟨[(1,_),(2,_),(4,_),(6,.b (.one (.int .u64 x_12))),(7,_)],[(101,_),(102,_)]⟩ rfl (Fin.then (ab.aa ?_))))
   refine Oc om (Oc (cR rfl rfl) (Oc oa ?_))
   refine ae.nil ?_
   exact Fin.cy [1,2,4,6,7] [101,102] (q_3.set k_5 (IntKind.u32.wrap x_10),x_12,IntKind.i64.wrap (k_5 - 1)) (Option.some.inj h4) rfl
  ·refine ab.exit (Fin.aB ?_)
   obtain rfl:=hy5 _ (Option.some.inj h4).symm
   refine Fin.aB (Fin.aU ?_)
   exact Fin.join [4,6] [102] (q_3,r_4) rfl rfl
 ·rintro ⟨q_1,r_2⟩ hv
  subst v1
  refine ab.seq (ab.aa ?_)
  refine Oc (lp aD) (Oc om (Oc (az bJ bL rfl) (Oc (ao aD rfl rfl rfl rfl (Nat.le_of_ble_eq_true rfl) rfl) (Oc oa ?_))))
  refine ae.aj ⟨[(4,_),(5,.b (.one (.int .u32 (IntKind.u32.wrap r_2))))],[(102,_)]⟩ rfl (ab.ret ?_)
  obtain rfl:=Option.some.inj h
  refine Fin.ah ⟨[(4,_),(5,_)],[(102,_)]⟩ rfl (Fin.ay [.agg (eW q_1),.one (.int .u32 (IntKind.u32.wrap r_2))] (.inl rfl) rfl (.cons (.agg aD rfl rfl rfl rfl) (.cons (.tmp rfl) .nil)) ⟨rfl,rfl⟩)
def il (F:Nat) (x0:Int):Option Int :=
 Option.bind (if (decide (65536 ≤ x0)) = true then (some (x0 / 65536,16)) else (some (x0,0))) (cF fun x_1 n_2=>Option.bind (if (decide (256 ≤ x_1)) = true then (some (x_1 / 256,IntKind.i64.wrap (n_2 + 8))) else (some (x_1,n_2))) (cF fun x_3 n_4=>(aZ ([0,1,2,2,3,3,3,3,4,4,4,4,4,4,4,4,5,5,5,5,5,5,5,5,5,5,5,5,5,5,5,5,6,6,6,6,6,6,6,6,6,6,6,6,6,6,6,6,6,6,6,6,6,6,6,6,6,6,6,6,6,6,6,6,7,7,7,7,7,7,7,7,7,7,7,7,7,7,7,7,7,7,7,7,7,7,7,7,7,7,7,7,7,7,7,7,7,7,7,7,7,7,7,7,7,7,7,7,7,7,7,7,7,7,7,7,7,7,7,7,7,7,7,7,7,7,7,7,8,8,8,8,8,8,8,8,8,8,8,8,8,8,8,8,8,8,8,8,8,8,8,8,8,8,8,8,8,8,8,8,8,8,8,8,8,8,8,8,8,8,8,8,8,8,8,8,8,8,8,8,8,8,8,8,8,8,8,8,8,8,8,8,8,8,8,8,8,8,8,8,8,8,8,8,8,8,8,8,8,8,8,8,8,8,8,8,8,8,8,8,8,8,8,8,8,8,8,8,8,8,8,8,8,8,8,8,8,8,8,8,8,8,8,8,8,8,8,8,8,8,8,8,8,8,8,8]:Str) (IntKind.u8.wrap x_3)).bind fun x_5=>cu (IntKind.i64.wrap (n_4 + (IntKind.i64.wrap (x_5.toNat:Int)))) fun x_6=>some x_6))
theorem n7 {F:Nat} {x0:Int} {r:Int} (h:il F x0 = some r):ax Tryz.prog (bh mx) 168 [] [.one (.int .u32 x0)] (Is [] (.b (.one (.i r)))):=by
 unfold il at h
 refine ax.intro 19 Tryz.func168 Tryz.ntmps168 rfl (by simp) fun E=>?_
 show ab _ E ⟨19,[],[],[]⟩ _ ⟨[(0,.b (.one (.int .u32 x0)))],[]⟩ _
 refine ab.seq (ab.aa ?_)
 refine Oc oa (ae.aj ⟨[(0,.b (.one (.int .u32 x0))),(2,I 0)],[]⟩ rfl ?_)
 obtain ⟨v1,h2,h⟩:=aO h
 refine ab.cN (v:=v1) (cF fun (x_1:Int) (n_2:Int)=>⟨[(0,.b (.one (.int .u32 x_1))),(2,I n_2)],[]⟩) (fun z=>z) ?_ ?_
 ·refine ab.seq (ab.aa ?_)
  refine Oc om (Oc (jc rfl rfl) ?_)
  refine ae.aj ⟨[(0,_),(2,_),(4,B (decide (65536 ≤ x0)))],[]⟩ rfl (ab.ite h2 rfl (fun _ h2=>?_) (fun _ h2=>?_))
  ·refine ab.seq (ab.aa ?_)
   refine Oc om (Oc (fM (m:=16) (by decide) rfl rfl rfl) (Oc oa ?_))
   refine ae.aj ⟨[(0,.b (.one (.int .u32 (x0 / 65536))))],[]⟩ rfl (ab.aa (Oc oa (ae.nil ?_)))
   exact Fin.join [0,2] [] (x0 / 65536,16) (Option.some.inj h2) rfl
  ·refine ab.skip ?_
   exact Fin.join [0,2] [] (x0,0) (Option.some.inj h2) rfl
 ·rintro ⟨x_1,n_2⟩ hv
  subst v1
  obtain ⟨v3,h4,h⟩:=aO h
  refine ab.cN (v:=v3) (cF fun (x_3:Int) (n_4:Int)=>⟨[(0,.b (.one (.int .u32 x_3))),(2,I n_4)],[]⟩) (fun z=>z) ?_ ?_
  ·refine ab.seq (ab.aa ?_)
   refine Oc om (Oc (jc rfl rfl) ?_)
   refine ae.aj ⟨[(0,_),(2,_),(8,B (decide (256 ≤ x_1)))],[]⟩ rfl (ab.ite h4 rfl (fun _ h4=>?_) (fun _ h4=>?_))
   ·refine ab.seq (ab.aa ?_)
    refine Oc om (Oc (fM (m:=8) (by decide) rfl rfl rfl) (Oc oa ?_))
    refine ae.aj ⟨[(0,.b (.one (.int .u32 (x_1 / 256)))),(2,_)],[]⟩ rfl (ab.aa (Oc om (Oc (aW rfl rfl) (Oc oa ?_))))
    refine ae.nil ?_
    exact Fin.join [0,2] [] (x_1 / 256,IntKind.i64.wrap (n_2 + 8)) (Option.some.inj h4) rfl
   ·refine ab.skip ?_
    exact Fin.join [0,2] [] (x_1,n_2) (Option.some.inj h4) rfl
  ·rintro ⟨x_3,n_4⟩ hv
   subst v3
   refine ab.seq (ab.aa ?_)
   refine Oc om (Oc om (Oc (az bL mn rfl) ?_))
   obtain ⟨x_5,e5,h⟩:=aO h
   refine Oc (b8 du rfl rfl (bb e5) (fK e5)) (Oc (az mn pQ rfl) ?_)
   refine ae.dw .i64 h rfl (aW rfl rfl) (fun x_6 h=>?_)
   refine Oc oa (ae.aj ⟨[(2,I x_6)],[]⟩ rfl (ab.ret ?_))
   obtain rfl:=Option.some.inj h
   refine Fin.ah ⟨[(2,_)],[]⟩ rfl (Fin.ay [.one (.i x_6)] (.inl rfl) rfl (.cons (.tmp rfl) .nil) ⟨rfl,rfl⟩)
def dz (F:Nat) (x0:Int):Option Int :=
 (il F x0).bind fun x_1=>some (IntKind.i64.wrap (32 - x_1))
theorem mj {F:Nat} {x0:Int} {r:Int} (h:dz F x0 = some r):ax Tryz.prog (bh mx) 140 [] [.one (.int .u32 x0)] (Is [] (.b (.one (.i r)))):=by
 unfold dz at h
 refine ax.intro 6 Tryz.func140 Tryz.ntmps140 rfl (by simp) fun E=>?_
 show ab _ E ⟨6,[],[],[]⟩ _ ⟨[(0,.b (.one (.int .u32 x0)))],[]⟩ _
 refine ab.seq (ab.aa ?_)
 refine Oc oa (ae.aj ⟨[(0,.b (.one (.int .u32 x0)))],[]⟩ rfl (ab.seq (ab.aa ?_)))
 refine Oc om ?_
 obtain ⟨x_1,e1,h⟩:=aO h
 refine Oc (ag (n7 e1) Aq rfl rfl) (Oc (cR rfl rfl) (Oc oa ?_))
 refine ae.aj ⟨[(2,I (IntKind.i64.wrap (32 - x_1)))],[]⟩ rfl (ab.ret ?_)
 obtain rfl:=Option.some.inj h
 refine Fin.ah ⟨[(2,_)],[]⟩ rfl (Fin.ay [.one (.i (IntKind.i64.wrap (32 - x_1)))] (.inl rfl) rfl (.cons (.tmp rfl) .nil) ⟨rfl,rfl⟩)
def rO (F:Nat) (w0:aT) (n0:Int):Option (aT × Int) :=
 Option.bind (iter F (kr fun out_3 carry_4 x_5=>if (decide (x_5 < 16)) = true then ((aZ w0.l x_5).bind fun x_8=>Option.bind (xc .u64 (IntKind.u64.wrap x_8) n0) (fun x_9=>cu (IntKind.u32.wrap (jT .u64 carry_4 x_9)) fun x_10=>(aZ out_3.l x_5).bind fun x_11=>some (.inl (out_3.set x_5 x_10,(jT .u64 carry_4 x_9) / 4294967296,IntKind.i64.wrap (x_5 + 1))))) else (some (.inr (out_3,carry_4)))) (aT.zero,0,0)) (cF fun out_1 carry_2=>some (out_1,IntKind.u32.wrap carry_2))
theorem vq {F:Nat} {w0:aT} {n0:Int} {r:aT × Int} (h:rO F w0 n0 = some r):ax Tryz.prog (bh mx) 141 [] [.agg (eW w0),.one (.i n0)] (Is [] (.fG [.agg (eW r.1),.one (.int .u32 r.2)])):=by
 unfold rO at h
 refine ax.intro 30 Tryz.func141 Tryz.ntmps141 rfl (by simp) fun E=>?_
 show ab _ E ⟨30,[],[],[]⟩ _ ⟨[(0,.b (.agg (eW w0))),(1,I n0)],[]⟩ _
 refine ab.seq (ab.aa ?_)
 refine Oc (bM (k:=101) rfl rfl) (Oc (aA (k:=102) cP rfl) (Oc oa ?_))
 refine ae.aj ⟨[(1,I n0),(2,Pt 101 0),(4,Pt 102 0)],[(101,.box 33 (eW w0)),(102,.box 33 (eW aT.zero))]⟩ rfl (ab.seq (ab.aa ?_))
 refine Oc (aA (k:=103) cP rfl) (ae.aj ⟨[(1,_),(2,_),(4,_),(6,Pt 103 0)],[(101,_),(102,_),(103,.box 33 (eW aT.zero))]⟩ rfl (ab.seq (ab.aa ?_)))
 refine Oc oa (ae.aj ⟨[(1,_),(2,_),(4,_),(6,_),(7,.b (.one (.int .u64 0)))],[(101,_),(102,_),(103,_)]⟩ rfl ?_)
 obtain ⟨v1,h2,h⟩:=aO h
 refine ab.cN (v:=v1) (cF fun (out_1:aT) (carry_2:Int)=>⟨[(4,Pt 102 0),(6,Pt 103 0),(7,.b (.one (.int .u64 carry_2)))],[(102,.box 33 (eW aT.zero)),(103,.box 33 (eW out_1))]⟩) (fun z=>z) ?_ ?_
 ·refine ab.seq (ab.aa ?_)
  refine Oc om (ae.aj ⟨[(1,_),(2,_),(4,_),(6,_),(7,_),(9,I 0)],[(101,_),(102,_),(103,_)]⟩ rfl (ab.block (ab.dM h2 (kr fun (out_3:aT) (carry_4:Int) (x_5:Int)=>⟨[(1,I n0),(2,Pt 101 0),(4,Pt 102 0),(6,Pt 103 0),(7,.b (.one (.int .u64 carry_4))),(9,I x_5)],[(101,.box 33 (eW w0)),(102,.box 33 (eW aT.zero)),(103,.box 33 (eW out_3))]⟩) [1,2,4,6,7,9] [101,102,103] rfl ?_)))
  rintro ⟨out_3,carry_4,x_5⟩ o3 h4 hy5
  refine ab.seq (ab.aa ?_)
  refine Oc (b7 rfl rfl) (ae.aj ⟨[(1,_),(2,_),(4,_),(6,_),(7,_),(9,_),(10,B (decide (x_5 < 16)))],[(101,_),(102,_),(103,_)]⟩ rfl (ab.seq (ab.ite h4 rfl (fun _ h4=>?_) (fun _ h4=>?_))))
  ·refine ab.skip (Fin.ah ⟨[(1,_),(2,_),(4,_),(6,_),(7,_),(9,_)],[(101,_),(102,_),(103,_)]⟩ rfl (Fin.then (ab.seq (ab.block (ab.seq (ab.aa ?_))))))
   refine Oc om (Oc oa ?_)
   refine ae.aj ⟨[(1,_),(2,_),(4,_),(6,_),(7,_),(8,I x_5),(9,_)],[(101,_),(102,_),(103,_)]⟩ rfl (ab.seq (ab.aa ?_))
   refine Oc om (Oc om ?_)
   obtain ⟨x_8,e6,h4⟩:=aO h4
   refine Oc (aN bQ (bb e6) (cD e6) rfl rfl rfl) (Oc (aq bn rfl rfl (cI (post:=[]) (k:=.u32) [] e6 rfl rfl rfl)) (Oc (az bL bJ rfl) (Oc om ?_)))
   obtain ⟨x_9,e7,h4⟩:=aO h4
   refine Oc (Cs e7 rfl rfl) (Oc (pR rfl rfl) (Oc oa ?_))
   refine ae.aj ⟨[(1,_),(2,_),(4,_),(6,_),(7,.b (.one (.int .u64 (jT .u64 carry_4 x_9)))),(8,_),(9,_)],[(101,_),(102,_),(103,_)]⟩ rfl (ab.seq (ab.aa ?_))
   refine Oc om (Oc om ?_)
   refine ae.dw .u32 h4 rfl (az bJ bL rfl) (fun x_10 h4=>?_)
   obtain ⟨x_11,e8,h4⟩:=aO h4
   refine Oc (aN bQ (bb e8) (cD e8) rfl rfl rfl) (Oc (bA bn rfl rfl rfl (kA (post:=[]) (k:=.u32) [] e8 rfl rfl rfl) (iK (post:=[]) (k:=.u32) [] e8 rfl rfl (aT.jz out_3 x_5 x_10) rfl rfl)) ?_)
   refine ae.aj ⟨[(1,_),(2,_),(4,_),(6,_),(7,_),(9,_)],[(101,_),(102,_),(103,.box 33 (eW (out_3.set x_5 x_10)))]⟩ rfl (ab.aa (Oc om (Oc (fM (m:=32) (by decide) rfl rfl rfl) (Oc oa ?_))))
   refine ae.nil (Fin.aC (Fin.ah ⟨[(1,_),(2,_),(4,_),(6,_),(7,.b (.one (.int .u64 ((jT .u64 carry_4 x_9) / 4294967296)))),(9,_)],[(101,_),(102,_),(103,_)]⟩ rfl (Fin.then (ab.aa ?_))))
   refine Oc (aW rfl rfl) (Oc om ?_)
   refine ae.nil ?_
   exact Fin.cy [1,2,4,6,7,9] [101,102,103] (out_3.set x_5 x_10,(jT .u64 carry_4 x_9) / 4294967296,IntKind.i64.wrap (x_5 + 1)) (Option.some.inj h4) rfl
  ·refine ab.exit (Fin.aB ?_)
   obtain rfl:=hy5 _ (Option.some.inj h4).symm
   refine Fin.aB (Fin.aU ?_)
   exact Fin.join [4,6,7] [102,103] (out_3,carry_4) rfl rfl
 ·rintro ⟨out_1,carry_2⟩ hv
  subst v1
  refine ab.seq (ab.aa ?_)
  refine Oc (lp aD) (Oc om (Oc (az bJ bL rfl) (Oc (ao aD rfl rfl rfl rfl (Nat.le_of_ble_eq_true rfl) rfl) (Oc oa ?_))))
  refine ae.aj ⟨[(4,_),(5,.b (.one (.int .u32 (IntKind.u32.wrap carry_2))))],[(102,.box 33 (eW out_1))]⟩ rfl (ab.ret ?_)
  obtain rfl:=Option.some.inj h
  refine Fin.ah ⟨[(4,_),(5,_)],[(102,_)]⟩ rfl (Fin.ay [.agg (eW out_1),.one (.int .u32 (IntKind.u32.wrap carry_2))] (.inl rfl) rfl (.cons (.agg aD rfl rfl rfl rfl) (.cons (.tmp rfl) .nil)) ⟨rfl,rfl⟩)
def kS (F:Nat) (v0:aT) (n0:Int) (j0:Int) (u0v:cg):Option Int :=
 (aZ u0v.l (IntKind.i64.wrap (j0 + n0))).bind fun x_1=>(aZ u0v.l (IntKind.i64.wrap ((IntKind.i64.wrap (j0 + n0)) - 1))).bind fun x_2=>(aZ v0.l (IntKind.i64.wrap (n0 - 1))).bind fun x_3=>(tA .u64 (jT .u64 (IntKind.u64.wrap ((IntKind.u64.wrap x_1) * 4294967296)) (IntKind.u64.wrap x_2)) (IntKind.u64.wrap x_3)).bind fun x_4=>(vT (jT .u64 (IntKind.u64.wrap ((IntKind.u64.wrap x_1) * 4294967296)) (IntKind.u64.wrap x_2)) (IntKind.u64.wrap x_3)).bind fun x_5=>Option.bind (iter F (cF fun d_7 rest_8=>(bx ((decide (rest_8 < 4294967296)) && !(decide (4294967296 ≤ d_7))) (aZ v0.l (IntKind.i64.wrap (n0 - 2)))).bind fun x_10=>(bx ((decide (rest_8 < 4294967296)) && !(decide (4294967296 ≤ d_7))) (aZ u0v.l (IntKind.i64.wrap ((IntKind.i64.wrap (j0 + n0)) - 2)))).bind fun x_11=>if ((decide (rest_8 < 4294967296)) && ((decide (4294967296 ≤ d_7)) || (decide ((jT .u64 (IntKind.u64.wrap (rest_8 * 4294967296)) (IntKind.u64.wrap x_11)) < (IntKind.u64.wrap (d_7 * (IntKind.u64.wrap x_10))))))) = true then (cu (IntKind.u64.wrap (rest_8 + (IntKind.u64.wrap x_3))) fun x_12=>some (.inl (IntKind.u64.wrap (d_7 - 1),x_12))) else (some (.inr d_7))) (x_4,x_5)) (fun d_6=>some d_6)
theorem wQ {F:Nat} {v0:aT} {n0:Int} {j0:Int} {u0v:cg} {r:Int} (h:kS F v0 n0 j0 u0v = some r):ax Tryz.prog (bh mx) 142 [(1,.box 183 ((iY .u32) u0v))] [.ptr 1 0,.agg (eW v0),.one (.i n0),.one (.i j0)] (Is [(1,.box 183 ((iY .u32) u0v))] (.b (.one (.int .u64 r)))):=by
 unfold kS at h
 refine ax.intro 77 Tryz.func142 Tryz.ntmps142 rfl (by simp) fun E=>?_
 show ab _ E ⟨77,[1],[1],[]⟩ _ ⟨[(0,Pt 1 0),(1,.b (.agg (eW v0))),(2,I n0),(3,I j0)],[(1,.box 183 ((iY .u32) u0v))]⟩ _
 refine ab.seq (ab.aa ?_)
 refine Oc (bM (k:=101) rfl rfl) (Oc oa ?_)
 refine ae.aj ⟨[(0,Pt 1 0),(2,I n0),(3,I j0),(5,Pt 101 0)],[(1,.box 183 ((iY .u32) u0v)),(101,.box 33 (eW v0))]⟩ rfl (ab.seq ?_)
 obtain ⟨x_1,e1,h⟩:=aO h
 obtain ⟨x_2,e2,h⟩:=aO h
 refine ab.bR mixed 20 [Pt 1 0,I j0,I n0,I (IntKind.i64.wrap (j0 + n0)),Pt 1 0,.b (.ptr 1 (0 + (IntKind.i64.wrap (j0 + n0):Int).toNat * 1)),.b (.one (.int .u32 x_1)),.b (.one (.int .u64 (IntKind.u64.wrap x_1))),.b (.one (.int .u64 (IntKind.u64.wrap ((IntKind.u64.wrap x_1) * 4294967296)))),Pt 1 0,I j0,I n0,I (IntKind.i64.wrap (j0 + n0)),I (IntKind.i64.wrap ((IntKind.i64.wrap (j0 + n0)) - 1)),Pt 1 0,.b (.ptr 1 (0 + (IntKind.i64.wrap ((IntKind.i64.wrap (j0 + n0)) - 1):Int).toNat * 1)),.b (.one (.int .u32 x_2)),.b (.one (.int .u64 (IntKind.u64.wrap x_2))),.b (.one (.int .u64 (jT .u64 (IntKind.u64.wrap ((IntKind.u64.wrap x_1) * 4294967296)) (IntKind.u64.wrap x_2)))),.b (.one (.int .u64 (jT .u64 (IntKind.u64.wrap ((IntKind.u64.wrap x_1) * 4294967296)) (IntKind.u64.wrap x_2))))] [0,2,3,5,9] [1,101] (s':=⟨[(0,_),(2,_),(3,_),(5,_),(9,.b (.one (.int .u64 (jT .u64 (IntKind.u64.wrap ((IntKind.u64.wrap x_1) * 4294967296)) (IntKind.u64.wrap x_2)))))],[(1,_),(101,_)]⟩) rfl ⟨fun _=>.p om,fun _=>.p om,fun _=>.p om,fun _=>.p (aW rfl rfl),fun _=>.p (ar rfl),fun _=>.p (aN eU (bb e1) (cD e1) rfl rfl rfl),fun _=>.p (aq bn rfl rfl (cI (post:=[]) (k:=.u32) [] e1 rfl rfl rfl)),fun _=>.p (az bL bJ rfl),fun _=>.p (nv (m:=32) (q:=4294967296) (by decide) rfl rfl (by decide)),fun _=>.p om,fun _=>.p om,fun _=>.p om,fun _=>.p (aW rfl rfl),fun _=>.p (cR rfl rfl),fun _=>.p (ar rfl),fun _=>.p (aN eU (bb e2) (cD e2) rfl rfl rfl),fun _=>.p (aq bn rfl rfl (cI (post:=[]) (k:=.u32) [] e2 rfl rfl rfl)),fun _=>.p (az bL bJ rfl),fun _=>.p (pR rfl rfl),fun _=>.p oa,trivial⟩ rfl rfl (ab.seq (ab.aa ?_))
 refine Oc om (Oc (cR rfl rfl) ?_)
 obtain ⟨x_3,e3,h⟩:=aO h
 refine Oc (aN bQ (bb e3) (cD e3) rfl rfl rfl) (Oc (aq bn rfl rfl (cI (post:=[]) (k:=.u32) [] e3 rfl rfl rfl)) (Oc (az bL bJ rfl) (Oc oa ?_)))
 refine ae.aj ⟨[(0,_),(2,_),(3,_),(5,_),(9,_),(10,.b (.one (.int .u64 (IntKind.u64.wrap x_3))))],[(1,_),(101,_)]⟩ rfl (ab.seq ?_)
 obtain ⟨x_4,e4,h⟩:=aO h
 obtain ⟨x_5,e5,h⟩:=aO h
 refine ab.bR mixed 8 [.b (.one (.int .u64 (jT .u64 (IntKind.u64.wrap ((IntKind.u64.wrap x_1) * 4294967296)) (IntKind.u64.wrap x_2)))),.b (.one (.int .u64 (IntKind.u64.wrap x_3))),.b (.one (.int .u64 x_4)),.b (.one (.int .u64 (jT .u64 (IntKind.u64.wrap ((IntKind.u64.wrap x_1) * 4294967296)) (IntKind.u64.wrap x_2)))),.b (.one (.int .u64 (IntKind.u64.wrap x_3))),.b (.one (.int .u64 x_5)),.b (.one (.int .u64 x_4)),.b (.one (.int .u64 x_5))] [0,2,3,5,10,11,12] [1,101] (s':=⟨[(0,_),(2,_),(3,_),(5,_),(10,_),(11,.b (.one (.int .u64 x_4))),(12,.b (.one (.int .u64 x_5)))],[(1,_),(101,_)]⟩) rfl ⟨fun _=>.p om,fun _=>.p om,fun _=>.p (qM e4 rfl rfl),fun _=>.p om,fun _=>.p om,fun _=>.p (ti e5 rfl rfl),fun _=>.p oa,fun _=>.p oa,trivial⟩ rfl rfl ?_
 obtain ⟨v6,h7,h⟩:=aO h
 refine ab.cN (v:=v6) (fun (d_6:Int)=>⟨[(11,.b (.one (.int .u64 d_6)))],[(1,.box 183 ((iY .u32) u0v))]⟩) (fun z=>z) ?_ ?_
 ·refine ab.block (ab.dM h7 (cF fun (d_7:Int) (rest_8:Int)=>⟨[(0,Pt 1 0),(2,I n0),(3,I j0),(5,Pt 101 0),(10,.b (.one (.int .u64 (IntKind.u64.wrap x_3)))),(11,.b (.one (.int .u64 d_7))),(12,.b (.one (.int .u64 rest_8)))],[(1,.box 183 ((iY .u32) u0v)),(101,.box 33 (eW v0))]⟩) [0,2,3,5,10,11,12] [1,101] rfl ?_)
  rintro ⟨d_7,rest_8⟩ o8 h9 hy10
  refine ab.seq (ab.seq ?_)
  refine ab.ah ⟨[(0,_),(2,_),(3,_),(5,_),(10,_),(11,_),(12,_)],[(1,_),(101,_)]⟩ rfl ?_
  obtain ⟨x_10,e18,h9⟩:=aO h9
  obtain ⟨x_11,e31,h9⟩:=aO h9
  refine ab.bR mixed 28 [.b (.one (.int .u64 rest_8)),B (decide (rest_8 < 4294967296)),B (decide (rest_8 < 4294967296)),.opt (decide (rest_8 < 4294967296)) (.one (.int .u64 d_7)),.opt (decide (rest_8 < 4294967296)) (.one (.bool (decide (4294967296 ≤ d_7)))),.opt (decide (rest_8 < 4294967296)) (.one (.bool (decide (4294967296 ≤ d_7)))),.opt ((decide (rest_8 < 4294967296)) && !(decide (4294967296 ≤ d_7))) (.one (.int .u64 d_7)),.opt ((decide (rest_8 < 4294967296)) && !(decide (4294967296 ≤ d_7))) (.one (.i n0)),.opt ((decide (rest_8 < 4294967296)) && !(decide (4294967296 ≤ d_7))) (.one (.i (IntKind.i64.wrap (n0 - 2)))),.opt ((decide (rest_8 < 4294967296)) && !(decide (4294967296 ≤ d_7))) (.ptr 101 (0 + (IntKind.i64.wrap (n0 - 2):Int).toNat * 1)),.opt ((decide (rest_8 < 4294967296)) && !(decide (4294967296 ≤ d_7))) (.one (.int .u32 x_10)),.opt ((decide (rest_8 < 4294967296)) && !(decide (4294967296 ≤ d_7))) (.one (.int .u64 (IntKind.u64.wrap x_10))),.opt ((decide (rest_8 < 4294967296)) && !(decide (4294967296 ≤ d_7))) (.one (.int .u64 (IntKind.u64.wrap (d_7 * (IntKind.u64.wrap x_10))))),.opt ((decide (rest_8 < 4294967296)) && !(decide (4294967296 ≤ d_7))) (.one (.int .u64 rest_8)),.opt ((decide (rest_8 < 4294967296)) && !(decide (4294967296 ≤ d_7))) (.one (.int .u64 (IntKind.u64.wrap (rest_8 * 4294967296)))),.opt ((decide (rest_8 < 4294967296)) && !(decide (4294967296 ≤ d_7))) (.ptr 1 0),.opt ((decide (rest_8 < 4294967296)) && !(decide (4294967296 ≤ d_7))) (.one (.i j0)),.opt ((decide (rest_8 < 4294967296)) && !(decide (4294967296 ≤ d_7))) (.one (.i n0)),.opt ((decide (rest_8 < 4294967296)) && !(decide (4294967296 ≤ d_7))) (.one (.i (IntKind.i64.wrap (j0 + n0)))),.opt ((decide (rest_8 < 4294967296)) && !(decide (4294967296 ≤ d_7))) (.one (.i (IntKind.i64.wrap ((IntKind.i64.wrap (j0 + n0)) - 2)))),.opt ((decide (rest_8 < 4294967296)) && !(decide (4294967296 ≤ d_7))) (.ptr 1 0),.opt ((decide (rest_8 < 4294967296)) && !(decide (4294967296 ≤ d_7))) (.ptr 1 (0 + (IntKind.i64.wrap ((IntKind.i64.wrap (j0 + n0)) - 2):Int).toNat * 1)),.opt ((decide (rest_8 < 4294967296)) && !(decide (4294967296 ≤ d_7))) (.one (.int .u32 x_11)),.opt ((decide (rest_8 < 4294967296)) && !(decide (4294967296 ≤ d_7))) (.one (.int .u64 (IntKind.u64.wrap x_11))),.opt ((decide (rest_8 < 4294967296)) && !(decide (4294967296 ≤ d_7))) (.one (.int .u64 (jT .u64 (IntKind.u64.wrap (rest_8 * 4294967296)) (IntKind.u64.wrap x_11)))),.opt ((decide (rest_8 < 4294967296)) && !(decide (4294967296 ≤ d_7))) (.one (.bool (decide ((jT .u64 (IntKind.u64.wrap (rest_8 * 4294967296)) (IntKind.u64.wrap x_11)) < (IntKind.u64.wrap (d_7 * (IntKind.u64.wrap x_10))))))),.opt (decide (rest_8 < 4294967296)) (.one (.bool ((decide (4294967296 ≤ d_7)) || (decide ((jT .u64 (IntKind.u64.wrap (rest_8 * 4294967296)) (IntKind.u64.wrap x_11)) < (IntKind.u64.wrap (d_7 * (IntKind.u64.wrap x_10)))))))),B ((decide (rest_8 < 4294967296)) && ((decide (4294967296 ≤ d_7)) || (decide ((jT .u64 (IntKind.u64.wrap (rest_8 * 4294967296)) (IntKind.u64.wrap x_11)) < (IntKind.u64.wrap (d_7 * (IntKind.u64.wrap x_10)))))))] [0,2,3,5,10,11,12,70] [1,101] (s':=⟨[(0,_),(2,_),(3,_),(5,_),(10,_),(11,_),(12,_),(70,B ((decide (rest_8 < 4294967296)) && ((decide (4294967296 ≤ d_7)) || (decide ((jT .u64 (IntKind.u64.wrap (rest_8 * 4294967296)) (IntKind.u64.wrap x_11)) < (IntKind.u64.wrap (d_7 * (IntKind.u64.wrap x_10))))))))],[(1,_),(101,_)]⟩) rfl ⟨fun _=>.p om,fun _=>.p (b7 rfl rfl),fun _=>.p om,fun _=>by exact .guard (decide (rest_8 < 4294967296)) 1 [] (.plain rfl) (cO _) rfl rfl (fun g11=>trivial) (fun g11=>om),fun _=>by exact .guard (decide (rest_8 < 4294967296)) 2 [46] (.plain rfl) (cO _) rfl rfl (fun g12=>⟨g12,trivial⟩) (fun g12=>jc rfl rfl),fun _=>by exact .guard (decide (rest_8 < 4294967296)) 3 [47] (.plain rfl) (cO _) rfl rfl (fun g13=>⟨g13,trivial⟩) (fun g13=>om),fun _=>by exact .guard ((decide (rest_8 < 4294967296)) && !(decide (4294967296 ≤ d_7))) 1 [] (.under rfl) (fy _ _) rfl rfl (fun g14=>trivial) (fun g14=>om),fun _=>by exact .guard ((decide (rest_8 < 4294967296)) && !(decide (4294967296 ≤ d_7))) 1 [] (.under rfl) (fy _ _) rfl rfl (fun g15=>trivial) (fun g15=>om),fun _=>by exact .guard ((decide (rest_8 < 4294967296)) && !(decide (4294967296 ≤ d_7))) 2 [50] (.under rfl) (fy _ _) rfl rfl (fun g16=>⟨g16,trivial⟩) (fun g16=>cR rfl rfl),fun _=>by exact .guard ((decide (rest_8 < 4294967296)) && !(decide (4294967296 ≤ d_7))) 2 [51] (.under rfl) (fy _ _) rfl rfl (fun g17=>⟨g17,trivial⟩) (fun g17=>aN bQ (bb (gc e18 g17)) (cD (gc e18 g17)) rfl rfl rfl),fun _=>by exact .guard ((decide (rest_8 < 4294967296)) && !(decide (4294967296 ≤ d_7))) 2 [52] (.under rfl) (fy _ _) rfl rfl (fun g19=>⟨g19,trivial⟩) (fun g19=>aq bn rfl rfl (cI (post:=[]) (k:=.u32) [] (gc e18 g19) rfl rfl rfl)),fun _=>by exact .guard ((decide (rest_8 < 4294967296)) && !(decide (4294967296 ≤ d_7))) 2 [53] (.under rfl) (fy _ _) rfl rfl (fun g20=>⟨g20,trivial⟩) (fun g20=>az bL bJ rfl),fun _=>by exact .guard ((decide (rest_8 < 4294967296)) && !(decide (4294967296 ≤ d_7))) 3 [49,54] (.under rfl) (fy _ _) rfl rfl (fun g21=>⟨g21,g21,trivial⟩) (fun g21=>rT rfl rfl),fun _=>by exact .guard ((decide (rest_8 < 4294967296)) && !(decide (4294967296 ≤ d_7))) 1 [] (.under rfl) (fy _ _) rfl rfl (fun g22=>trivial) (fun g22=>om),fun _=>by exact .guard ((decide (rest_8 < 4294967296)) && !(decide (4294967296 ≤ d_7))) 2 [56] (.under rfl) (fy _ _) rfl rfl (fun g23=>⟨g23,trivial⟩) (fun g23=>nv (m:=32) (q:=4294967296) (by decide) rfl rfl (by decide)),fun _=>by exact .guard ((decide (rest_8 < 4294967296)) && !(decide (4294967296 ≤ d_7))) 1 [] (.under rfl) (fy _ _) rfl rfl (fun g24=>trivial) (fun g24=>om),fun _=>by exact .guard ((decide (rest_8 < 4294967296)) && !(decide (4294967296 ≤ d_7))) 1 [] (.under rfl) (fy _ _) rfl rfl (fun g25=>trivial) (fun g25=>om),fun _=>by exact .guard ((decide (rest_8 < 4294967296)) && !(decide (4294967296 ≤ d_7))) 1 [] (.under rfl) (fy _ _) rfl rfl (fun g26=>trivial) (fun g26=>om),fun _=>by exact .guard ((decide (rest_8 < 4294967296)) && !(decide (4294967296 ≤ d_7))) 3 [59,60] (.under rfl) (fy _ _) rfl rfl (fun g27=>⟨g27,g27,trivial⟩) (fun g27=>aW rfl rfl),fun _=>by exact .guard ((decide (rest_8 < 4294967296)) && !(decide (4294967296 ≤ d_7))) 2 [61] (.under rfl) (fy _ _) rfl rfl (fun g28=>⟨g28,trivial⟩) (fun g28=>cR rfl rfl),fun _=>by exact .guard ((decide (rest_8 < 4294967296)) && !(decide (4294967296 ≤ d_7))) 2 [58] (.under rfl) (fy _ _) rfl rfl (fun g29=>⟨g29,trivial⟩) (fun g29=>ar rfl),fun _=>by exact .guard ((decide (rest_8 < 4294967296)) && !(decide (4294967296 ≤ d_7))) 3 [62,63] (.under rfl) (fy _ _) rfl rfl (fun g30=>⟨g30,g30,trivial⟩) (fun g30=>aN eU (bb (gc e31 g30)) (cD (gc e31 g30)) rfl rfl rfl),fun _=>by exact .guard ((decide (rest_8 < 4294967296)) && !(decide (4294967296 ≤ d_7))) 2 [64] (.under rfl) (fy _ _) rfl rfl (fun g32=>⟨g32,trivial⟩) (fun g32=>aq bn rfl rfl (cI (post:=[]) (k:=.u32) [] (gc e31 g32) rfl rfl rfl)),fun _=>by exact .guard ((decide (rest_8 < 4294967296)) && !(decide (4294967296 ≤ d_7))) 2 [65] (.under rfl) (fy _ _) rfl rfl (fun g33=>⟨g33,trivial⟩) (fun g33=>az bL bJ rfl),fun _=>by exact .guard ((decide (rest_8 < 4294967296)) && !(decide (4294967296 ≤ d_7))) 3 [57,66] (.under rfl) (fy _ _) rfl rfl (fun g34=>⟨g34,g34,trivial⟩) (fun g34=>pR rfl rfl),fun _=>by exact .guard ((decide (rest_8 < 4294967296)) && !(decide (4294967296 ≤ d_7))) 3 [55,67] (.under rfl) (fy _ _) rfl rfl (fun g35=>⟨g35,g35,trivial⟩) (fun g35=>fJ rfl rfl),fun _=>by exact .guard (decide (rest_8 < 4294967296)) 3 [48] (.plain rfl) (cO _) rfl rfl (fun g36=>⟨g36,trivial⟩) (fun g36=>bt (fun e=>by rw [g36,e]; rfl) rfl rfl rfl rfl),fun _=>.p (aJ (fun e=>e) rfl rfl rfl rfl),trivial⟩ rfl rfl ?_
  refine ab.ite h9 rfl (fun _ h9=>?_) (fun _ h9=>?_)
  ·refine ab.skip (Fin.ah ⟨[(0,_),(2,_),(3,_),(5,_),(10,_),(11,_),(12,_)],[(1,_),(101,_)]⟩ rfl (Fin.then (ab.block (ab.seq (ab.aa ?_)))))
   refine Oc om (Oc (cR rfl rfl) (Oc oa ?_))
   refine ae.aj ⟨[(0,_),(2,_),(3,_),(5,_),(10,_),(11,.b (.one (.int .u64 (IntKind.u64.wrap (d_7 - 1))))),(12,_)],[(1,_),(101,_)]⟩ rfl (ab.aa (Oc om (Oc om ?_)))
   refine ae.dw .u64 h9 rfl (aW rfl rfl) (fun x_12 h9=>?_)
   refine Oc oa (ae.nil (Fin.aC ?_))
   exact Fin.cy [0,2,3,5,10,11,12] [1,101] (IntKind.u64.wrap (d_7 - 1),x_12) (Option.some.inj h9) rfl
  ·refine ab.exit (Fin.aB ?_)
   obtain rfl:=hy10 _ (Option.some.inj h9).symm
   refine Fin.aB (Fin.aU ?_)
   exact Fin.join [11] [1] d_7 rfl rfl
 ·rintro d_6 hv
  subst v6
  refine ab.seq (ab.aa ?_)
  refine Oc om (Oc oa ?_)
  refine ae.aj ⟨[(8,.b (.one (.int .u64 d_6)))],[(1,_)]⟩ rfl (ab.ret ?_)
  obtain rfl:=Option.some.inj h
  refine Fin.ah ⟨[(8,_)],[(1,_)]⟩ rfl ?_
  exact Fin.result [.one (.int .u64 d_6)] (.inl rfl) rfl (.cons (.tmp rfl) .nil) ⟨rfl,rfl⟩
def mA (F:Nat) (v0:aT) (n0:Int) (j0:Int) (d0:Int) (u0v:cg):Option (Bool × cg) :=
 Option.bind (iter F (BT fun u_4 carry_5 borrow_6 x_7=>if (decide (x_7 < n0)) = true then ((aZ v0.l x_7).bind fun x_11=>cu (IntKind.u64.wrap (d0 * (IntKind.u64.wrap x_11))) fun x_12=>(aZ u_4.l (IntKind.i64.wrap (j0 + x_7))).bind fun x_13=>cu (IntKind.u32.wrap (IntKind.u64.wrap (carry_5 + x_12))) fun x_14=>cu (IntKind.u64.wrap ((IntKind.u64.wrap x_13) - (IntKind.u64.wrap x_14))) fun x_15=>cu (IntKind.u32.wrap (IntKind.u64.wrap (x_15 - borrow_6))) fun x_16=>(aZ u_4.l (IntKind.i64.wrap (j0 + x_7))).bind fun x_17=>cu ((IntKind.u64.wrap (x_15 - borrow_6)) / 9223372036854775808) fun x_18=>cu ((IntKind.u64.wrap (carry_5 + x_12)) / 4294967296) fun x_19=>some (.inl (u_4.set (IntKind.i64.wrap (j0 + x_7)) x_16,x_19,x_18,IntKind.i64.wrap (x_7 + 1)))) else (some (.inr (u_4,carry_5,borrow_6)))) (u0v,0,0,0)) (kr fun u_1 carry_2 borrow_3=>(aZ u_1.l (IntKind.i64.wrap (j0 + n0))).bind fun x_20=>cu (IntKind.u64.wrap ((IntKind.u64.wrap x_20) - carry_2)) fun x_21=>cu (IntKind.u32.wrap (IntKind.u64.wrap (x_21 - borrow_3))) fun x_22=>(aZ u_1.l (IntKind.i64.wrap (j0 + n0))).bind fun x_23=>cu ((IntKind.u64.wrap (x_21 - borrow_3)) / 9223372036854775808) fun x_24=>some (decide (x_24 = 1),u_1.set (IntKind.i64.wrap (j0 + n0)) x_22))
theorem xQ {F:Nat} {v0:aT} {n0:Int} {j0:Int} {d0:Int} {u0v:cg} {r:Bool × cg} (h:mA F v0 n0 j0 d0 u0v = some r):ax Tryz.prog (bh mx) 143 [(1,.box 183 ((iY .u32) u0v))] [.ptr 1 0,.agg (eW v0),.one (.i n0),.one (.i j0),.one (.int .u64 d0)] (Is [(1,.box 183 ((iY .u32) r.2))] (.b (.one (.bool r.1)))):=by
 unfold mA at h
 refine ax.intro 78 Tryz.func143 Tryz.ntmps143 rfl (by simp) fun E=>?_
 show ab _ E ⟨78,[1],[1],[]⟩ _ ⟨[(0,Pt 1 0),(1,.b (.agg (eW v0))),(2,I n0),(3,I j0),(4,.b (.one (.int .u64 d0)))],[(1,.box 183 ((iY .u32) u0v))]⟩ _
 refine ab.seq (ab.aa ?_)
 refine Oc (bM (k:=101) rfl rfl) (Oc oa ?_)
 refine ae.aj ⟨[(0,Pt 1 0),(2,I n0),(3,I j0),(4,.b (.one (.int .u64 d0))),(6,Pt 101 0)],[(1,.box 183 ((iY .u32) u0v)),(101,.box 33 (eW v0))]⟩ rfl (ab.seq (ab.aa ?_))
 refine Oc oa (Oc oa ?_)
 refine ae.aj ⟨[(0,_),(2,_),(3,_),(4,_),(6,_),(11,.b (.one (.int .u64 0))),(12,.b (.one (.int .u64 0)))],[(1,_),(101,_)]⟩ rfl ?_
 obtain ⟨v1,h2,h⟩:=aO h
 refine ab.cN (v:=v1) (kr fun (u_1:cg) (carry_2:Int) (borrow_3:Int)=>⟨[(0,Pt 1 0),(2,I n0),(3,I j0),(11,.b (.one (.int .u64 carry_2))),(12,.b (.one (.int .u64 borrow_3)))],[(1,.box 183 ((iY .u32) u_1))]⟩) (fun z=>z) ?_ ?_
 ·refine ab.seq (ab.aa ?_)
  refine Oc om (Oc om ?_)
  refine ae.aj ⟨[(0,_),(2,_),(3,_),(4,_),(6,_),(11,_),(12,_),(16,I n0),(17,I 0)],[(1,_),(101,_)]⟩ rfl (ab.block (ab.dM h2 (BT fun (u_4:cg) (carry_5:Int) (borrow_6:Int) (x_7:Int)=>⟨[(0,Pt 1 0),(2,I n0),(3,I j0),(4,.b (.one (.int .u64 d0))),(6,Pt 101 0),(11,.b (.one (.int .u64 carry_5))),(12,.b (.one (.int .u64 borrow_6))),(16,I n0),(17,I x_7)],[(1,.box 183 ((iY .u32) u_4)),(101,.box 33 (eW v0))]⟩) [0,2,3,4,6,11,12,16,17] [1,101] rfl ?_))
  rintro ⟨u_4,carry_5,borrow_6,x_7⟩ o3 h4 hy5
  refine ab.seq (ab.aa ?_)
  refine Oc (b7 rfl rfl) (ae.aj ⟨[(0,_),(2,_),(3,_),(4,_),(6,_),(11,_),(12,_),(16,_),(17,_),(18,B (decide (x_7 < n0)))],[(1,_),(101,_)]⟩ rfl (ab.seq (ab.ite h4 rfl (fun _ h4=>?_) (fun _ h4=>?_))))
  ·refine ab.skip (Fin.ah ⟨[(0,_),(2,_),(3,_),(4,_),(6,_),(11,_),(12,_),(16,_),(17,_)],[(1,_),(101,_)]⟩ rfl (Fin.then (ab.seq (ab.block (ab.seq (ab.aa ?_))))))
   refine Oc om (Oc oa ?_)
   refine ae.aj ⟨[(0,_),(2,_),(3,_),(4,_),(6,_),(11,_),(12,_),(13,I x_7),(16,_),(17,_)],[(1,_),(101,_)]⟩ rfl (ab.seq (ab.aa ?_))
   refine Oc om (Oc om (Oc om ?_))
   obtain ⟨x_11,e6,h4⟩:=aO h4
   refine Oc (aN bQ (bb e6) (cD e6) rfl rfl rfl) (Oc (aq bn rfl rfl (cI (post:=[]) (k:=.u32) [] e6 rfl rfl rfl)) (Oc (az bL bJ rfl) ?_))
   refine ae.dw .u64 h4 rfl (rT rfl rfl) (fun x_12 h4=>?_)
   refine Oc (aW rfl rfl) (Oc oa ?_)
   refine ae.aj ⟨[(0,_),(2,_),(3,_),(4,_),(6,_),(11,.b (.one (.int .u64 (IntKind.u64.wrap (carry_5 + x_12))))),(12,_),(13,_),(16,_),(17,_)],[(1,_),(101,_)]⟩ rfl (ab.seq (ab.aa ?_))
   refine Oc om (Oc om (Oc om (Oc (aW rfl rfl) (Oc (ar rfl) ?_))))
   obtain ⟨x_13,e7,h4⟩:=aO h4
   refine Oc (aN eU (bb e7) (cD e7) rfl rfl rfl) (Oc (aq bn rfl rfl (cI (post:=[]) (k:=.u32) [] e7 rfl rfl rfl)) ?_)
   refine ae.ah ⟨[(0,_),(2,_),(3,_),(4,_),(6,_),(11,_),(12,_),(13,_),(16,_),(17,_),(34,.b (.one (.int .u32 x_13)))],[(1,_),(101,_)]⟩ rfl (Oc (az bL bJ rfl) (Oc om ?_))
   refine ae.dw .u32 h4 rfl (az bJ bL rfl) (fun x_14 h4=>?_)
   refine Oc (az bL bJ rfl) (ae.dw .u64 h4 rfl (cR rfl rfl) (fun x_15 h4=>?_))
   refine Oc om (Oc (cR rfl rfl) (Oc oa ?_))
   refine ae.aj ⟨[(0,_),(2,_),(3,_),(4,_),(6,_),(11,_),(13,_),(14,.b (.one (.int .u64 (IntKind.u64.wrap (x_15 - borrow_6))))),(16,_),(17,_)],[(1,_),(101,_)]⟩ rfl (ab.seq (ab.aa ?_))
   refine Oc om (Oc om (Oc om (Oc (aW rfl rfl) (Oc om ?_))))
   refine ae.dw .u32 h4 rfl (az bJ bL rfl) (fun x_16 h4=>?_)
   refine Oc (ar rfl) ?_
   obtain ⟨x_17,e8,h4⟩:=aO h4
   refine Oc (aN eU (bb e8) (cD e8) rfl rfl rfl) (Oc (bA bn rfl rfl rfl (kA (post:=[]) (k:=.u32) [] e8 rfl rfl rfl) (iK (post:=[]) (k:=.u32) [] e8 rfl rfl (cg.jz u_4 (IntKind.i64.wrap (j0 + x_7)) x_16) rfl rfl)) ?_)
   refine ae.aj ⟨[(0,_),(2,_),(3,_),(4,_),(6,_),(11,_),(14,_),(16,_),(17,_)],[(1,.box 183 ((iY .u32) (u_4.set (IntKind.i64.wrap (j0 + x_7)) x_16))),(101,_)]⟩ rfl (ab.seq (ab.aa ?_))
   refine Oc om (ae.dw .u64 h4 rfl (fM (m:=63) (by decide) rfl rfl rfl) (fun x_18 h4=>?_))
   refine Oc oa (ae.aj ⟨[(0,_),(2,_),(3,_),(4,_),(6,_),(11,_),(12,.b (.one (.int .u64 x_18))),(16,_),(17,_)],[(1,_),(101,_)]⟩ rfl (ab.aa (Oc om (ae.dw .u64 h4 rfl (fM (m:=32) (by decide) rfl rfl rfl) (fun x_19 h4=>?_)))))
   refine Oc oa (ae.nil (Fin.aC (Fin.ah ⟨[(0,_),(2,_),(3,_),(4,_),(6,_),(11,.b (.one (.int .u64 x_19))),(12,_),(16,_),(17,_)],[(1,_),(101,_)]⟩ rfl (Fin.then (ab.aa ?_)))))
   refine Oc (aW rfl rfl) (Oc om ?_)
   refine ae.nil ?_
   exact Fin.cy [0,2,3,4,6,11,12,16,17] [1,101] (u_4.set (IntKind.i64.wrap (j0 + x_7)) x_16,x_19,x_18,IntKind.i64.wrap (x_7 + 1)) (Option.some.inj h4) rfl
  ·refine ab.exit (Fin.aB ?_)
   obtain rfl:=hy5 _ (Option.some.inj h4).symm
   refine Fin.aB (Fin.aU ?_)
   exact Fin.join [0,2,3,11,12] [1] (u_4,carry_5,borrow_6) rfl rfl
 ·rintro ⟨u_1,carry_2,borrow_3⟩ hv
  subst v1
  refine ab.seq (ab.aa ?_)
  refine Oc om (Oc om (Oc om (Oc (aW rfl rfl) (Oc (ar rfl) ?_))))
  obtain ⟨x_20,e9,h⟩:=aO h
  refine Oc (aN eU (bb e9) (cD e9) rfl rfl rfl) (Oc (aq bn rfl rfl (cI (post:=[]) (k:=.u32) [] e9 rfl rfl rfl)) ?_)
  refine ae.ah ⟨[(0,_),(2,_),(3,_),(11,_),(12,_),(61,.b (.one (.int .u32 x_20)))],[(1,_)]⟩ rfl (Oc (az bL bJ rfl) (Oc om ?_))
  refine ae.dw .u64 h rfl (cR rfl rfl) (fun x_21 h=>?_)
  refine Oc om (Oc (cR rfl rfl) (Oc oa ?_))
  refine ae.aj ⟨[(0,_),(2,_),(3,_),(15,.b (.one (.int .u64 (IntKind.u64.wrap (x_21 - borrow_3)))))],[(1,_)]⟩ rfl (ab.seq (ab.aa ?_))
  refine Oc om (Oc om (Oc om (Oc (aW rfl rfl) (Oc om ?_))))
  refine ae.dw .u32 h rfl (az bJ bL rfl) (fun x_22 h=>?_)
  refine Oc (ar rfl) ?_
  obtain ⟨x_23,e10,h⟩:=aO h
  refine Oc (aN eU (bb e10) (cD e10) rfl rfl rfl) (Oc (bA bn rfl rfl rfl (kA (post:=[]) (k:=.u32) [] e10 rfl rfl rfl) (iK (post:=[]) (k:=.u32) [] e10 rfl rfl (cg.jz u_1 (IntKind.i64.wrap (j0 + n0)) x_22) rfl rfl)) ?_)
  refine ae.aj ⟨[(15,_)],[(1,.box 183 ((iY .u32) (u_1.set (IntKind.i64.wrap (j0 + n0)) x_22)))]⟩ rfl (ab.seq (ab.aa ?_))
  refine Oc om (ae.dw .u64 h rfl (fM (m:=63) (by decide) rfl rfl rfl) (fun x_24 h=>?_))
  refine Oc (c9 rfl rfl) (Oc oa ?_)
  refine ae.aj ⟨[(10,B (decide (x_24 = 1)))],[(1,_)]⟩ rfl (ab.ret ?_)
  obtain rfl:=Option.some.inj h
  refine Fin.ah ⟨[(10,_)],[(1,_)]⟩ rfl ?_
  exact Fin.result [.one (.bool (decide (x_24 = 1)))] (.inl rfl) rfl (.cons (.tmp rfl) .nil) ⟨rfl,rfl⟩
def mB (F:Nat) (v0:aT) (n0:Int) (j0:Int) (u0v:cg):Option cg :=
 Option.bind (iter F (kr fun u_3 carry_4 x_5=>if (decide (x_5 < n0)) = true then ((aZ u_3.l (IntKind.i64.wrap (j0 + x_5))).bind fun x_8=>(aZ v0.l x_5).bind fun x_9=>cu (IntKind.u64.wrap (carry_4 + (IntKind.u64.wrap ((IntKind.u64.wrap x_8) + (IntKind.u64.wrap x_9))))) fun x_10=>(aZ u_3.l (IntKind.i64.wrap (j0 + x_5))).bind fun x_11=>cu (IntKind.u64.wrap (carry_4 + (IntKind.u64.wrap ((IntKind.u64.wrap x_8) + (IntKind.u64.wrap x_9))))) fun x_12=>some (.inl (u_3.set (IntKind.i64.wrap (j0 + x_5)) (IntKind.u32.wrap x_10),x_12 / 4294967296,IntKind.i64.wrap (x_5 + 1)))) else (some (.inr (u_3,carry_4)))) (u0v,0,0)) (cF fun u_1 carry_2=>(aZ u_1.l (IntKind.i64.wrap (j0 + n0))).bind fun x_13=>(aZ u_1.l (IntKind.i64.wrap (j0 + n0))).bind fun x_14=>some (u_1.set (IntKind.i64.wrap (j0 + n0)) (IntKind.u32.wrap (x_13 + (IntKind.u32.wrap carry_2)))))
theorem xS {F:Nat} {v0:aT} {n0:Int} {j0:Int} {u0v:cg} {r:cg} (h:mB F v0 n0 j0 u0v = some r):ax Tryz.prog (bh mx) 144 [(1,.box 183 ((iY .u32) u0v))] [.ptr 1 0,.agg (eW v0),.one (.i n0),.one (.i j0)] (Is [(1,.box 183 ((iY .u32) r))] (.fG [])):=by
 unfold mB at h
 refine ax.intro 52 Tryz.func144 Tryz.ntmps144 rfl (by simp) fun E=>?_
 show ab _ E ⟨52,[1],[1],[]⟩ _ ⟨[(0,Pt 1 0),(1,.b (.agg (eW v0))),(2,I n0),(3,I j0)],[(1,.box 183 ((iY .u32) u0v))]⟩ _
 refine ab.seq (ab.aa ?_)
 refine Oc (bM (k:=101) rfl rfl) (ae.aj ⟨[(0,Pt 1 0),(2,I n0),(3,I j0),(5,Pt 101 0)],[(1,.box 183 ((iY .u32) u0v)),(101,.box 33 (eW v0))]⟩ rfl (ab.seq (ab.aa ?_)))
 refine Oc oa (ae.aj ⟨[(0,_),(2,_),(3,_),(5,_),(8,.b (.one (.int .u64 0)))],[(1,_),(101,_)]⟩ rfl ?_)
 obtain ⟨v1,h2,h⟩:=aO h
 refine ab.cN (v:=v1) (cF fun (u_1:cg) (carry_2:Int)=>⟨[(0,Pt 1 0),(2,I n0),(3,I j0),(8,.b (.one (.int .u64 carry_2)))],[(1,.box 183 ((iY .u32) u_1))]⟩) (fun z=>z) ?_ ?_
 ·refine ab.seq (ab.aa ?_)
  refine Oc om (Oc om ?_)
  refine ae.aj ⟨[(0,_),(2,_),(3,_),(5,_),(8,_),(10,I n0),(11,I 0)],[(1,_),(101,_)]⟩ rfl (ab.block (ab.dM h2 (kr fun (u_3:cg) (carry_4:Int) (x_5:Int)=>⟨[(0,Pt 1 0),(2,I n0),(3,I j0),(5,Pt 101 0),(8,.b (.one (.int .u64 carry_4))),(10,I n0),(11,I x_5)],[(1,.box 183 ((iY .u32) u_3)),(101,.box 33 (eW v0))]⟩) [0,2,3,5,8,10,11] [1,101] rfl ?_))
  rintro ⟨u_3,carry_4,x_5⟩ o3 h4 hy5
  refine ab.seq (ab.aa ?_)
  refine Oc (b7 rfl rfl) (ae.aj ⟨[(0,_),(2,_),(3,_),(5,_),(8,_),(10,_),(11,_),(12,B (decide (x_5 < n0)))],[(1,_),(101,_)]⟩ rfl (ab.seq (ab.ite h4 rfl (fun _ h4=>?_) (fun _ h4=>?_))))
  ·refine ab.skip (Fin.ah ⟨[(0,_),(2,_),(3,_),(5,_),(8,_),(10,_),(11,_)],[(1,_),(101,_)]⟩ rfl (Fin.then (ab.seq (ab.block (ab.seq (ab.aa ?_))))))
   refine Oc om (Oc oa ?_)
   refine ae.aj ⟨[(0,_),(2,_),(3,_),(5,_),(8,_),(9,I x_5),(10,_),(11,_)],[(1,_),(101,_)]⟩ rfl (ab.seq ?_)
   obtain ⟨x_8,e6,h4⟩:=aO h4
   obtain ⟨x_9,e7,h4⟩:=aO h4
   refine ab.bR mixed 15 [.b (.one (.int .u64 carry_4)),Pt 1 0,I j0,I x_5,I (IntKind.i64.wrap (j0 + x_5)),Pt 1 0,.b (.ptr 1 (0 + (IntKind.i64.wrap (j0 + x_5):Int).toNat * 1)),.b (.one (.int .u32 x_8)),.b (.one (.int .u64 (IntKind.u64.wrap x_8))),I x_5,.b (.ptr 101 (0 + (x_5:Int).toNat * 1)),.b (.one (.int .u32 x_9)),.b (.one (.int .u64 (IntKind.u64.wrap x_9))),.b (.one (.int .u64 (IntKind.u64.wrap ((IntKind.u64.wrap x_8) + (IntKind.u64.wrap x_9))))),.b (.one (.int .u64 (IntKind.u64.wrap (carry_4 + (IntKind.u64.wrap ((IntKind.u64.wrap x_8) + (IntKind.u64.wrap x_9)))))))] [0,2,3,5,8,9,10,11] [1,101] (s':=⟨[(0,_),(2,_),(3,_),(5,_),(8,.b (.one (.int .u64 (IntKind.u64.wrap (carry_4 + (IntKind.u64.wrap ((IntKind.u64.wrap x_8) + (IntKind.u64.wrap x_9)))))))),(9,_),(10,_),(11,_)],[(1,_),(101,_)]⟩) rfl ⟨fun _=>.p om,fun _=>.p om,fun _=>.p om,fun _=>.p om,fun _=>.p (aW rfl rfl),fun _=>.p (ar rfl),fun _=>.p (aN eU (bb e6) (cD e6) rfl rfl rfl),fun _=>.p (aq bn rfl rfl (cI (post:=[]) (k:=.u32) [] e6 rfl rfl rfl)),fun _=>.p (az bL bJ rfl),fun _=>.p om,fun _=>.p (aN bQ (bb e7) (cD e7) rfl rfl rfl),fun _=>.p (aq bn rfl rfl (cI (post:=[]) (k:=.u32) [] e7 rfl rfl rfl)),fun _=>.p (az bL bJ rfl),fun _=>.p (aW rfl rfl),fun _=>.p (aW rfl rfl),trivial⟩ ⟨_,by exact .p oa,rfl⟩ rfl (ab.seq (ab.aa ?_))
   refine Oc om (Oc om (Oc om (Oc (aW rfl rfl) ?_)))
   refine ae.dw .u64 h4 rfl om (fun x_10 h4=>?_)
   refine Oc (az bJ bL rfl) (Oc (ar rfl) ?_)
   obtain ⟨x_11,e8,h4⟩:=aO h4
   refine Oc (aN eU (bb e8) (cD e8) rfl rfl rfl) (Oc (bA bn rfl rfl rfl (kA (post:=[]) (k:=.u32) [] e8 rfl rfl rfl) (iK (post:=[]) (k:=.u32) [] e8 rfl rfl (cg.jz u_3 (IntKind.i64.wrap (j0 + x_5)) (IntKind.u32.wrap x_10)) rfl rfl)) ?_)
   refine ae.aj ⟨[(0,_),(2,_),(3,_),(5,_),(8,_),(10,_),(11,_)],[(1,.box 183 ((iY .u32) (u_3.set (IntKind.i64.wrap (j0 + x_5)) (IntKind.u32.wrap x_10)))),(101,_)]⟩ rfl (ab.aa (ae.dw .u64 h4 rfl om (fun x_12 h4=>?_)))
   refine Oc (fM (m:=32) (by decide) rfl rfl rfl) (Oc oa ?_)
   refine ae.nil (Fin.aC (Fin.ah ⟨[(0,_),(2,_),(3,_),(5,_),(8,.b (.one (.int .u64 (x_12 / 4294967296)))),(10,_),(11,_)],[(1,_),(101,_)]⟩ rfl (Fin.then (ab.aa ?_))))
   refine Oc (aW rfl rfl) (Oc om ?_)
   refine ae.nil ?_
   exact Fin.cy [0,2,3,5,8,10,11] [1,101] (u_3.set (IntKind.i64.wrap (j0 + x_5)) (IntKind.u32.wrap x_10),x_12 / 4294967296,IntKind.i64.wrap (x_5 + 1)) (Option.some.inj h4) rfl
  ·refine ab.exit (Fin.aB ?_)
   obtain rfl:=hy5 _ (Option.some.inj h4).symm
   refine Fin.aB (Fin.aU ?_)
   exact Fin.join [0,2,3,8] [1] (u_3,carry_4) rfl rfl
 ·rintro ⟨u_1,carry_2⟩ hv
  subst v1
  refine ab.ah ⟨[(0,_),(2,_),(3,_),(8,_)],[(1,_)]⟩ rfl ?_
  obtain ⟨x_13,e9,h⟩:=aO h
  obtain ⟨x_14,e10,h⟩:=aO h
  refine ab.k7 mixed 12 [Pt 1 0,I j0,I n0,I (IntKind.i64.wrap (j0 + n0)),Pt 1 0,.b (.ptr 1 (0 + (IntKind.i64.wrap (j0 + n0):Int).toNat * 1)),.b (.one (.int .u32 x_13)),.b (.one (.int .u64 carry_2)),.b (.one (.int .u32 (IntKind.u32.wrap carry_2))),.b (.one (.int .u32 (IntKind.u32.wrap (x_13 + (IntKind.u32.wrap carry_2))))),Pt 1 0,.b (.ptr 1 (0 + (IntKind.i64.wrap (j0 + n0):Int).toNat * 1))] [] [1] (s':=⟨[],[(1,.box 183 ((iY .u32) (u_1.set (IntKind.i64.wrap (j0 + n0)) (IntKind.u32.wrap (x_13 + (IntKind.u32.wrap carry_2))))))]⟩) rfl ⟨fun _=>.p om,fun _=>.p om,fun _=>.p om,fun _=>.p (aW rfl rfl),fun _=>.p (ar rfl),fun _=>.p (aN eU (bb e9) (cD e9) rfl rfl rfl),fun _=>.p (aq bn rfl rfl (cI (post:=[]) (k:=.u32) [] e9 rfl rfl rfl)),fun _=>.p om,fun _=>.p (az bJ bL rfl),fun _=>.p (aW rfl rfl),fun _=>.p (ar rfl),fun _=>.p (aN eU (bb e10) (cD e10) rfl rfl rfl),trivial⟩ ⟨_,by exact .p (bA bn rfl rfl rfl (kA (post:=[]) (k:=.u32) [] e10 rfl rfl rfl) (iK (post:=[]) (k:=.u32) [] e10 rfl rfl (cg.jz u_1 (IntKind.i64.wrap (j0 + n0)) (IntKind.u32.wrap (x_13 + (IntKind.u32.wrap carry_2)))) rfl rfl)),rfl⟩ rfl ?_
  obtain rfl:=Option.some.inj h
  refine Fin.ah ⟨[],[(1,_)]⟩ rfl ?_
  exact Fin.result [] (.inr rfl) rfl (.nil) ⟨rfl,rfl⟩
def mC (F:Nat) (w0:aT) (n0:Int):Option aT :=
 Option.bind (iter F (cF fun out_2 x_3=>if (decide (x_3 < 16)) = true then (Option.bind (Option.bind (if (decide ((IntKind.i64.wrap (x_3 + 1)) < 16)) = true then ((aZ w0.l (IntKind.i64.wrap (x_3 + 1))).bind fun x_7=>some (IntKind.u64.wrap x_7)) else (some 0)) (fun next_6=>cu (IntKind.u64.wrap (next_6 * 4294967296)) fun x_8=>(aZ w0.l x_3).bind fun x_9=>Option.bind (AQ .u64 (jT .u64 x_8 (IntKind.u64.wrap x_9)) n0) (fun x_10=>(aZ out_2.l x_3).bind fun x_11=>some (out_2.set x_3 (IntKind.u32.wrap x_10))))) (fun out_5=>some (.inl (out_5,IntKind.i64.wrap (x_3 + 1))))) else (some (.inr out_2))) (aT.zero,0)) (fun out_1=>some out_1)
theorem xT {F:Nat} {w0:aT} {n0:Int} {r:aT} (h:mC F w0 n0 = some r):ax Tryz.prog (bh mx) 145 [] [.agg (eW w0),.one (.i n0)] (Is [] (.b (.agg (eW r)))):=by
 unfold mC at h
 refine ax.intro 33 Tryz.func145 Tryz.ntmps145 rfl (by simp) fun E=>?_
 show ab _ E ⟨33,[],[],[]⟩ _ ⟨[(0,.b (.agg (eW w0))),(1,I n0)],[]⟩ _
 refine ab.seq (ab.aa ?_)
 refine Oc (bM (k:=101) rfl rfl) (Oc (aA (k:=102) cP rfl) ?_)
 refine ae.aj ⟨[(1,I n0),(2,Pt 101 0),(4,Pt 102 0)],[(101,.box 33 (eW w0)),(102,.box 33 (eW aT.zero))]⟩ rfl (ab.seq (ab.aa ?_))
 refine Oc (aA (k:=103) cP rfl) (ae.aj ⟨[(1,_),(2,_),(4,_),(5,Pt 103 0)],[(101,_),(102,_),(103,.box 33 (eW aT.zero))]⟩ rfl ?_)
 obtain ⟨v1,h2,h⟩:=aO h
 refine ab.cN (v:=v1) (fun (out_1:aT)=>⟨[(4,Pt 102 0),(5,Pt 103 0)],[(102,.box 33 (eW aT.zero)),(103,.box 33 (eW out_1))]⟩) (fun z=>z) ?_ ?_
 ·refine ab.seq (ab.aa ?_)
  refine Oc om (ae.aj ⟨[(1,_),(2,_),(4,_),(5,_),(8,I 0)],[(101,_),(102,_),(103,_)]⟩ rfl (ab.block (ab.dM h2 (cF fun (out_2:aT) (x_3:Int)=>⟨[(1,I n0),(2,Pt 101 0),(4,Pt 102 0),(5,Pt 103 0),(8,I x_3)],[(101,.box 33 (eW w0)),(102,.box 33 (eW aT.zero)),(103,.box 33 (eW out_2))]⟩) [1,2,4,5,8] [101,102,103] rfl ?_)))
  rintro ⟨out_2,x_3⟩ o3 h4 hy5
  refine ab.seq (ab.aa ?_)
  refine Oc (b7 rfl rfl) (ae.aj ⟨[(1,_),(2,_),(4,_),(5,_),(8,_),(9,B (decide (x_3 < 16)))],[(101,_),(102,_),(103,_)]⟩ rfl (ab.seq (ab.ite h4 rfl (fun _ h4=>?_) (fun _ h4=>?_))))
  ·refine ab.skip (Fin.ah ⟨[(1,_),(2,_),(4,_),(5,_),(8,_)],[(101,_),(102,_),(103,_)]⟩ rfl (Fin.then ?_))
   obtain ⟨v6,h7,h4⟩:=aO h4
   refine ab.cN (v:=v6) (fun (out_5:aT)=>⟨[(1,I n0),(2,Pt 101 0),(4,Pt 102 0),(5,Pt 103 0),(8,I x_3)],[(101,.box 33 (eW w0)),(102,.box 33 (eW aT.zero)),(103,.box 33 (eW out_5))]⟩) (fun z=>z) ?_ ?_
   ·refine ab.block (ab.seq (ab.aa ?_))
    refine Oc om (Oc oa ?_)
    refine ae.aj ⟨[(1,_),(2,_),(4,_),(5,_),(6,I x_3),(8,_)],[(101,_),(102,_),(103,_)]⟩ rfl (ab.seq (ab.aa ?_))
    refine Oc oa (ae.aj ⟨[(1,_),(2,_),(4,_),(5,_),(6,_),(7,.b (.one (.int .u64 0))),(8,_)],[(101,_),(102,_),(103,_)]⟩ rfl ?_)
    obtain ⟨v8,h9,h7⟩:=aO h7
    refine ab.cN (v:=v8) (fun (next_6:Int)=>⟨[(1,I n0),(2,Pt 101 0),(4,Pt 102 0),(5,Pt 103 0),(6,I x_3),(7,.b (.one (.int .u64 next_6))),(8,I x_3)],[(101,.box 33 (eW w0)),(102,.box 33 (eW aT.zero)),(103,.box 33 (eW out_2))]⟩) (fun z=>z) ?_ ?_
    ·refine ab.seq (ab.aa ?_)
     refine Oc om (Oc (aW rfl rfl) (Oc (b7 rfl rfl) ?_))
     refine ae.aj ⟨[(1,_),(2,_),(4,_),(5,_),(6,_),(7,_),(8,_),(13,B (decide ((IntKind.i64.wrap (x_3 + 1)) < 16)))],[(101,_),(102,_),(103,_)]⟩ rfl (ab.ite h9 rfl (fun _ h9=>?_) (fun _ h9=>?_))
     ·refine ab.aa (Oc om (Oc (aW rfl rfl) ?_))
      obtain ⟨x_7,e10,h9⟩:=aO h9
      refine Oc (aN bQ (bb e10) (cD e10) rfl rfl rfl) (Oc (aq bn rfl rfl (cI (post:=[]) (k:=.u32) [] e10 rfl rfl rfl)) (Oc (az bL bJ rfl) (Oc oa ?_)))
      refine ae.nil ?_
      exact Fin.join [1,2,4,5,6,7,8] [101,102,103] (IntKind.u64.wrap x_7) (Option.some.inj h9) rfl
     ·refine ab.skip ?_
      exact Fin.join [1,2,4,5,6,7,8] [101,102,103] 0 (Option.some.inj h9) rfl
    ·rintro next_6 hv
     subst v8
     refine ab.aa (Oc om (Oc om ?_))
     refine ae.dw .u64 h7 rfl (nv (m:=32) (q:=4294967296) (by decide) rfl rfl (by decide)) (fun x_8 h7=>?_)
     refine Oc om ?_
     obtain ⟨x_9,e11,h7⟩:=aO h7
     refine Oc (aN bQ (bb e11) (cD e11) rfl rfl rfl) (Oc (aq bn rfl rfl (cI (post:=[]) (k:=.u32) [] e11 rfl rfl rfl)) (Oc (az bL bJ rfl) ?_))
     refine ae.ah ⟨[(1,_),(2,_),(4,_),(5,_),(8,_),(19,I x_3),(21,.b (.one (.int .u64 x_8))),(25,.b (.one (.int .u64 (IntKind.u64.wrap x_9))))],[(101,_),(102,_),(103,_)]⟩ rfl (Oc (pR rfl rfl) (Oc om ?_))
     obtain ⟨x_10,e12,h7⟩:=aO h7
     refine Oc (op_shr3 e12 rfl rfl) (Oc (az bJ bL rfl) ?_)
     obtain ⟨x_11,e13,h7⟩:=aO h7
     refine Oc (aN bQ (bb e13) (cD e13) rfl rfl rfl) (Oc (bA bn rfl rfl rfl (kA (post:=[]) (k:=.u32) [] e13 rfl rfl rfl) (iK (post:=[]) (k:=.u32) [] e13 rfl rfl (aT.jz out_2 x_3 (IntKind.u32.wrap x_10)) rfl rfl)) ?_)
     refine ae.nil (Fin.aC ?_)
     exact Fin.join [1,2,4,5,8] [101,102,103] (out_2.set x_3 (IntKind.u32.wrap x_10)) (Option.some.inj h7) rfl
   ·rintro out_5 hv
    subst v6
    refine ab.aa (Oc (aW rfl rfl) (Oc om ?_))
    refine ae.nil ?_
    exact Fin.cy [1,2,4,5,8] [101,102,103] (out_5,IntKind.i64.wrap (x_3 + 1)) (Option.some.inj h4) rfl
  ·refine ab.exit (Fin.aB ?_)
   obtain rfl:=hy5 _ (Option.some.inj h4).symm
   refine Fin.aB (Fin.aU ?_)
   exact Fin.join [4,5] [102,103] out_2 rfl rfl
 ·rintro out_1 hv
  subst v1
  refine ab.seq (ab.aa ?_)
  refine Oc (lp aD) (Oc (ao aD rfl rfl rfl rfl (Nat.le_of_ble_eq_true rfl) rfl) ?_)
  refine ae.aj ⟨[(4,_)],[(102,.box 33 (eW out_1))]⟩ rfl (ab.ret ?_)
  obtain rfl:=Option.some.inj h
  refine Fin.ah ⟨[(4,_)],[(102,_)]⟩ rfl (Fin.ay [.agg (eW out_1)] (.inl rfl) rfl (.cons (.agg aD rfl rfl rfl rfl) .nil) ⟨rfl,rfl⟩)
def hX (F:Nat) (a0:aT) (b0:aT):Option (aT × aT) :=
 (gy F b0).bind fun x_1=>(gy F a0).bind fun x_2=>(kR F a0 b0).bind fun x_3=>if (decide (x_3 < 0)) = true then (some (aT.zero,a0)) else (if (decide (x_1 = 1)) = true then (Option.bind (mM F a0 b0.a0) (cF fun x_4 x_5=>cu (⟨x_5,0,0,0,0,0,0,0,0,0,0,0,0,0,0,0⟩:aT) fun x_6=>some (x_4,x_6))) else ((aZ b0.l (IntKind.i64.wrap (x_1 - 1))).bind fun x_7=>(dz F x_7).bind fun x_8=>Option.bind (rO F b0 x_8) (cF fun x_9 x_10=>Option.bind (rO F a0 x_8) (cF fun x_11 x_12=>Option.bind (iter F (kr fun q_15 u_16 j_17=>if (decide (0 ≤ j_17)) = true then (Option.bind ((kS F x_9 x_1 j_17 u_16).bind fun x_22=>Option.bind (Option.bind (mA F x_9 x_1 j_17 x_22 u_16) (cF fun x_25 x_26=>if x_25 = true then ((mB F x_9 x_1 j_17 x_26).bind fun x_27=>some (x_27,IntKind.u64.wrap (x_22 - 1))) else (some (x_26,x_22)))) (cF fun u_23 d_24=>(aZ q_15.l j_17).bind fun x_28=>some (q_15.set j_17 (IntKind.u32.wrap d_24),u_23))) (cF fun q_20 u_21=>some (.inl (q_20,u_21,IntKind.i64.wrap (j_17 - 1))))) else (some (.inr (q_15,u_16)))) (aT.zero,(⟨(cg.of (aS cg.zero.l 0 ((x_11.l.drop 0).take 16))).a0,(cg.of (aS cg.zero.l 0 ((x_11.l.drop 0).take 16))).a1,(cg.of (aS cg.zero.l 0 ((x_11.l.drop 0).take 16))).a2,(cg.of (aS cg.zero.l 0 ((x_11.l.drop 0).take 16))).a3,(cg.of (aS cg.zero.l 0 ((x_11.l.drop 0).take 16))).a4,(cg.of (aS cg.zero.l 0 ((x_11.l.drop 0).take 16))).a5,(cg.of (aS cg.zero.l 0 ((x_11.l.drop 0).take 16))).a6,(cg.of (aS cg.zero.l 0 ((x_11.l.drop 0).take 16))).a7,(cg.of (aS cg.zero.l 0 ((x_11.l.drop 0).take 16))).a8,(cg.of (aS cg.zero.l 0 ((x_11.l.drop 0).take 16))).a9,(cg.of (aS cg.zero.l 0 ((x_11.l.drop 0).take 16))).a10,(cg.of (aS cg.zero.l 0 ((x_11.l.drop 0).take 16))).a11,(cg.of (aS cg.zero.l 0 ((x_11.l.drop 0).take 16))).a12,(cg.of (aS cg.zero.l 0 ((x_11.l.drop 0).take 16))).a13,(cg.of (aS cg.zero.l 0 ((x_11.l.drop 0).take 16))).a14,(cg.of (aS cg.zero.l 0 ((x_11.l.drop 0).take 16))).a15,x_12⟩:cg),IntKind.i64.wrap (x_2 - x_1))) (cF fun q_13 u_14=>(mC F (⟨u_14.a0,u_14.a1,u_14.a2,u_14.a3,u_14.a4,u_14.a5,u_14.a6,u_14.a7,u_14.a8,u_14.a9,u_14.a10,u_14.a11,u_14.a12,u_14.a13,u_14.a14,u_14.a15⟩:aT) x_8).bind fun x_29=>some (q_13,x_29))))))
theorem n6 {F:Nat} {a0:aT} {b0:aT} {r:aT × aT} (h:hX F a0 b0 = some r):ax Tryz.prog (bh mx) 105 [] [.agg (eW a0),.agg (eW b0)] (Is [] (.fG [.agg (eW r.1),.agg (eW r.2)])):=by
 unfold hX at h
 refine ax.intro 94 Tryz.func105 Tryz.ntmps105 rfl (by simp) fun E=>?_
 show ab _ E ⟨94,[],[],[]⟩ _ ⟨[(0,.b (.agg (eW a0))),(1,.b (.agg (eW b0)))],[]⟩ _
 refine ab.seq (ab.aa ?_)
 refine Oc (bM (k:=101) rfl rfl) (Oc (bM (k:=102) rfl rfl) (Oc (aA (k:=103) cP rfl) (Oc (aA (k:=104) cP rfl) ?_)))
 refine ae.aj ⟨[(2,Pt 101 0),(3,Pt 102 0),(4,Pt 103 0),(5,Pt 104 0)],[(101,.box 33 (eW a0)),(102,.box 33 (eW b0)),(103,.box 33 (eW aT.zero)),(104,.box 33 (eW aT.zero))]⟩ rfl (ab.seq ?_)
 obtain ⟨x_1,e1,h⟩:=aO h
 obtain ⟨x_2,e2,h⟩:=aO h
 refine ab.bR mixed 6 [.b (.agg (eW b0)),I x_1,.b (.agg (eW a0)),I x_2,I x_1,I x_2] [2,3,4,5,6,7] [101,102,103,104] (s':=⟨[(2,_),(3,_),(4,_),(5,_),(6,I x_1),(7,I x_2)],[(101,_),(102,_),(103,_),(104,_)]⟩) rfl ⟨fun _=>.p (lp aD),fun _=>.p (ag (gH e1) nB rfl rfl),fun _=>.p (lp aD),fun _=>.p (ag (gH e2) nB rfl rfl),fun _=>.p oa,fun _=>.p oa,trivial⟩ rfl rfl (ab.seq (ab.seq (ab.aa ?_)))
 refine Oc (lp aD) (Oc (lp aD) ?_)
 obtain ⟨x_3,e3,h⟩:=aO h
 refine Oc (ag (re e3) Ay rfl rfl) (Oc (b7 rfl rfl) ?_)
 refine ae.aj ⟨[(2,_),(3,_),(4,_),(5,_),(6,_),(7,_),(25,B (decide (x_3 < 0)))],[(101,_),(102,_),(103,_),(104,_)]⟩ rfl (ab.ite h rfl (fun _ h=>?_) (fun _ h=>?_))
 ·refine ab.seq (ab.ah ⟨[(2,_),(4,_),(5,_)],[(101,_),(103,_),(104,_)]⟩ rfl (ab.ji mixed [false,false,true,true] [.b (.agg (eW aT.zero)),.b (.agg (eW a0)),B true,B true] [⟨[false,false,false,false],[(2,Pt 101 0),(4,Pt 103 0),(5,Pt 104 0)],[(101,.box 33 (eW a0)),(103,.box 33 (eW aT.zero)),(104,.box 33 (eW aT.zero))],[true,true,true,true],[],[3]⟩,⟨[false,false,true,false],[(2,Pt 101 0),(4,Pt 103 0),(5,Pt 104 0)],[(101,.box 33 (eW a0)),(103,.box 33 (eW aT.zero)),(104,.box 33 (eW aT.zero))],[true,true,true,true],[0,2],[]⟩,⟨[false,false,true,true],[(2,Pt 101 0),(4,Pt 103 0),(5,Pt 104 0)],[(101,.box 33 (eW a0)),(103,.box 33 (eW aT.zero)),(104,.box 33 (eW a0))],[true,true,true,true],[0,1,2,3],[]⟩] rfl (⟨by kernel_rfl,⟨⟨.b (.agg (eW aT.zero)),fun _=>rfl,fun _=>.p (by exact gg gf rfl rfl)⟩,⟨.b (.agg (eW a0)),fun _=>rfl,fun _=>.p (by exact aK aD rfl rfl rfl rfl)⟩,⟨_,[],.b (.one .any),rfl,(fun e=>by simp at e),rfl,rfl,fun _=>.l5 [101,103,104] (by exact .p (by exact ao aD rfl rfl rfl rfl (Nat.le_of_ble_eq_true rfl) rfl)) (by exact rfl)⟩,trivial,trivial⟩,⟨by kernel_rfl,⟨trivial,⟨.b (.agg (eW a0)),fun _=>rfl,fun _=>.p (by exact aK aD rfl rfl rfl rfl)⟩,trivial,⟨_,[],.b (.one .any),rfl,(fun e=>by simp at e),rfl,rfl,fun _=>.l5 [101,103,104] (by exact .p (by exact ao aD rfl rfl rfl rfl (Nat.le_of_ble_eq_true rfl) rfl)) (by exact rfl)⟩,trivial⟩,⟨by kernel_rfl,⟨trivial,trivial,trivial,trivial,trivial⟩,trivial⟩⟩⟩) rfl rfl rfl [4,5] [103,104] (s':=⟨[(4,_),(5,_)],[(103,_),(104,.box 33 (eW a0))]⟩) rfl (ab.ret (Fin.aI ?_))))
  obtain rfl:=Option.some.inj h
  refine Fin.ah ⟨[(4,_),(5,_)],[(103,_),(104,_)]⟩ rfl (Fin.ay [.agg (eW aT.zero),.agg (eW a0)] (.inl rfl) rfl (.cons (.agg aD rfl rfl rfl rfl) (.cons (.agg aD rfl rfl rfl rfl) .nil)) ⟨rfl,rfl⟩)
 ·refine ab.skip (Fin.ah ⟨[(2,_),(3,_),(4,_),(5,_),(6,_),(7,_)],[(101,_),(102,_),(103,_),(104,_)]⟩ rfl (Fin.then (ab.seq (ab.seq (ab.aa ?_)))))
  refine Oc om (Oc (c9 rfl rfl) ?_)
  refine ae.aj ⟨[(2,_),(3,_),(4,_),(5,_),(6,_),(7,_),(29,B (decide (x_1 = 1)))],[(101,_),(102,_),(103,_),(104,_)]⟩ rfl (ab.ite h rfl (fun _ h=>?_) (fun _ h=>?_))
  ·refine ab.seq (ab.aa ?_)
   refine Oc (lp aD) (Oc (aN bQ (by decide) (by decide) rfl rfl rfl) (Oc (aq bn rfl rfl rfl) ?_))
   obtain ⟨⟨x_4,x_5⟩,e4,h⟩:=aO h
   refine Oc (ag (wP e4) goes139 rfl rfl) (Oc om ?_)
   refine ae.ah ⟨[(4,_),(5,_),(30,.fG [.agg (eW x_4),.one (.int .u32 x_5)])],[(103,_),(104,_)]⟩ rfl (Oc (aF rfl rfl) (Oc (aF rfl rfl) (Oc (aA (k:=105) cP rfl) (Oc (ao aD rfl rfl rfl rfl (Nat.le_of_ble_eq_true rfl) rfl) (Oc oa ?_)))))
   refine ae.aj ⟨[(4,_),(5,_),(8,Pt 105 0),(9,.b (.one (.int .u32 x_5)))],[(103,_),(104,_),(105,.box 33 (eW x_4))]⟩ rfl (ab.seq (ab.aa ?_))
   refine Oc (lp aD) (Oc om ?_)
   refine ae.vm eW h rfl (gg gf rfl rfl) (fun x_6 h=>?_)
   refine Oc (ao aD rfl rfl rfl rfl (Nat.le_of_ble_eq_true rfl) rfl) (Oc (ao aD rfl rfl rfl rfl (Nat.le_of_ble_eq_true rfl) rfl) ?_)
   refine ae.aj ⟨[(4,_),(5,_)],[(103,.box 33 (eW x_4)),(104,.box 33 (eW x_6))]⟩ rfl (ab.ret (Fin.aI ?_))
   obtain rfl:=Option.some.inj h
   refine Fin.ah ⟨[(4,_),(5,_)],[(103,_),(104,_)]⟩ rfl (Fin.ay [.agg (eW x_4),.agg (eW x_6)] (.inl rfl) rfl (.cons (.agg aD rfl rfl rfl rfl) (.cons (.agg aD rfl rfl rfl rfl) .nil)) ⟨rfl,rfl⟩)
  ·refine ab.skip (Fin.ah ⟨[(2,_),(3,_),(4,_),(5,_),(6,_),(7,_)],[(101,_),(102,_),(103,_),(104,_)]⟩ rfl (Fin.then (ab.seq (ab.aa ?_))))
   refine Oc om (Oc (cR rfl rfl) ?_)
   obtain ⟨x_7,e5,h⟩:=aO h
   refine Oc (aN bQ (bb e5) (cD e5) rfl rfl rfl) (Oc (aq bn rfl rfl (cI (post:=[]) (k:=.u32) [] e5 rfl rfl rfl)) ?_)
   obtain ⟨x_8,e6,h⟩:=aO h
   refine Oc (ag (mj e6) goes140 rfl rfl) (Oc oa ?_)
   refine ae.aj ⟨[(2,_),(3,_),(4,_),(5,_),(6,_),(7,_),(10,I x_8)],[(101,_),(102,_),(103,_),(104,_)]⟩ rfl (ab.seq (ab.aa ?_))
   refine Oc (lp aD) (Oc om ?_)
   obtain ⟨⟨x_9,x_10⟩,e7,h⟩:=aO h
   refine Oc (ag (vq e7) Av rfl rfl) (Oc om (Oc (aF rfl rfl) ?_))
   refine ae.ah ⟨[(2,_),(4,_),(5,_),(6,_),(7,_),(10,_),(45,.fG [.agg (eW x_9),.one (.int .u32 x_10)]),(49,.b (.agg (eW x_9)))],[(101,_),(103,_),(104,_)]⟩ rfl (Oc (aF rfl rfl) (Oc (aA (k:=106) cP rfl) (Oc (ao aD rfl rfl rfl rfl (Nat.le_of_ble_eq_true rfl) rfl) (Oc oa ?_))))
   refine ae.aj ⟨[(2,_),(4,_),(5,_),(6,_),(7,_),(10,_),(11,Pt 106 0)],[(101,_),(103,_),(104,_),(106,.box 33 (eW x_9))]⟩ rfl (ab.seq (ab.aa ?_))
   refine Oc (lp aD) (Oc om ?_)
   obtain ⟨⟨x_11,x_12⟩,e8,h⟩:=aO h
   refine Oc (ag (vq e8) Av rfl rfl) (Oc om (Oc (aF rfl rfl) ?_))
   refine ae.ah ⟨[(4,_),(5,_),(6,_),(7,_),(10,_),(11,_),(51,.fG [.agg (eW x_11),.one (.int .u32 x_12)]),(55,.b (.agg (eW x_11)))],[(103,_),(104,_),(106,_)]⟩ rfl (Oc (aF rfl rfl) (Oc (aA (k:=107) cP rfl) (Oc (ao aD rfl rfl rfl rfl (Nat.le_of_ble_eq_true rfl) rfl) (Oc oa ?_))))
   refine ae.aj ⟨[(4,_),(5,_),(6,_),(7,_),(10,_),(11,_),(13,Pt 107 0),(14,.b (.one (.int .u32 x_12)))],[(103,_),(104,_),(106,_),(107,.box 33 (eW x_11))]⟩ rfl (ab.seq (ab.aa ?_))
   refine Oc (aA (k:=108) AX rfl) (ae.aj ⟨[(4,_),(5,_),(6,_),(7,_),(10,_),(11,_),(13,_),(14,_),(15,Pt 108 0)],[(103,_),(104,_),(106,_),(107,_),(108,.box 183 ((iY .u32) cg.zero))]⟩ rfl (ab.seq (ab.bR mixed 2 [.b (.sG 108 0 17 17),.b (.sG 107 0 16 16)] [4,5,6,7,10,11,14,15] [103,104,106,108] (s':=⟨[(4,_),(5,_),(6,_),(7,_),(10,_),(11,_),(14,_),(15,_)],[(103,_),(104,_),(106,_),(108,.box 183 ((iY .u32) (cg.of (aS cg.zero.l 0 ((x_11.l.drop 0).take 16)))))]⟩) rfl ⟨fun _=>.p (uG eU (by decide) rfl),fun _=>.p (uG bQ (by decide) rfl),trivial⟩ ⟨_,by exact .p (yf (m:=16) tySl135 (by decide) (by first | decide | (show 16 ≤ 9223372036854775807; omega)) rfl rfl rfl rfl (by first | decide | (show 0 + 16 ≤ 17; omega)) (by first | decide | (show 0 + 16 ≤ 16; omega)) (zm (a:=0) (a2:=0) (off:=0) (off2:=0) (post:=[]) (post2:=[]) (l:=cg.zero.l) (l2:=x_11.l) (kd:=.u32) (lo:=0) (lo2:=0) [] [] rfl rfl rfl rfl (by rfl) (by rfl) (by first | decide | (show 0 + 16 ≤ 17; omega)) (by first | decide | (show 0 + 16 ≤ 16; omega)) (cg.yK (wR rfl (by first | decide | (show 0 + 16 ≤ 17; omega)) (by first | decide | (show 0 + 16 ≤ 16; omega)))) rfl)),rfl⟩ rfl (ab.seq (ab.aa ?_)))))
   refine Oc om (Oc (aN eU (by decide) (by decide) rfl rfl rfl) (Oc (bA bn rfl rfl rfl (Nat.le_of_ble_eq_true rfl) rfl) ?_))
   refine ae.aj ⟨[(4,_),(5,_),(6,_),(7,_),(10,_),(11,_),(15,_)],[(103,_),(104,_),(106,_),(108,.box 183 [.int .u32 ((cg.of (aS cg.zero.l 0 ((x_11.l.drop 0).take 16))).a0),.int .u32 ((cg.of (aS cg.zero.l 0 ((x_11.l.drop 0).take 16))).a1),.int .u32 ((cg.of (aS cg.zero.l 0 ((x_11.l.drop 0).take 16))).a2),.int .u32 ((cg.of (aS cg.zero.l 0 ((x_11.l.drop 0).take 16))).a3),.int .u32 ((cg.of (aS cg.zero.l 0 ((x_11.l.drop 0).take 16))).a4),.int .u32 ((cg.of (aS cg.zero.l 0 ((x_11.l.drop 0).take 16))).a5),.int .u32 ((cg.of (aS cg.zero.l 0 ((x_11.l.drop 0).take 16))).a6),.int .u32 ((cg.of (aS cg.zero.l 0 ((x_11.l.drop 0).take 16))).a7),.int .u32 ((cg.of (aS cg.zero.l 0 ((x_11.l.drop 0).take 16))).a8),.int .u32 ((cg.of (aS cg.zero.l 0 ((x_11.l.drop 0).take 16))).a9),.int .u32 ((cg.of (aS cg.zero.l 0 ((x_11.l.drop 0).take 16))).a10),.int .u32 ((cg.of (aS cg.zero.l 0 ((x_11.l.drop 0).take 16))).a11),.int .u32 ((cg.of (aS cg.zero.l 0 ((x_11.l.drop 0).take 16))).a12),.int .u32 ((cg.of (aS cg.zero.l 0 ((x_11.l.drop 0).take 16))).a13),.int .u32 ((cg.of (aS cg.zero.l 0 ((x_11.l.drop 0).take 16))).a14),.int .u32 ((cg.of (aS cg.zero.l 0 ((x_11.l.drop 0).take 16))).a15),.int .u32 x_12])]⟩ rfl ?_
   obtain ⟨v9,h10,h⟩:=aO h
   refine ab.cN (v:=v9) (cF fun (q_13:aT) (u_14:cg)=>⟨[(4,Pt 103 0),(5,Pt 104 0),(10,I x_8),(15,Pt 108 0)],[(103,.box 33 (eW q_13)),(104,.box 33 (eW aT.zero)),(108,.box 183 ((iY .u32) u_14))]⟩) (fun z=>z) ?_ ?_
   ·refine ab.seq (ab.aa ?_)
    refine Oc om (Oc om (Oc (cR rfl rfl) (Oc oa ?_)))
    refine ae.aj ⟨[(4,_),(5,_),(6,_),(10,_),(11,_),(15,_),(16,I (IntKind.i64.wrap (x_2 - x_1)))],[(103,_),(104,_),(106,_),(108,_)]⟩ rfl (ab.block (ab.dM h10 (kr fun (q_15:aT) (u_16:cg) (j_17:Int)=>⟨[(4,Pt 103 0),(5,Pt 104 0),(6,I x_1),(10,I x_8),(11,Pt 106 0),(15,Pt 108 0),(16,I j_17)],[(103,.box 33 (eW q_15)),(104,.box 33 (eW aT.zero)),(106,.box 33 (eW x_9)),(108,.box 183 ((iY .u32) u_16))]⟩) [4,5,6,10,11,15,16] [103,104,106,108] rfl ?_))
    rintro ⟨q_15,u_16,j_17⟩ o11 h12 hy13
    refine ab.seq (ab.seq (ab.aa ?_))
    refine Oc om (Oc (jc rfl rfl) ?_)
    refine ae.aj ⟨[(4,_),(5,_),(6,_),(10,_),(11,_),(15,_),(16,_),(66,B (decide (0 ≤ j_17)))],[(103,_),(104,_),(106,_),(108,_)]⟩ rfl (ab.ite h12 rfl (fun _ h12=>?_) (fun _ h12=>?_))
    ·refine ab.skip (Fin.ah ⟨[(4,_),(5,_),(6,_),(10,_),(11,_),(15,_),(16,_)],[(103,_),(104,_),(106,_),(108,_)]⟩ rfl (Fin.then ?_))
     obtain ⟨v14,h15,h12⟩:=aO h12
     refine ab.cN (v:=v14) (cF fun (q_20:aT) (u_21:cg)=>⟨[(4,Pt 103 0),(5,Pt 104 0),(6,I x_1),(10,I x_8),(11,Pt 106 0),(15,Pt 108 0),(16,I j_17)],[(103,.box 33 (eW q_20)),(104,.box 33 (eW aT.zero)),(106,.box 33 (eW x_9)),(108,.box 183 ((iY .u32) u_21))]⟩) (fun z=>z) ?_ ?_
     ·refine ab.block (ab.seq (ab.aa ?_))
      refine Oc (lp aD) (Oc om (Oc om ?_))
      obtain ⟨x_22,e16,h15⟩:=aO h15
      refine Oc (cz (own_a:=[(108,_)]) ((wQ e16).sw 1 108) goes142 rfl ⟨rfl,trivial⟩ rfl rfl) (Oc oa ?_)
      refine ae.aj ⟨[(4,_),(5,_),(6,_),(10,_),(11,_),(15,_),(16,_),(17,.b (.one (.int .u64 x_22)))],[(103,_),(104,_),(106,_),(108,_)]⟩ rfl ?_
      obtain ⟨v17,h18,h15⟩:=aO h15
      refine ab.cN (v:=v17) (cF fun (u_23:cg) (d_24:Int)=>⟨[(4,Pt 103 0),(5,Pt 104 0),(6,I x_1),(10,I x_8),(11,Pt 106 0),(15,Pt 108 0),(16,I j_17),(17,.b (.one (.int .u64 d_24)))],[(103,.box 33 (eW q_15)),(104,.box 33 (eW aT.zero)),(106,.box 33 (eW x_9)),(108,.box 183 ((iY .u32) u_23))]⟩) (fun z=>z) ?_ ?_
      ·refine ab.seq (ab.aa ?_)
       refine Oc (lp aD) (Oc om (Oc om (Oc om ?_)))
       obtain ⟨⟨x_25,x_26⟩,e19,h18⟩:=aO h18
       refine Oc (cz (own_a:=[(108,_)]) ((xQ e19).sw 1 108) goes143 rfl ⟨rfl,trivial⟩ rfl rfl) (ae.aj ⟨[(4,_),(5,_),(6,_),(10,_),(11,_),(15,_),(16,_),(17,_),(77,B x_25)],[(103,_),(104,_),(106,_),(108,.box 183 ((iY .u32) x_26))]⟩ rfl (ab.ite h18 rfl (fun _ h18=>?_) (fun _ h18=>?_)))
       ·refine ab.seq (ab.aa ?_)
        refine Oc om (Oc (cR rfl rfl) (Oc oa ?_))
        refine ae.aj ⟨[(4,_),(5,_),(6,_),(10,_),(11,_),(15,_),(16,_),(17,.b (.one (.int .u64 (IntKind.u64.wrap (x_22 - 1)))))],[(103,_),(104,_),(106,_),(108,_)]⟩ rfl (ab.aa (Oc (lp aD) (Oc om (Oc om ?_))))
        obtain ⟨x_27,e20,h18⟩:=aO h18
        refine Oc (cz (own_a:=[(108,_)]) ((xS e20).sw 1 108) goes144 rfl ⟨rfl,trivial⟩ rfl rfl) (ae.nil ?_)
        exact Fin.join [4,5,6,10,11,15,16,17] [103,104,106,108] (x_27,IntKind.u64.wrap (x_22 - 1)) (Option.some.inj h18) rfl
       ·refine ab.skip ?_
        exact Fin.join [4,5,6,10,11,15,16,17] [103,104,106,108] (x_26,x_22) (Option.some.inj h18) rfl
      ·rintro ⟨u_23,d_24⟩ hv
       subst v17
       refine ab.aa (Oc om (Oc om (Oc (az bJ bL rfl) ?_)))
       obtain ⟨x_28,e21,h15⟩:=aO h15
       refine Oc (aN bQ (bb e21) (cD e21) rfl rfl rfl) (Oc (bA bn rfl rfl rfl (kA (post:=[]) (k:=.u32) [] e21 rfl rfl rfl) (iK (post:=[]) (k:=.u32) [] e21 rfl rfl (aT.jz q_15 j_17 (IntKind.u32.wrap d_24)) rfl rfl)) ?_)
       refine ae.nil (Fin.aC ?_)
       exact Fin.join [4,5,6,10,11,15,16] [103,104,106,108] (q_15.set j_17 (IntKind.u32.wrap d_24),u_23) (Option.some.inj h15) rfl
     ·rintro ⟨q_20,u_21⟩ hv
      subst v14
      refine ab.aa (Oc om (Oc (cR rfl rfl) (Oc oa ?_)))
      refine ae.nil ?_
      exact Fin.cy [4,5,6,10,11,15,16] [103,104,106,108] (q_20,u_21,IntKind.i64.wrap (j_17 - 1)) (Option.some.inj h12) rfl
    ·refine ab.exit (Fin.aB ?_)
     obtain rfl:=hy13 _ (Option.some.inj h12).symm
     refine Fin.aB (Fin.aU ?_)
     exact Fin.join [4,5,10,15] [103,104,108] (q_15,u_16) rfl rfl
   ·rintro ⟨q_13,u_14⟩ hv
    subst v9
    refine ab.seq (ab.ah ⟨[(4,_),(5,_),(10,_),(15,_)],[(103,_),(104,_),(108,_)]⟩ rfl ?_)
    obtain ⟨x_29,e22,h⟩:=aO h
    refine ab.bR mixed 6 [.b (.agg (eW q_13)),.b (.sG 108 0 16 17),Pt 108 0,.b (.agg [.int .u32 u_14.a0,.int .u32 u_14.a1,.int .u32 u_14.a2,.int .u32 u_14.a3,.int .u32 u_14.a4,.int .u32 u_14.a5,.int .u32 u_14.a6,.int .u32 u_14.a7,.int .u32 u_14.a8,.int .u32 u_14.a9,.int .u32 u_14.a10,.int .u32 u_14.a11,.int .u32 u_14.a12,.int .u32 u_14.a13,.int .u32 u_14.a14,.int .u32 u_14.a15]),I x_8,.b (.agg (eW x_29))] [4,5] [103,104] (s':=⟨[(4,_),(5,_)],[(103,_),(104,.box 33 (eW x_29))]⟩) rfl ⟨fun _=>.p (lp aD),fun _=>.p (sP (i:=16) eU (by decide) (by decide) rfl rfl),fun _=>.p (uc bQ (by decide) rfl),fun _=>.p (lp aD),fun _=>.p om,fun _=>.p (ag (xT e22) goes145 rfl rfl),trivial⟩ ⟨_,by exact .p (ao aD rfl rfl rfl rfl (Nat.le_of_ble_eq_true rfl) rfl),⟨_,by exact .p (ao aD rfl rfl rfl rfl (Nat.le_of_ble_eq_true rfl) rfl),rfl⟩⟩ rfl (ab.ret ?_)
    obtain rfl:=Option.some.inj h
    refine Fin.ah ⟨[(4,_),(5,_)],[(103,_),(104,_)]⟩ rfl (Fin.ay [.agg (eW q_13),.agg (eW x_29)] (.inl rfl) rfl (.cons (.agg aD rfl rfl rfl rfl) (.cons (.agg aD rfl rfl rfl rfl) .nil)) ⟨rfl,rfl⟩)
def oX (F:Nat) (x0:cV):Option cV :=
 (ew F [x0]).bind fun x_1=>if (!x_1) = true then ((fm F).bind fun x_2=>some x_2) else ((cH F false x0.W).bind fun x_3=>some x_3)
theorem zi {F:Nat} {x0:cV} {r:cV} (h:oX F x0 = some r):ax Tryz.prog (bh mx) 106 [] [.agg (au x0)] (Is [] (.b (.agg (au r)))):=by
 unfold oX at h
 refine ax.intro 11 Tryz.func106 Tryz.ntmps106 rfl (by simp) fun E=>?_
 show ab _ E ⟨11,[],[],[]⟩ _ ⟨[(0,.b (.agg (au x0)))],[]⟩ _
 refine ab.seq (ab.aa ?_)
 refine Oc (bM (k:=101) rfl rfl) (Oc (aA (k:=102) bP rfl) ?_)
 refine ae.aj ⟨[(1,Pt 101 0),(2,Pt 102 0)],[(101,.box 35 (au x0)),(102,.box 35 dF)]⟩ rfl (ab.seq (ab.seq (ab.aa ?_)))
 refine Oc (lp an) (Oc (bp (k:=103) (es:=[x0].map au) jW rfl rfl (cZ fun _=>rfl) rfl (by decide) (by decide) rfl) ?_)
 obtain ⟨x_1,e1,h⟩:=aO h
 refine Oc (fY (fc e1) kL rfl CP.gk) (Oc (cX rfl) ?_)
 refine ae.aj ⟨[(1,_),(2,_),(6,B (!x_1))],[(101,_),(102,_)]⟩ rfl (ab.ite h rfl (fun _ h=>?_) (fun _ h=>?_))
 ·refine ab.seq (ab.aa ?_)
  obtain ⟨x_2,e2,h⟩:=aO h
  refine Oc (ag (dB e2) jD rfl rfl) (Oc (ao an rfl rfl rfl rfl (Nat.le_of_ble_eq_true rfl) rfl) ?_)
  refine ae.aj ⟨[(2,_)],[(102,.box 35 (au x_2))]⟩ rfl (ab.ret (Fin.aI ?_))
  obtain rfl:=Option.some.inj h
  refine Fin.ah ⟨[(2,_)],[(102,_)]⟩ rfl (Fin.ay [.agg (au x_2)] (.inl rfl) rfl (.cons (.agg an rfl rfl rfl rfl) .nil) ⟨rfl,rfl⟩)
 ·refine ab.skip (Fin.ah ⟨[(1,_),(2,_)],[(101,_),(102,_)]⟩ rfl (Fin.then (ab.seq (ab.aa ?_))))
  refine Oc (af ba rfl rfl) (Oc (lp aD) ?_)
  obtain ⟨x_3,e3,h⟩:=aO h
  refine Oc (ag (cC e3) jC rfl rfl) (Oc (ao an rfl rfl rfl rfl (Nat.le_of_ble_eq_true rfl) rfl) ?_)
  refine ae.aj ⟨[(2,_)],[(102,.box 35 (au x_3))]⟩ rfl (ab.ret ?_)
  obtain rfl:=Option.some.inj h
  refine Fin.ah ⟨[(2,_)],[(102,_)]⟩ rfl (Fin.ay [.agg (au x_3)] (.inl rfl) rfl (.cons (.agg an rfl rfl rfl rfl) .nil) ⟨rfl,rfl⟩)
def nj (F:Nat):Nat → cV → cV → Option cV
 | 0,_,_=>none
 | n + 1,a0,b0=>(ew F [a0,b0]).bind fun x_1=>if (!x_1) = true then ((fm F).bind fun x_2=>some x_2) else (Option.bind ((gy F a0.W).bind fun x_3=>(bx (decide (x_3 ≤ 2)) (gy F b0.W)).bind fun x_4=>if ((decide (x_3 ≤ 2)) && (decide (x_4 ≤ 2))) = true then (Option.bind (iter F (cF fun x_6 y_7=>if (decide (y_7 ≠ 0)) = true then ((vT x_6 y_7).bind fun x_9=>some (.inl (y_7,x_9))) else (some (.inr x_6))) (jT .u64 (IntKind.u64.wrap ((IntKind.u64.wrap a0.W.a1) * 4294967296)) (IntKind.u64.wrap a0.W.a0),jT .u64 (IntKind.u64.wrap ((IntKind.u64.wrap b0.W.a1) * 4294967296)) (IntKind.u64.wrap b0.W.a0))) (fun x_5=>cu (⟨IntKind.u32.wrap x_5,IntKind.u32.wrap (x_5 / 4294967296),0,0,0,0,0,0,0,0,0,0,0,0,0,0⟩:aT) fun x_10=>(cH F false x_10).bind fun x_11=>some (.inr x_11))) else (some (.inl ()))) (eh (fun _=>if (decide (b0.W ≠ aT.zero)) = true then (Option.bind (hX F a0.W b0.W) (cF fun x_12 x_13=>(cH F false b0.W).bind fun x_14=>(cH F false x_13).bind fun x_15=>(nj F n x_14 x_15).bind fun x_16=>some x_16)) else ((oX F a0).bind fun x_17=>some x_17)) (fun y=>some y)))
def oW (F:Nat) (a0:cV) (b0:cV):Option cV:=nj F F a0 b0
theorem xU {F:Nat}:∀ (n:Nat) {a0:cV} {b0:cV} {r:cV} (h:nj F n a0 b0 = some r),ax Tryz.prog (bh mx) 51 [] [.agg (au a0),.agg (au b0)] (Is [] (.b (.agg (au r)))):=by
 intro n
 induction n with
 | zero=>intro a0 b0 r h; simp [nj] at h
 | succ n ih=>
 intro a0 b0 r h
 unfold nj at h
 refine ax.intro 80 Tryz.func51 Tryz.ntmps51 rfl (by simp) fun E=>?_
 show ab _ E ⟨80,[],[],[]⟩ _ ⟨[(0,.b (.agg (au a0))),(1,.b (.agg (au b0)))],[]⟩ _
 refine ab.seq (ab.aa ?_)
 refine Oc (bM (k:=101) rfl rfl) (Oc (bM (k:=102) rfl rfl) (Oc (aA (k:=103) bP rfl) ?_))
 refine ae.aj ⟨[(2,Pt 101 0),(3,Pt 102 0),(4,Pt 103 0)],[(101,.box 35 (au a0)),(102,.box 35 (au b0)),(103,.box 35 dF)]⟩ rfl (ab.seq (ab.seq (ab.aa ?_)))
 refine Oc (lp an) (Oc (lp an) (Oc (bp (k:=104) (es:=[a0,b0].map au) jW rfl rfl (cZ fun _=>rfl) rfl (by decide) (by decide) rfl) ?_))
 obtain ⟨x_1,e1,h⟩:=aO h
 refine Oc (fY (fc e1) kL rfl CP.gk) (Oc (cX rfl) ?_)
 refine ae.aj ⟨[(2,_),(3,_),(4,_),(15,B (!x_1))],[(101,_),(102,_),(103,_)]⟩ rfl (ab.ite h rfl (fun _ h=>?_) (fun _ h=>?_))
 ·refine ab.seq (ab.aa ?_)
  obtain ⟨x_2,e2,h⟩:=aO h
  refine Oc (ag (dB e2) jD rfl rfl) (Oc (ao an rfl rfl rfl rfl (Nat.le_of_ble_eq_true rfl) rfl) ?_)
  refine ae.aj ⟨[(4,_)],[(103,.box 35 (au x_2))]⟩ rfl (ab.ret (Fin.aI ?_))
  obtain rfl:=Option.some.inj h
  refine Fin.ah ⟨[(4,_)],[(103,_)]⟩ rfl (Fin.ay [.agg (au x_2)] (.inl rfl) rfl (.cons (.agg an rfl rfl rfl rfl) .nil) ⟨rfl,rfl⟩)
 ·refine ab.skip (Fin.ah ⟨[(2,_),(3,_),(4,_)],[(101,_),(102,_),(103,_)]⟩ rfl (Fin.then ?_))
  obtain ⟨v3,h4,h⟩:=aO h
  refine ab.cN (v:=v3) (fun (_:Unit)=>⟨[(2,Pt 101 0),(3,Pt 102 0),(4,Pt 103 0)],[(101,.box 35 (au a0)),(102,.box 35 (au b0)),(103,.box 35 dF)]⟩) (fun z=>.inl z) ?_ ?_
  ·refine ab.seq (ab.aa ?_)
   refine Oc (af ba rfl rfl) (Oc (lp aD) ?_)
   obtain ⟨x_3,e5,h4⟩:=aO h4
   refine Oc (ag (gH e5) nB rfl rfl) (Oc (rU rfl rfl) (Oc om ?_))
   refine ae.ah ⟨[(2,_),(3,_),(4,_),(21,B (decide (x_3 ≤ 2)))],[(101,_),(102,_),(103,_)]⟩ rfl (dE (decide (x_3 ≤ 2)) [] (fun g6=>trivial) (fun g6=>af ba rfl rfl) (dE (decide (x_3 ≤ 2)) [22] (fun g7=>⟨g7,trivial⟩) (fun g7=>lp aD) ?_))
   obtain ⟨x_4,e9,h4⟩:=aO h4
   refine dE (decide (x_3 ≤ 2)) [23] (fun g8=>⟨g8,trivial⟩) (fun g8=>ag (gH (gc e9 g8)) nB rfl rfl) (dE (decide (x_3 ≤ 2)) [24] (fun g10=>⟨g10,trivial⟩) (fun g10=>rU rfl rfl) (Oc (aJ (fun e=>e) rfl rfl rfl rfl) (ae.aj ⟨[(2,_),(3,_),(4,_),(26,B ((decide (x_3 ≤ 2)) && (decide (x_4 ≤ 2))))],[(101,_),(102,_),(103,_)]⟩ rfl (ab.ite h4 rfl (fun _ h4=>?_) (fun _ h4=>?_)))))
   ·refine ab.seq (ab.ah ⟨[(2,_),(3,_),(4,_)],[(101,_),(102,_),(103,_)]⟩ rfl (ab.bR mixed 22 [Pt 101 2,Pt 101 3,.b (.one (.int .u32 a0.W.a1)),.b (.one (.int .u64 (IntKind.u64.wrap a0.W.a1))),.b (.one (.int .u64 (IntKind.u64.wrap ((IntKind.u64.wrap a0.W.a1) * 4294967296)))),Pt 101 2,Pt 101 2,.b (.one (.int .u32 a0.W.a0)),.b (.one (.int .u64 (IntKind.u64.wrap a0.W.a0))),.b (.one (.int .u64 (jT .u64 (IntKind.u64.wrap ((IntKind.u64.wrap a0.W.a1) * 4294967296)) (IntKind.u64.wrap a0.W.a0)))),Pt 102 2,Pt 102 3,.b (.one (.int .u32 b0.W.a1)),.b (.one (.int .u64 (IntKind.u64.wrap b0.W.a1))),.b (.one (.int .u64 (IntKind.u64.wrap ((IntKind.u64.wrap b0.W.a1) * 4294967296)))),Pt 102 2,Pt 102 2,.b (.one (.int .u32 b0.W.a0)),.b (.one (.int .u64 (IntKind.u64.wrap b0.W.a0))),.b (.one (.int .u64 (jT .u64 (IntKind.u64.wrap ((IntKind.u64.wrap b0.W.a1) * 4294967296)) (IntKind.u64.wrap b0.W.a0)))),.b (.one (.int .u64 (jT .u64 (IntKind.u64.wrap ((IntKind.u64.wrap a0.W.a1) * 4294967296)) (IntKind.u64.wrap a0.W.a0)))),.b (.one (.int .u64 (jT .u64 (IntKind.u64.wrap ((IntKind.u64.wrap b0.W.a1) * 4294967296)) (IntKind.u64.wrap b0.W.a0))))] [4,5,6] [103] (s':=⟨[(4,_),(5,.b (.one (.int .u64 (jT .u64 (IntKind.u64.wrap ((IntKind.u64.wrap a0.W.a1) * 4294967296)) (IntKind.u64.wrap a0.W.a0))))),(6,.b (.one (.int .u64 (jT .u64 (IntKind.u64.wrap ((IntKind.u64.wrap b0.W.a1) * 4294967296)) (IntKind.u64.wrap b0.W.a0)))))],[(103,_)]⟩) rfl ⟨fun _=>.p (af ba rfl rfl),fun _=>.p (aN bQ (by decide) (by decide) rfl rfl rfl),fun _=>.p (aq bn rfl rfl rfl),fun _=>.p (az bL bJ rfl),fun _=>.p (nv (m:=32) (q:=4294967296) (by decide) rfl rfl (by decide)),fun _=>.p (af ba rfl rfl),fun _=>.p (aN bQ (by decide) (by decide) rfl rfl rfl),fun _=>.p (aq bn rfl rfl rfl),fun _=>.p (az bL bJ rfl),fun _=>.p (pR rfl rfl),fun _=>.p (af ba rfl rfl),fun _=>.p (aN bQ (by decide) (by decide) rfl rfl rfl),fun _=>.p (aq bn rfl rfl rfl),fun _=>.p (az bL bJ rfl),fun _=>.p (nv (m:=32) (q:=4294967296) (by decide) rfl rfl (by decide)),fun _=>.p (af ba rfl rfl),fun _=>.p (aN bQ (by decide) (by decide) rfl rfl rfl),fun _=>.p (aq bn rfl rfl rfl),fun _=>.p (az bL bJ rfl),fun _=>.p (pR rfl rfl),fun _=>.p oa,fun _=>.p oa,trivial⟩ rfl rfl ?_))
    obtain ⟨v11,h12,h4⟩:=aO h4
    refine ab.cN (v:=v11) (fun (x_5:Int)=>⟨[(4,Pt 103 0),(5,.b (.one (.int .u64 x_5)))],[(103,.box 35 dF)]⟩) (fun z=>z) ?_ ?_
    ·refine ab.block (ab.dM h12 (cF fun (x_6:Int) (y_7:Int)=>⟨[(4,Pt 103 0),(5,.b (.one (.int .u64 x_6))),(6,.b (.one (.int .u64 y_7)))],[(103,.box 35 dF)]⟩) [4,5,6] [103] rfl ?_)
     rintro ⟨x_6,y_7⟩ o13 h14 hy15
     refine ab.seq (ab.seq (ab.aa ?_))
     refine Oc om (Oc (dU rfl rfl) ?_)
     refine ae.aj ⟨[(4,_),(5,_),(6,_),(48,B (decide (y_7 ≠ 0)))],[(103,_)]⟩ rfl (ab.ite h14 rfl (fun _ h14=>?_) (fun _ h14=>?_))
     ·refine ab.skip (Fin.ah ⟨[(4,_),(5,_),(6,_)],[(103,_)]⟩ rfl (Fin.then (ab.block ?_)))
      refine ab.ah ⟨[(4,_),(5,_),(6,_)],[(103,_)]⟩ rfl ?_
      obtain ⟨x_9,e16,h14⟩:=aO h14
      refine ab.k7 mixed 5 [.b (.one (.int .u64 y_7)),.b (.one (.int .u64 x_6)),.b (.one (.int .u64 y_7)),.b (.one (.int .u64 x_9)),.b (.one (.int .u64 y_7))] [4,5,6] [103] (s':=⟨[(4,_),(5,.b (.one (.int .u64 y_7))),(6,.b (.one (.int .u64 x_9)))],[(103,_)]⟩) rfl ⟨fun _=>.p om,fun _=>.p om,fun _=>.p om,fun _=>.p (ti e16 rfl rfl),fun _=>.p oa,trivial⟩ ⟨_,by exact .p oa,rfl⟩ rfl (Fin.aC ?_)
      exact Fin.cy [4,5,6] [103] (y_7,x_9) (Option.some.inj h14) rfl
     ·refine ab.exit (Fin.aB ?_)
      obtain rfl:=hy15 _ (Option.some.inj h14).symm
      refine Fin.aB (Fin.aU ?_)
      exact Fin.join [4,5] [103] x_6 rfl rfl
    ·rintro x_5 hv
     subst v11
     refine ab.seq (ab.aa ?_)
     refine Oc om (Oc (az bJ bL rfl) (Oc om (Oc (fM (m:=32) (by decide) rfl rfl rfl) (Oc (az bJ bL rfl) ?_))))
     refine ae.vm eW h4 rfl (gg gf rfl rfl) (fun x_10 h4=>?_)
     obtain ⟨x_11,e17,h4⟩:=aO h4
     refine Oc (ag (cC e17) jC rfl rfl) (Oc (ao an rfl rfl rfl rfl (Nat.le_of_ble_eq_true rfl) rfl) ?_)
     refine ae.aj ⟨[(4,_)],[(103,.box 35 (au x_11))]⟩ rfl (ab.ret ?_)
     obtain rfl:=Option.some.inj h4
     refine Fin.aI ?_
     obtain rfl:=Option.some.inj h
     refine Fin.ah ⟨[(4,_)],[(103,_)]⟩ rfl (Fin.ay [.agg (au x_11)] (.inl rfl) rfl (.cons (.agg an rfl rfl rfl rfl) .nil) ⟨rfl,rfl⟩)
   ·refine ab.skip ?_
    exact Fin.join [2,3,4] [101,102,103] () (Option.some.inj h4) rfl
  ·rintro _ hv
   subst v3
   refine ab.seq (ab.seq ?_)
   refine ab.ah ⟨[(2,_),(3,_),(4,_)],[(101,_),(102,_),(103,_)]⟩ rfl (ab.ji mixed [false,false,false,false,true,true,true,true] [Pt 101 2,.b (.agg (eW a0.W)),Pt 102 2,.b (.agg (eW b0.W)),Pt 105 0,Pt 106 0,B true,B true] [⟨[false,false,false,false,false,false,false,false],[(2,Pt 101 0),(3,Pt 102 0),(4,Pt 103 0)],[(101,.box 35 (au a0)),(102,.box 35 (au b0)),(103,.box 35 dF)],[true,true,true,true,true,true,true,true],[],[6,7]⟩,⟨[false,false,false,false,true,false,false,false],[(2,Pt 101 0),(3,Pt 102 0),(4,Pt 103 0)],[(101,.box 35 (au a0)),(102,.box 35 (au b0)),(103,.box 35 dF),(105,.box 33 (eW aT.zero))],[true,true,true,true,true,true,true,true],[4],[6,7]⟩,⟨[false,false,false,false,false,true,false,false],[(2,Pt 101 0),(3,Pt 102 0),(4,Pt 103 0)],[(101,.box 35 (au a0)),(102,.box 35 (au b0)),(103,.box 35 dF),(106,.box 33 (eW aT.zero))],[true,true,true,true,true,true,true,true],[5],[6,7]⟩,⟨[false,false,false,false,true,true,false,false],[(2,Pt 101 0),(3,Pt 102 0),(4,Pt 103 0)],[(101,.box 35 (au a0)),(102,.box 35 (au b0)),(103,.box 35 dF),(105,.box 33 (eW aT.zero)),(106,.box 33 (eW aT.zero))],[true,true,true,true,true,true,true,true],[4,5],[7]⟩,⟨[false,false,false,false,true,true,true,false],[(2,Pt 101 0),(3,Pt 102 0),(4,Pt 103 0)],[(101,.box 35 (au a0)),(102,.box 35 (au b0)),(103,.box 35 dF),(105,.box 33 (eW a0.W)),(106,.box 33 (eW aT.zero))],[true,true,true,true,true,true,true,true],[0,1,4,5,6],[]⟩,⟨[false,false,false,false,true,true,true,true],[(2,Pt 101 0),(3,Pt 102 0),(4,Pt 103 0)],[(101,.box 35 (au a0)),(102,.box 35 (au b0)),(103,.box 35 dF),(105,.box 33 (eW a0.W)),(106,.box 33 (eW b0.W))],[true,true,true,true,true,true,true,true],[0,1,2,3,4,5,6,7],[]⟩] rfl (⟨by kernel_rfl,⟨⟨Pt 101 2,fun _=>rfl,fun _=>.p (by exact af ba rfl rfl)⟩,⟨.b (.agg (eW a0.W)),fun _=>rfl,fun _=>.p (by exact aK aD rfl rfl rfl rfl)⟩,⟨Pt 102 2,fun _=>rfl,fun _=>.p (by exact af ba rfl rfl)⟩,⟨.b (.agg (eW b0.W)),fun _=>rfl,fun _=>.p (by exact aK aD rfl rfl rfl rfl)⟩,⟨_,[105],Pt 105 0,rfl,fun _=>rfl,rfl,rfl,fun _=>.l5 [101,102,103,105] (by exact .p (by exact aA (k:=105) cP rfl)) (by exact rfl)⟩,⟨_,[106],Pt 106 0,rfl,fun _=>rfl,rfl,rfl,fun _=>.l5 [101,102,103,106] (by exact .p (by exact aA (k:=106) cP rfl)) (by exact rfl)⟩,trivial,trivial,trivial⟩,⟨by kernel_rfl,⟨⟨Pt 101 2,fun _=>rfl,fun _=>.p (by exact af ba rfl rfl)⟩,⟨.b (.agg (eW a0.W)),fun _=>rfl,fun _=>.p (by exact aK aD rfl rfl rfl rfl)⟩,⟨Pt 102 2,fun _=>rfl,fun _=>.p (by exact af ba rfl rfl)⟩,⟨.b (.agg (eW b0.W)),fun _=>rfl,fun _=>.p (by exact aK aD rfl rfl rfl rfl)⟩,trivial,⟨_,[106],Pt 106 0,rfl,fun _=>rfl,rfl,rfl,fun _=>.l5 [101,102,103,105,106] (by exact .p (by exact aA (k:=106) cP rfl)) (by exact rfl)⟩,trivial,trivial,trivial⟩,⟨by kernel_rfl,⟨⟨Pt 101 2,fun _=>rfl,fun _=>.p (by exact af ba rfl rfl)⟩,⟨.b (.agg (eW a0.W)),fun _=>rfl,fun _=>.p (by exact aK aD rfl rfl rfl rfl)⟩,⟨Pt 102 2,fun _=>rfl,fun _=>.p (by exact af ba rfl rfl)⟩,⟨.b (.agg (eW b0.W)),fun _=>rfl,fun _=>.p (by exact aK aD rfl rfl rfl rfl)⟩,⟨_,[105],Pt 105 0,rfl,fun _=>rfl,rfl,rfl,fun _=>.l5 [101,102,103,105,106] (by exact .p (by exact aA (k:=105) cP rfl)) (by exact rfl)⟩,trivial,trivial,trivial,trivial⟩,⟨by kernel_rfl,⟨⟨Pt 101 2,fun _=>rfl,fun _=>.p (by exact af ba rfl rfl)⟩,⟨.b (.agg (eW a0.W)),fun _=>rfl,fun _=>.p (by exact aK aD rfl rfl rfl rfl)⟩,⟨Pt 102 2,fun _=>rfl,fun _=>.p (by exact af ba rfl rfl)⟩,⟨.b (.agg (eW b0.W)),fun _=>rfl,fun _=>.p (by exact aK aD rfl rfl rfl rfl)⟩,trivial,trivial,⟨_,[],.b (.one .any),rfl,(fun e=>by simp at e),rfl,rfl,fun _=>.l5 [101,102,103,105,106] (by exact .p (by exact ao aD rfl rfl rfl rfl (Nat.le_of_ble_eq_true rfl) rfl)) (by exact rfl)⟩,trivial,trivial⟩,⟨by kernel_rfl,⟨trivial,trivial,⟨Pt 102 2,fun _=>rfl,fun _=>.p (by exact af ba rfl rfl)⟩,⟨.b (.agg (eW b0.W)),fun _=>rfl,fun _=>.p (by exact aK aD rfl rfl rfl rfl)⟩,trivial,trivial,trivial,⟨_,[],.b (.one .any),rfl,(fun e=>by simp at e),rfl,rfl,fun _=>.l5 [101,102,103,105,106] (by exact .p (by exact ao aD rfl rfl rfl rfl (Nat.le_of_ble_eq_true rfl) rfl)) (by exact rfl)⟩,trivial⟩,⟨by kernel_rfl,⟨trivial,trivial,trivial,trivial,trivial,trivial,trivial,trivial,trivial⟩,trivial⟩⟩⟩⟩⟩⟩) rfl rfl rfl [2,4,7,8] [101,103,105,106] (s':=⟨[(2,_),(4,_),(7,Pt 105 0),(8,Pt 106 0)],[(101,_),(103,_),(105,.box 33 (eW a0.W)),(106,.box 33 (eW b0.W))]⟩) rfl ?_)
   refine ab.seq (ab.aa ?_)
   refine Oc (lp aD) (Oc (gg gf rfl rfl) (Oc (lq (po b0.W aT.zero) rfl rfl qN) ?_))
   refine ae.aj ⟨[(2,_),(4,_),(7,_),(8,_),(66,B (decide (b0.W ≠ aT.zero)))],[(101,_),(103,_),(105,_),(106,_)]⟩ rfl (ab.ite h rfl (fun _ h=>?_) (fun _ h=>?_))
   ·refine ab.seq (ab.aa ?_)
    refine Oc (lp aD) (Oc (lp aD) ?_)
    obtain ⟨⟨x_12,x_13⟩,e18,h⟩:=aO h
    refine Oc (ag (n6 e18) Az rfl rfl) (Oc om (Oc (aF rfl rfl) ?_))
    refine ae.ah ⟨[(4,_),(8,_),(67,.fG [.agg (eW x_12),.agg (eW x_13)]),(71,.b (.agg (eW x_12)))],[(103,_),(106,_)]⟩ rfl (Oc (aF rfl rfl) (Oc (aA (k:=107) cP rfl) (Oc (aA (k:=108) cP rfl) (Oc (ao aD rfl rfl rfl rfl (Nat.le_of_ble_eq_true rfl) rfl) (Oc (ao aD rfl rfl rfl rfl (Nat.le_of_ble_eq_true rfl) rfl) ?_)))))
    refine ae.aj ⟨[(4,_),(8,_),(10,Pt 108 0)],[(103,_),(106,_),(108,.box 33 (eW x_13))]⟩ rfl (ab.seq ?_)
    obtain ⟨x_14,e19,h⟩:=aO h
    obtain ⟨x_15,e20,h⟩:=aO h
    obtain ⟨x_16,e21,h⟩:=aO h
    refine ab.bR mixed 5 [.b (.agg (eW b0.W)),.b (.agg (au x_14)),.b (.agg (eW x_13)),.b (.agg (au x_15)),.b (.agg (au x_16))] [4] [103] (s':=⟨[(4,_)],[(103,.box 35 (au x_16))]⟩) rfl ⟨fun _=>.p (lp aD),fun _=>.p (ag (cC e19) jC rfl rfl),fun _=>.p (lp aD),fun _=>.p (ag (cC e20) jC rfl rfl),fun _=>.p (ag (ih e21) wh rfl rfl),trivial⟩ ⟨_,by exact .p (ao an rfl rfl rfl rfl (Nat.le_of_ble_eq_true rfl) rfl),rfl⟩ rfl (ab.ret (Fin.aI ?_))
    obtain rfl:=Option.some.inj h
    refine Fin.ah ⟨[(4,_)],[(103,_)]⟩ rfl (Fin.ay [.agg (au x_16)] (.inl rfl) rfl (.cons (.agg an rfl rfl rfl rfl) .nil) ⟨rfl,rfl⟩)
   ·refine ab.skip (Fin.ah ⟨[(2,_),(4,_)],[(101,_),(103,_)]⟩ rfl (Fin.then (ab.seq (ab.aa ?_))))
    refine Oc (lp an) ?_
    obtain ⟨x_17,e22,h⟩:=aO h
    refine Oc (ag (zi e22) goes106 rfl rfl) (Oc (ao an rfl rfl rfl rfl (Nat.le_of_ble_eq_true rfl) rfl) ?_)
    refine ae.aj ⟨[(4,_)],[(103,.box 35 (au x_17))]⟩ rfl (ab.ret ?_)
    obtain rfl:=Option.some.inj h
    refine Fin.ah ⟨[(4,_)],[(103,_)]⟩ rfl (Fin.ay [.agg (au x_17)] (.inl rfl) rfl (.cons (.agg an rfl rfl rfl rfl) .nil) ⟨rfl,rfl⟩)
theorem qm {F:Nat} {a0:cV} {b0:cV} {r:cV} (h:oW F a0 b0 = some r):ax Tryz.prog (bh mx) 51 [] [.agg (au a0),.agg (au b0)] (Is [] (.b (.agg (au r)))):=xU F h
def oV (F:Nat) (x0:cV):Option cV :=
 (ew F [x0]).bind fun x_1=>if (!x_1) = true then ((fm F).bind fun x_2=>some x_2) else ((cH F (!x0.Neg) x0.W).bind fun x_3=>some x_3)
theorem uq {F:Nat} {x0:cV} {r:cV} (h:oV F x0 = some r):ax Tryz.prog (bh mx) 75 [] [.agg (au x0)] (Is [] (.b (.agg (au r)))):=by
 unfold oV at h
 refine ax.intro 14 Tryz.func75 Tryz.ntmps75 rfl (by simp) fun E=>?_
 show ab _ E ⟨14,[],[],[]⟩ _ ⟨[(0,.b (.agg (au x0)))],[]⟩ _
 refine ab.seq (ab.aa ?_)
 refine Oc (bM (k:=101) rfl rfl) (Oc (aA (k:=102) bP rfl) ?_)
 refine ae.aj ⟨[(1,Pt 101 0),(2,Pt 102 0)],[(101,.box 35 (au x0)),(102,.box 35 dF)]⟩ rfl (ab.seq (ab.seq (ab.aa ?_)))
 refine Oc (lp an) (Oc (bp (k:=103) (es:=[x0].map au) jW rfl rfl (cZ fun _=>rfl) rfl (by decide) (by decide) rfl) ?_)
 obtain ⟨x_1,e1,h⟩:=aO h
 refine Oc (fY (fc e1) kL rfl CP.gk) (Oc (cX rfl) ?_)
 refine ae.aj ⟨[(1,_),(2,_),(6,B (!x_1))],[(101,_),(102,_)]⟩ rfl (ab.ite h rfl (fun _ h=>?_) (fun _ h=>?_))
 ·refine ab.seq (ab.aa ?_)
  obtain ⟨x_2,e2,h⟩:=aO h
  refine Oc (ag (dB e2) jD rfl rfl) (Oc (ao an rfl rfl rfl rfl (Nat.le_of_ble_eq_true rfl) rfl) ?_)
  refine ae.aj ⟨[(2,_)],[(102,.box 35 (au x_2))]⟩ rfl (ab.ret (Fin.aI ?_))
  obtain rfl:=Option.some.inj h
  refine Fin.ah ⟨[(2,_)],[(102,_)]⟩ rfl (Fin.ay [.agg (au x_2)] (.inl rfl) rfl (.cons (.agg an rfl rfl rfl rfl) .nil) ⟨rfl,rfl⟩)
 ·refine ab.skip (Fin.ah ⟨[(1,_),(2,_)],[(101,_),(102,_)]⟩ rfl (Fin.then (ab.seq (ab.aa ?_))))
  refine Oc (af c6 rfl rfl) (Oc (aq dG rfl rfl rfl) (Oc (cX rfl) (Oc (af ba rfl rfl) (Oc (lp aD) ?_))))
  obtain ⟨x_3,e3,h⟩:=aO h
  refine Oc (ag (cC e3) jC rfl rfl) (Oc (ao an rfl rfl rfl rfl (Nat.le_of_ble_eq_true rfl) rfl) ?_)
  refine ae.aj ⟨[(2,_)],[(102,.box 35 (au x_3))]⟩ rfl (ab.ret ?_)
  obtain rfl:=Option.some.inj h
  refine Fin.ah ⟨[(2,_)],[(102,_)]⟩ rfl (Fin.ay [.agg (au x_3)] (.inl rfl) rfl (.cons (.agg an rfl rfl rfl rfl) .nil) ⟨rfl,rfl⟩)
def oy (F:Nat) (x0:cV):Option Int :=
 (gy F x0.W).bind fun x_1=>(ew F [x0]).bind fun x_2=>if ((!x_2) || (decide (x_1 = 0))) = true then (some 0) else (cu (IntKind.i64.wrap (32 * (IntKind.i64.wrap (x_1 - 1)))) fun x_3=>(aZ x0.W.l (IntKind.i64.wrap (x_1 - 1))).bind fun x_4=>(il F x_4).bind fun x_5=>some (IntKind.i64.wrap (x_3 + x_5)))
theorem xV {F:Nat} {x0:cV} {r:Int} (h:oy F x0 = some r):ax Tryz.prog (bh mx) 169 [] [.agg (au x0)] (Is [] (.b (.one (.i r)))):=by
 unfold oy at h
 refine ax.intro 25 Tryz.func169 Tryz.ntmps169 rfl (by simp) fun E=>?_
 show ab _ E ⟨25,[],[],[]⟩ _ ⟨[(0,.b (.agg (au x0)))],[]⟩ _
 refine ab.seq (ab.aa ?_)
 refine Oc (bM (k:=101) rfl rfl) (Oc oa ?_)
 refine ae.aj ⟨[(1,Pt 101 0)],[(101,.box 35 (au x0))]⟩ rfl (ab.seq (ab.aa ?_))
 refine Oc (af ba rfl rfl) (Oc (lp aD) ?_)
 obtain ⟨x_1,e1,h⟩:=aO h
 refine Oc (ag (gH e1) nB rfl rfl) (Oc oa ?_)
 refine ae.aj ⟨[(1,_),(3,I x_1)],[(101,_)]⟩ rfl (ab.seq (ab.seq (ab.aa ?_)))
 refine Oc (lp an) (Oc (bp (k:=102) (es:=[x0].map au) jW rfl rfl (cZ fun _=>rfl) rfl (by decide) (by decide) rfl) ?_)
 obtain ⟨x_2,e2,h⟩:=aO h
 refine Oc (fY (fc e2) kL rfl CP.gk) (Oc (cX rfl) ?_)
 refine ae.ah ⟨[(1,_),(3,_),(10,B (!x_2))],[(101,_)]⟩ rfl (Oc om (fU (!(!x_2)) [] (fun g3=>by exact trivial) (fun g3=>om) (fU (!(!x_2)) [12] (fun g4=>by exact ⟨g4,trivial⟩) (fun g4=>c9 rfl rfl) (Oc (bt (fun e=>by first | (rw [e]; rfl) | (simp only at e; rw [e]; rfl)) rfl rfl rfl rfl) (ae.aj ⟨[(1,_),(3,_),(14,B ((!x_2) || (decide (x_1 = 0))))],[(101,_)]⟩ rfl ?_)))))
 refine ab.ite h rfl (fun _ h=>?_) (fun _ h=>?_)
 ·refine ab.seq (ab.aa ?_)
  refine Oc oa (ae.aj ⟨[(2,I 0)],[]⟩ rfl (ab.ret (Fin.aI ?_)))
  obtain rfl:=Option.some.inj h
  refine Fin.ah ⟨[(2,_)],[]⟩ rfl (Fin.ay [.one (.i 0)] (.inl rfl) rfl (.cons (.tmp rfl) .nil) ⟨rfl,rfl⟩)
 ·refine ab.skip (Fin.ah ⟨[(1,_),(3,_)],[(101,_)]⟩ rfl (Fin.then (ab.seq (ab.aa ?_))))
  refine Oc om (Oc (cR rfl rfl) ?_)
  refine ae.dw .i64 h rfl (rT rfl rfl) (fun x_3 h=>?_)
  refine Oc om (Oc (cR rfl rfl) (Oc (af ba rfl rfl) ?_))
  obtain ⟨x_4,e5,h⟩:=aO h
  refine Oc (aN bQ (bb e5) (cD e5) rfl rfl rfl) (ae.ah ⟨[(17,I x_3),(21,.b (.ptr 101 (2 + (IntKind.i64.wrap (x_1 - 1):Int).toNat * 1)))],[(101,_)]⟩ rfl (Oc (aq bn rfl rfl (cI (post:=[]) (k:=.u32) [.bool x0.Bad,.bool x0.Neg] e5 rfl rfl rfl)) ?_))
  obtain ⟨x_5,e6,h⟩:=aO h
  refine Oc (ag (n7 e6) Aq rfl rfl) (Oc (aW rfl rfl) (Oc oa ?_))
  refine ae.aj ⟨[(2,I (IntKind.i64.wrap (x_3 + x_5)))],[]⟩ rfl (ab.ret ?_)
  obtain rfl:=Option.some.inj h
  refine Fin.ah ⟨[(2,_)],[]⟩ rfl (Fin.ay [.one (.i (IntKind.i64.wrap (x_3 + x_5)))] (.inl rfl) rfl (.cons (.tmp rfl) .nil) ⟨rfl,rfl⟩)
def iS (F:Nat) (x0:cV):Option (Int × Bool) :=
 (ew F [x0]).bind fun x_1=>(bx (!(!x_1)) (oy F x0)).bind fun x_2=>if ((!x_1) || (decide (64 < x_2))) = true then (some (0,false)) else (cu (IntKind.u64.wrap ((IntKind.u64.wrap x0.W.a1) * 4294967296)) fun x_3=>cu (jT .u64 x_3 (IntKind.u64.wrap x0.W.a0)) fun x_4=>if (x0.Neg && (decide (x_4 ≤ 9223372036854775808))) = true then (cu (IntKind.i64.wrap (IntKind.u64.wrap (-x_4))) fun x_5=>some (x_5,true)) else (if ((!x0.Neg) && (decide (x_4 < 9223372036854775808))) = true then (some (IntKind.i64.wrap x_4,true)) else (some (0,false))))
theorem ri {F:Nat} {x0:cV} {r:Int × Bool} (h:iS F x0 = some r):ax Tryz.prog (bh mx) 146 [] [.agg (au x0)] (Is [] (.fG [.one (.i r.1),.one (.bool r.2)])):=by
 unfold iS at h
 refine ax.intro 44 Tryz.func146 Tryz.ntmps146 rfl (by simp) fun E=>?_
 show ab _ E ⟨44,[],[],[]⟩ _ ⟨[(0,.b (.agg (au x0)))],[]⟩ _
 refine ab.seq (ab.aa ?_)
 refine Oc (bM (k:=101) rfl rfl) (Oc oa (Oc oa ?_))
 refine ae.aj ⟨[(1,Pt 101 0)],[(101,.box 35 (au x0))]⟩ rfl (ab.seq (ab.seq (ab.aa ?_)))
 refine Oc (lp an) (Oc (bp (k:=102) (es:=[x0].map au) jW rfl rfl (cZ fun _=>rfl) rfl (by decide) (by decide) rfl) ?_)
 obtain ⟨x_1,e1,h⟩:=aO h
 refine Oc (fY (fc e1) kL rfl CP.gk) (Oc (cX rfl) ?_)
 refine ae.ah ⟨[(1,_),(8,B (!x_1))],[(101,_)]⟩ rfl (Oc om (fU (!(!x_1)) [] (fun g2=>by exact trivial) (fun g2=>lp an) ?_))
 obtain ⟨x_2,e4,h⟩:=aO h
 refine fU (!(!x_1)) [10] (fun g3=>⟨g3,trivial⟩) (fun g3=>ag (xV (gc e4 g3)) goes169 rfl rfl) (fU (!(!x_1)) [11] (fun g5=>⟨g5,trivial⟩) (fun g5=>fJ rfl rfl) (Oc (bt (fun e=>by first | (rw [e]; rfl) | (simp only at e; rw [e]; rfl)) rfl rfl rfl rfl) (ae.aj ⟨[(1,_),(13,B ((!x_1) || (decide (64 < x_2))))],[(101,_)]⟩ rfl (ab.ite h rfl (fun _ h=>?_) (fun _ h=>?_)))))
 ·refine ab.seq (ab.aa ?_)
  refine Oc oa (Oc oa ?_)
  refine ae.aj ⟨[(2,I 0),(3,B false)],[]⟩ rfl (ab.ret (Fin.aI ?_))
  obtain rfl:=Option.some.inj h
  refine Fin.ah ⟨[(2,_),(3,_)],[]⟩ rfl (Fin.ay [.one (.i 0),.one (.bool false)] (.inl rfl) rfl (.cons (.tmp rfl) (.cons (.tmp rfl) .nil)) ⟨rfl,rfl⟩)
 ·refine ab.skip (Fin.ah ⟨[(1,_)],[(101,_)]⟩ rfl (Fin.then (ab.seq (ab.aa ?_))))
  refine Oc (af ba rfl rfl) (Oc (aN bQ (by decide) (by decide) rfl rfl rfl) (Oc (aq bn rfl rfl rfl) (Oc (az bL bJ rfl) ?_)))
  refine ae.dw .u64 h rfl (nv (m:=32) (q:=4294967296) (by decide) rfl rfl (by decide)) (fun x_3 h=>?_)
  refine Oc (af ba rfl rfl) (Oc (aN bQ (by decide) (by decide) rfl rfl rfl) ?_)
  refine ae.ah ⟨[(1,_),(18,.b (.one (.int .u64 x_3))),(20,Pt 101 2)],[(101,_)]⟩ rfl (Oc (aq bn rfl rfl rfl) (Oc (az bL bJ rfl) ?_))
  refine ae.dw .u64 h rfl (pR rfl rfl) (fun x_4 h=>?_)
  refine Oc oa (ae.aj ⟨[(1,_),(4,.b (.one (.int .u64 x_4)))],[(101,_)]⟩ rfl (ab.seq (ab.block (ab.seq (ab.aa ?_)))))
  refine Oc (af c6 rfl rfl) (Oc (aq dG rfl rfl rfl) (Oc om ?_))
  refine dE x0.Neg [] (fun g6=>trivial) (fun g6=>om) (dE x0.Neg [28] (fun g7=>by exact ⟨g7,trivial⟩) (fun g7=>rU rfl rfl) (Oc (aJ (fun e=>e) rfl rfl rfl rfl) (Oc oa ?_)))
  refine ae.aj ⟨[(1,_),(4,_),(24,B (x0.Neg && (decide (x_4 ≤ 9223372036854775808))))],[(101,_)]⟩ rfl (ab.ite h rfl (fun _ h=>?_) (fun _ h=>?_))
  ·refine ab.seq (ab.aa ?_)
   refine Oc om (Oc (Ct rfl) ?_)
   refine ae.dw .i64 h rfl (az bJ pQ rfl) (fun x_5 h=>?_)
   refine Oc oa (Oc oa ?_)
   refine ae.aj ⟨[(2,I x_5),(3,B true)],[]⟩ rfl (ab.ret (Fin.cL (Fin.aI ?_)))
   obtain rfl:=Option.some.inj h
   refine Fin.ah ⟨[(2,_),(3,_)],[]⟩ rfl (Fin.ay [.one (.i x_5),.one (.bool true)] (.inl rfl) rfl (.cons (.tmp rfl) (.cons (.tmp rfl) .nil)) ⟨rfl,rfl⟩)
  ·refine ab.seq (ab.aa ?_)
   refine Oc (af c6 rfl rfl) (Oc (aq dG rfl rfl rfl) (Oc (cX rfl) (Oc om ?_)))
   refine dE (!x0.Neg) [] (fun g8=>trivial) (fun g8=>om) (dE (!x0.Neg) [39] (fun g9=>by exact ⟨g9,trivial⟩) (fun g9=>b7 rfl rfl) (Oc (aJ (fun e=>e) rfl rfl rfl rfl) (Oc oa ?_)))
   refine ae.aj ⟨[(4,_),(34,B ((!x0.Neg) && (decide (x_4 < 9223372036854775808))))],[]⟩ rfl (ab.ite h rfl (fun _ h=>?_) (fun _ h=>?_))
   ·refine ab.seq (ab.aa ?_)
    refine Oc om (Oc (az bJ pQ rfl) (Oc oa (Oc oa ?_)))
    refine ae.aj ⟨[(2,I (IntKind.i64.wrap x_4)),(3,B true)],[]⟩ rfl (ab.ret (Fin.cL (Fin.aI ?_)))
    obtain rfl:=Option.some.inj h
    refine Fin.ah ⟨[(2,_),(3,_)],[]⟩ rfl (Fin.ay [.one (.i (IntKind.i64.wrap x_4)),.one (.bool true)] (.inl rfl) rfl (.cons (.tmp rfl) (.cons (.tmp rfl) .nil)) ⟨rfl,rfl⟩)
   ·refine ab.skip (Fin.aC (Fin.ah ⟨[],[]⟩ rfl (Fin.then (ab.seq (ab.aa ?_)))))
    refine Oc oa (Oc oa ?_)
    refine ae.aj ⟨[(2,I 0),(3,B false)],[]⟩ rfl (ab.ret ?_)
    obtain rfl:=Option.some.inj h
    refine Fin.ah ⟨[(2,_),(3,_)],[]⟩ rfl (Fin.ay [.one (.i 0),.one (.bool false)] (.inl rfl) rfl (.cons (.tmp rfl) (.cons (.tmp rfl) .nil)) ⟨rfl,rfl⟩)
def oU (F:Nat) (a0:cV) (b0:cV):Option cV :=
 (oV F b0).bind fun x_1=>(nk F a0 x_1).bind fun x_2=>some x_2
theorem zh {F:Nat} {a0:cV} {b0:cV} {r:cV} (h:oU F a0 b0 = some r):ax Tryz.prog (bh mx) 147 [] [.agg (au a0),.agg (au b0)] (Is [] (.b (.agg (au r)))):=by
 unfold oU at h
 refine ax.intro 9 Tryz.func147 Tryz.ntmps147 rfl (by simp) fun E=>?_
 show ab _ E ⟨9,[],[],[]⟩ _ ⟨[(0,.b (.agg (au a0))),(1,.b (.agg (au b0)))],[]⟩ _
 refine ab.seq (ab.aa ?_)
 refine Oc (bM (k:=101) rfl rfl) (Oc (bM (k:=102) rfl rfl) (Oc (aA (k:=103) bP rfl) ?_))
 refine ae.aj ⟨[(2,Pt 101 0),(3,Pt 102 0),(4,Pt 103 0)],[(101,.box 35 (au a0)),(102,.box 35 (au b0)),(103,.box 35 dF)]⟩ rfl (ab.seq ?_)
 obtain ⟨x_1,e1,h⟩:=aO h
 obtain ⟨x_2,e2,h⟩:=aO h
 refine ab.bR mixed 4 [.b (.agg (au a0)),.b (.agg (au b0)),.b (.agg (au x_1)),.b (.agg (au x_2))] [4] [103] (s':=⟨[(4,_)],[(103,.box 35 (au x_2))]⟩) rfl ⟨fun _=>.p (lp an),fun _=>.p (lp an),fun _=>.p (ag (uq e1) CE rfl rfl),fun _=>.p (ag (qn e2) yY rfl rfl),trivial⟩ ⟨_,by exact .p (ao an rfl rfl rfl rfl (Nat.le_of_ble_eq_true rfl) rfl),rfl⟩ rfl (ab.ret ?_)
 obtain rfl:=Option.some.inj h
 refine Fin.ah ⟨[(4,_)],[(103,_)]⟩ rfl (Fin.ay [.agg (au x_2)] (.inl rfl) rfl (.cons (.agg an rfl rfl rfl rfl) .nil) ⟨rfl,rfl⟩)
def km (F:Nat) (a0:cV) (b0:cV):Option (cV × cV) :=
 (ew F [a0,b0]).bind fun x_1=>(bx (!(!x_1)) (iB F b0)).bind fun x_2=>if ((!x_1) || (decide (x_2 = 0))) = true then ((fm F).bind fun x_3=>(fm F).bind fun x_4=>some (x_3,x_4)) else (Option.bind (Option.bind (iS F a0) (cF fun x_5 x_6=>if (x_6 && (decide (x_5 ≠ (-9223372036854775808)))) = true then (Option.bind (iS F b0) (cF fun x_7 x_8=>if (x_8 && (decide (x_7 ≠ (-9223372036854775808)))) = true then ((tA .i64 x_5 x_7).bind fun x_9=>(vT x_5 x_7).bind fun x_10=>Option.bind (cu ((decide (x_10 ≠ 0)) && ((decide (x_10 < 0)) != (decide (x_7 < 0)))) fun x_13=>if x_13 = true then (some (IntKind.i64.wrap (x_9 - 1),IntKind.i64.wrap (x_10 + x_7))) else (some (x_9,x_10))) (cF fun q_11 r_12=>(iL F q_11).bind fun x_14=>(iL F r_12).bind fun x_15=>some (.inr (x_14,x_15)))) else (some (.inl ())))) else (some (.inl ())))) (eh (fun _=>Option.bind (hX F a0.W b0.W) (cF fun x_16 x_17=>(cH F (a0.Neg != b0.Neg) x_16).bind fun x_18=>Option.bind (if ((decide (x_17 ≠ aT.zero)) && (a0.Neg != b0.Neg)) = true then ((iL F 1).bind fun x_21=>(oU F x_18 x_21).bind fun x_22=>(iR F b0.W x_17).bind fun x_23=>some (x_23,x_22)) else (some (x_17,x_18))) (cF fun r_19 q_20=>(cH F b0.Neg r_19).bind fun x_24=>some (q_20,x_24)))) (fun y=>some y)))
theorem uS {F:Nat} {a0:cV} {b0:cV} {r:cV × cV} (h:km F a0 b0 = some r):ax Tryz.prog (bh mx) 107 [] [.agg (au a0),.agg (au b0)] (Is [] (.fG [.agg (au r.1),.agg (au r.2)])):=by
 unfold km at h
 refine ax.intro 108 Tryz.func107 Tryz.ntmps107 rfl (by simp) fun E=>?_
 show ab _ E ⟨108,[],[],[]⟩ _ ⟨[(0,.b (.agg (au a0))),(1,.b (.agg (au b0)))],[]⟩ _
 refine ab.seq (ab.aa ?_)
 refine Oc (bM (k:=101) rfl rfl) (Oc (bM (k:=102) rfl rfl) (Oc (aA (k:=103) bP rfl) (Oc (aA (k:=104) bP rfl) ?_)))
 refine ae.aj ⟨[(2,Pt 101 0),(3,Pt 102 0),(4,Pt 103 0),(5,Pt 104 0)],[(101,.box 35 (au a0)),(102,.box 35 (au b0)),(103,.box 35 dF),(104,.box 35 dF)]⟩ rfl (ab.seq (ab.seq (ab.aa ?_)))
 refine Oc (lp an) (Oc (lp an) (Oc (bp (k:=105) (es:=[a0,b0].map au) jW rfl rfl (cZ fun _=>rfl) rfl (by decide) (by decide) rfl) ?_))
 obtain ⟨x_1,e1,h⟩:=aO h
 refine Oc (fY (fc e1) kL rfl CP.gk) (ae.ah ⟨[(2,_),(3,_),(4,_),(5,_),(18,B x_1)],[(101,_),(102,_),(103,_),(104,_)]⟩ rfl (Oc (cX rfl) (Oc om ?_)))
 refine fU (!(!x_1)) [] (fun g2=>trivial) (fun g2=>lp an) ?_
 obtain ⟨x_2,e4,h⟩:=aO h
 refine fU (!(!x_1)) [21] (fun g3=>⟨g3,trivial⟩) (fun g3=>ag (lS (gc e4 g3)) we rfl rfl) (fU (!(!x_1)) [22] (fun g5=>⟨g5,trivial⟩) (fun g5=>c9 rfl rfl) (Oc (bt (fun e=>by first | (rw [e]; rfl) | (simp only at e; rw [e]; rfl)) rfl rfl rfl rfl) (ae.aj ⟨[(2,_),(3,_),(4,_),(5,_),(24,B ((!x_1) || (decide (x_2 = 0))))],[(101,_),(102,_),(103,_),(104,_)]⟩ rfl (ab.ite h rfl (fun _ h=>?_) (fun _ h=>?_)))))
 ·refine ab.seq (ab.aa ?_)
  obtain ⟨x_3,e6,h⟩:=aO h
  refine Oc (ag (dB e6) jD rfl rfl) ?_
  obtain ⟨x_4,e7,h⟩:=aO h
  refine Oc (ag (dB e7) jD rfl rfl) (Oc (ao an rfl rfl rfl rfl (Nat.le_of_ble_eq_true rfl) rfl) (Oc (ao an rfl rfl rfl rfl (Nat.le_of_ble_eq_true rfl) rfl) ?_))
  refine ae.aj ⟨[(4,_),(5,_)],[(103,.box 35 (au x_3)),(104,.box 35 (au x_4))]⟩ rfl (ab.ret (Fin.aI ?_))
  obtain rfl:=Option.some.inj h
  refine Fin.ah ⟨[(4,_),(5,_)],[(103,_),(104,_)]⟩ rfl (Fin.ay [.agg (au x_3),.agg (au x_4)] (.inl rfl) rfl (.cons (.agg an rfl rfl rfl rfl) (.cons (.agg an rfl rfl rfl rfl) .nil)) ⟨rfl,rfl⟩)
 ·refine ab.skip (Fin.ah ⟨[(2,_),(3,_),(4,_),(5,_)],[(101,_),(102,_),(103,_),(104,_)]⟩ rfl (Fin.then ?_))
  obtain ⟨v8,h9,h⟩:=aO h
  refine ab.cN (v:=v8) (fun (_:Unit)=>⟨[(2,Pt 101 0),(3,Pt 102 0),(4,Pt 103 0),(5,Pt 104 0)],[(101,.box 35 (au a0)),(102,.box 35 (au b0)),(103,.box 35 dF),(104,.box 35 dF)]⟩) (fun z=>.inl z) ?_ ?_
  ·refine ab.seq (ab.aa ?_)
   refine Oc (lp an) ?_
   obtain ⟨⟨x_5,x_6⟩,e10,h9⟩:=aO h9
   refine Oc (ag (ri e10) Au rfl rfl) (Oc om (Oc (aF rfl rfl) (Oc (aF rfl rfl) (Oc oa (Oc oa ?_)))))
   refine ae.aj ⟨[(2,_),(3,_),(4,_),(5,_),(6,I x_5),(7,B x_6)],[(101,_),(102,_),(103,_),(104,_)]⟩ rfl (ab.seq (ab.aa ?_))
   refine Oc om (Oc om ?_)
   refine dE x_6 [] (fun g11=>trivial) (fun g11=>om) (dE x_6 [34] (fun g12=>by exact ⟨g12,trivial⟩) (fun g12=>dU rfl rfl) (Oc (aJ (fun e=>e) rfl rfl rfl rfl) (ae.aj ⟨[(2,_),(3,_),(4,_),(5,_),(6,_),(36,B (x_6 && (decide (x_5 ≠ (-9223372036854775808)))))],[(101,_),(102,_),(103,_),(104,_)]⟩ rfl (ab.ite h9 rfl (fun _ h9=>?_) (fun _ h9=>?_)))))
   ·refine ab.seq (ab.aa ?_)
    refine Oc (lp an) ?_
    obtain ⟨⟨x_7,x_8⟩,e13,h9⟩:=aO h9
    refine Oc (ag (ri e13) Au rfl rfl) (Oc om (Oc (aF rfl rfl) (Oc (aF rfl rfl) (Oc oa (Oc oa ?_)))))
    refine ae.aj ⟨[(2,_),(3,_),(4,_),(5,_),(6,_),(8,I x_7),(9,B x_8)],[(101,_),(102,_),(103,_),(104,_)]⟩ rfl (ab.seq (ab.aa ?_))
    refine Oc om (Oc om ?_)
    refine dE x_8 [] (fun g14=>trivial) (fun g14=>om) (dE x_8 [44] (fun g15=>by exact ⟨g15,trivial⟩) (fun g15=>dU rfl rfl) (Oc (aJ (fun e=>e) rfl rfl rfl rfl) (ae.aj ⟨[(2,_),(3,_),(4,_),(5,_),(6,_),(8,_),(46,B (x_8 && (decide (x_7 ≠ (-9223372036854775808)))))],[(101,_),(102,_),(103,_),(104,_)]⟩ rfl (ab.ite h9 rfl (fun _ h9=>?_) (fun _ h9=>?_)))))
    ·refine ab.seq (ab.ah ⟨[(4,_),(5,_),(6,_),(8,_)],[(103,_),(104,_)]⟩ rfl ?_)
     obtain ⟨x_9,e16,h9⟩:=aO h9
     obtain ⟨x_10,e17,h9⟩:=aO h9
     refine ab.bR mixed 8 [I x_5,I x_7,I x_9,I x_5,I x_7,I x_10,I x_9,I x_10] [4,5,8,10,11] [103,104] (s':=⟨[(4,_),(5,_),(8,_),(10,I x_9),(11,I x_10)],[(103,_),(104,_)]⟩) rfl ⟨fun _=>.p om,fun _=>.p om,fun _=>.p (qM e16 rfl rfl),fun _=>.p om,fun _=>.p om,fun _=>.p (ti e17 rfl rfl),fun _=>.p oa,fun _=>.p oa,trivial⟩ rfl rfl ?_
     obtain ⟨v18,h19,h9⟩:=aO h9
     refine ab.cN (v:=v18) (cF fun (q_11:Int) (r_12:Int)=>⟨[(4,Pt 103 0),(5,Pt 104 0),(10,I q_11),(11,I r_12)],[(103,.box 35 dF),(104,.box 35 dF)]⟩) (fun z=>z) ?_ ?_
     ·refine ab.seq (ab.aa ?_)
      refine Oc om (Oc (dU rfl rfl) (Oc om ?_))
      refine dE (decide (x_10 ≠ 0)) [] (fun g20=>trivial) (fun g20=>om) (dE (decide (x_10 ≠ 0)) [56] (fun g21=>by exact ⟨g21,trivial⟩) (fun g21=>b7 rfl rfl) (dE (decide (x_10 ≠ 0)) [] (fun g22=>by exact trivial) (fun g22=>om) (dE (decide (x_10 ≠ 0)) [58] (fun g23=>by exact ⟨g23,trivial⟩) (fun g23=>b7 rfl rfl) (dE (decide (x_10 ≠ 0)) [57,59] (fun g24=>by exact ⟨g24,g24,trivial⟩) (fun g24=>lU B2 rfl rfl) (ae.lK h19 rfl (aJ (fun e=>e) rfl rfl rfl rfl) (fun x_13 h19=>?_))))))
      refine ae.aj ⟨[(4,_),(5,_),(8,_),(10,_),(11,_),(61,B x_13)],[(103,_),(104,_)]⟩ rfl (ab.ite h19 rfl (fun _ h19=>?_) (fun _ h19=>?_))
      ·refine ab.aa (Oc om (Oc (cR rfl rfl) (Oc om (Oc om (Oc (aW rfl rfl) (Oc oa ?_))))))
       refine Oc oa (ae.nil ?_)
       exact Fin.join [4,5,10,11] [103,104] (IntKind.i64.wrap (x_9 - 1),IntKind.i64.wrap (x_10 + x_7)) (Option.some.inj h19) rfl
      ·refine ab.skip ?_
       exact Fin.join [4,5,10,11] [103,104] (x_9,x_10) (Option.some.inj h19) rfl
     ·rintro ⟨q_11,r_12⟩ hv
      subst v18
      refine ab.seq (ab.aa ?_)
      refine Oc om ?_
      obtain ⟨x_14,e25,h9⟩:=aO h9
      refine Oc (ag (fZ e25) me rfl rfl) (Oc om ?_)
      refine ae.ah ⟨[(4,_),(5,_),(68,.b (.agg (au x_14))),(69,I r_12)],[(103,_),(104,_)]⟩ rfl ?_
      obtain ⟨x_15,e26,h9⟩:=aO h9
      refine Oc (ag (fZ e26) me rfl rfl) (Oc (ao an rfl rfl rfl rfl (Nat.le_of_ble_eq_true rfl) rfl) (Oc (ao an rfl rfl rfl rfl (Nat.le_of_ble_eq_true rfl) rfl) ?_))
      refine ae.aj ⟨[(4,_),(5,_)],[(103,.box 35 (au x_14)),(104,.box 35 (au x_15))]⟩ rfl (ab.ret ?_)
      obtain rfl:=Option.some.inj h9
      refine Fin.aI ?_
      obtain rfl:=Option.some.inj h
      refine Fin.ah ⟨[(4,_),(5,_)],[(103,_),(104,_)]⟩ rfl (Fin.ay [.agg (au x_14),.agg (au x_15)] (.inl rfl) rfl (.cons (.agg an rfl rfl rfl rfl) (.cons (.agg an rfl rfl rfl rfl) .nil)) ⟨rfl,rfl⟩)
    ·refine ab.skip ?_
     exact Fin.join [2,3,4,5] [101,102,103,104] () (Option.some.inj h9) rfl
   ·refine ab.skip ?_
    exact Fin.join [2,3,4,5] [101,102,103,104] () (Option.some.inj h9) rfl
  ·rintro _ hv
   subst v8
   refine ab.seq (ab.aa ?_)
   refine Oc (af ba rfl rfl) (Oc (lp aD) (Oc (af ba rfl rfl) (Oc (lp aD) ?_)))
   obtain ⟨⟨x_16,x_17⟩,e27,h⟩:=aO h
   refine Oc (ag (n6 e27) Az rfl rfl) (ae.ah ⟨[(2,_),(3,_),(4,_),(5,_),(76,.fG [.agg (eW x_16),.agg (eW x_17)])],[(101,_),(102,_),(103,_),(104,_)]⟩ rfl (Oc om (Oc (aF rfl rfl) (Oc (aF rfl rfl) (Oc (aA (k:=106) cP rfl) (Oc (aA (k:=107) cP rfl) (Oc (ao aD rfl rfl rfl rfl (Nat.le_of_ble_eq_true rfl) rfl) ?_)))))))
   refine Oc (ao aD rfl rfl rfl rfl (Nat.le_of_ble_eq_true rfl) rfl) (ae.aj ⟨[(2,_),(3,_),(4,_),(5,_),(12,Pt 106 0),(13,Pt 107 0)],[(101,_),(102,_),(103,_),(104,_),(106,.box 33 (eW x_16)),(107,.box 33 (eW x_17))]⟩ rfl (ab.seq (ab.aa ?_)))
   refine Oc (af c6 rfl rfl) (Oc (aq dG rfl rfl rfl) (Oc (af c6 rfl rfl) (Oc (aq dG rfl rfl rfl) (Oc (lU B2 rfl rfl) (Oc (lp aD) ?_)))))
   refine ae.ah ⟨[(2,_),(3,_),(4,_),(5,_),(13,_),(83,B (a0.Neg != b0.Neg)),(84,.b (.agg (eW x_16)))],[(101,_),(102,_),(103,_),(104,_),(107,_)]⟩ rfl ?_
   obtain ⟨x_18,e28,h⟩:=aO h
   refine Oc (ag (cC e28) jC rfl rfl) (Oc (aA (k:=108) bP rfl) (Oc (ao an rfl rfl rfl rfl (Nat.le_of_ble_eq_true rfl) rfl) ?_))
   refine ae.aj ⟨[(2,_),(3,_),(4,_),(5,_),(13,_),(14,Pt 108 0)],[(101,_),(102,_),(103,_),(104,_),(107,_),(108,.box 35 (au x_18))]⟩ rfl ?_
   obtain ⟨v29,h30,h⟩:=aO h
   refine ab.cN (v:=v29) (cF fun (r_19:aT) (q_20:cV)=>⟨[(3,Pt 102 0),(4,Pt 103 0),(5,Pt 104 0),(13,Pt 107 0),(14,Pt 108 0)],[(102,.box 35 (au b0)),(103,.box 35 dF),(104,.box 35 dF),(107,.box 33 (eW r_19)),(108,.box 35 (au q_20))]⟩) (fun z=>z) ?_ ?_
   ·refine ab.seq (ab.aa ?_)
    refine Oc (lp aD) (Oc (gg gf rfl rfl) (Oc (lq (po x_17 aT.zero) rfl rfl qN) (Oc om ?_)))
    refine dE (decide (x_17 ≠ aT.zero)) [] (fun g31=>trivial) (fun g31=>af c6 rfl rfl) (dE (decide (x_17 ≠ aT.zero)) [90] (fun g32=>⟨g32,trivial⟩) (fun g32=>aq dG rfl rfl rfl) (dE (decide (x_17 ≠ aT.zero)) [] (fun g33=>trivial) (fun g33=>af c6 rfl rfl) (ae.ah ⟨[(3,_),(4,_),(5,_),(13,_),(14,_),(89,B (decide (x_17 ≠ aT.zero))),(91,.opt (decide (x_17 ≠ aT.zero)) (.one (.bool a0.Neg))),(92,.opt (decide (x_17 ≠ aT.zero)) (.ptr 102 1))],[(102,_),(103,_),(104,_),(107,_),(108,_)]⟩ rfl (dE (decide (x_17 ≠ aT.zero)) [92] (fun g34=>⟨g34,trivial⟩) (fun g34=>aq dG rfl rfl rfl) (dE (decide (x_17 ≠ aT.zero)) [91,93] (fun g35=>⟨g35,g35,trivial⟩) (fun g35=>lU B2 rfl rfl) ?_)))))
    refine Oc (aJ (fun e=>e) rfl rfl rfl rfl) (ae.aj ⟨[(3,_),(4,_),(5,_),(13,_),(14,_),(95,B ((decide (x_17 ≠ aT.zero)) && (a0.Neg != b0.Neg)))],[(102,_),(103,_),(104,_),(107,_),(108,_)]⟩ rfl (ab.ite h30 rfl (fun _ h30=>?_) (fun _ h30=>?_)))
    ·refine ab.ah ⟨[(3,_),(4,_),(5,_),(13,_),(14,_)],[(102,_),(103,_),(104,_),(107,_),(108,_)]⟩ rfl ?_
     obtain ⟨x_21,e36,h30⟩:=aO h30
     obtain ⟨x_22,e37,h30⟩:=aO h30
     obtain ⟨x_23,e38,h30⟩:=aO h30
     refine ab.k7 mixed 7 [.b (.agg (au x_18)),.b (.agg (au x_21)),.b (.agg (au x_22)),Pt 102 2,.b (.agg (eW b0.W)),.b (.agg (eW x_17)),.b (.agg (eW x_23))] [3,4,5,13,14] [102,103,104,107,108] (s':=⟨[(3,_),(4,_),(5,_),(13,_),(14,_)],[(102,_),(103,_),(104,_),(107,.box 33 (eW x_23)),(108,.box 35 (au x_22))]⟩) rfl ⟨fun _=>.p (lp an),fun _=>.p (ag (fZ e36) me rfl rfl),fun _=>.p (ag (zh e37) goes147 rfl rfl),fun _=>.p (af ba rfl rfl),fun _=>.p (lp aD),fun _=>.p (lp aD),fun _=>.p (ag (nK e38) wH rfl rfl),trivial⟩ ⟨_,by exact .p (ao an rfl rfl rfl rfl (Nat.le_of_ble_eq_true rfl) rfl),⟨_,by exact .p (ao aD rfl rfl rfl rfl (Nat.le_of_ble_eq_true rfl) rfl),rfl⟩⟩ rfl ?_
     exact Fin.join [3,4,5,13,14] [102,103,104,107,108] (x_23,x_22) (Option.some.inj h30) rfl
    ·refine ab.skip ?_
     exact Fin.join [3,4,5,13,14] [102,103,104,107,108] (x_17,x_18) (Option.some.inj h30) rfl
   ·rintro ⟨r_19,q_20⟩ hv
    subst v29
    refine ab.seq (ab.ah ⟨[(3,_),(4,_),(5,_),(13,_),(14,_)],[(102,_),(103,_),(104,_),(107,_),(108,_)]⟩ rfl ?_)
    obtain ⟨x_24,e39,h⟩:=aO h
    refine ab.bR mixed 5 [.b (.agg (au q_20)),Pt 102 1,B b0.Neg,.b (.agg (eW r_19)),.b (.agg (au x_24))] [4,5] [103,104] (s':=⟨[(4,_),(5,_)],[(103,.box 35 (au q_20)),(104,.box 35 (au x_24))]⟩) rfl ⟨fun _=>.p (lp an),fun _=>.p (af c6 rfl rfl),fun _=>.p (aq dG rfl rfl rfl),fun _=>.p (lp aD),fun _=>.p (ag (cC e39) jC rfl rfl),trivial⟩ ⟨_,by exact .p (ao an rfl rfl rfl rfl (Nat.le_of_ble_eq_true rfl) rfl),⟨_,by exact .p (ao an rfl rfl rfl rfl (Nat.le_of_ble_eq_true rfl) rfl),rfl⟩⟩ rfl (ab.ret ?_)
    obtain rfl:=Option.some.inj h
    refine Fin.ah ⟨[(4,_),(5,_)],[(103,_),(104,_)]⟩ rfl (Fin.ay [.agg (au q_20),.agg (au x_24)] (.inl rfl) rfl (.cons (.agg an rfl rfl rfl rfl) (.cons (.agg an rfl rfl rfl rfl) .nil)) ⟨rfl,rfl⟩)
def kH (F:Nat) (a0:cV) (b0:cV):Option cV :=
 Option.bind (km F a0 b0) (cF fun x_1 x_2=>some x_1)
theorem fh {F:Nat} {a0:cV} {b0:cV} {r:cV} (h:kH F a0 b0 = some r):ax Tryz.prog (bh mx) 52 [] [.agg (au a0),.agg (au b0)] (Is [] (.b (.agg (au r)))):=by
 unfold kH at h
 refine ax.intro 14 Tryz.func52 Tryz.ntmps52 rfl (by simp) fun E=>?_
 show ab _ E ⟨14,[],[],[]⟩ _ ⟨[(0,.b (.agg (au a0))),(1,.b (.agg (au b0)))],[]⟩ _
 refine ab.seq (ab.aa ?_)
 refine Oc (bM (k:=101) rfl rfl) (Oc (bM (k:=102) rfl rfl) (Oc (aA (k:=103) bP rfl) ?_))
 refine ae.aj ⟨[(2,Pt 101 0),(3,Pt 102 0),(4,Pt 103 0)],[(101,.box 35 (au a0)),(102,.box 35 (au b0)),(103,.box 35 dF)]⟩ rfl (ab.seq (ab.aa ?_))
 refine Oc (lp an) (Oc (lp an) ?_)
 obtain ⟨⟨x_1,x_2⟩,e1,h⟩:=aO h
 refine Oc (ag (uS e1) goes107 rfl rfl) (Oc om (Oc (aF rfl rfl) ?_))
 refine ae.ah ⟨[(4,_),(7,.fG [.agg (au x_1),.agg (au x_2)]),(11,.b (.agg (au x_1)))],[(103,_)]⟩ rfl (Oc (aF rfl rfl) (Oc (aA (k:=104) bP rfl) (Oc (aA (k:=105) bP rfl) (Oc (ao an rfl rfl rfl rfl (Nat.le_of_ble_eq_true rfl) rfl) (Oc (ao an rfl rfl rfl rfl (Nat.le_of_ble_eq_true rfl) rfl) ?_)))))
 refine ae.aj ⟨[(4,_),(5,Pt 104 0)],[(103,_),(104,.box 35 (au x_1))]⟩ rfl (ab.seq (ab.aa ?_))
 refine Oc (lp an) (Oc (ao an rfl rfl rfl rfl (Nat.le_of_ble_eq_true rfl) rfl) ?_)
 refine ae.aj ⟨[(4,_)],[(103,.box 35 (au x_1))]⟩ rfl (ab.ret ?_)
 obtain rfl:=Option.some.inj h
 refine Fin.ah ⟨[(4,_)],[(103,_)]⟩ rfl (Fin.ay [.agg (au x_1)] (.inl rfl) rfl (.cons (.agg an rfl rfl rfl rfl) .nil) ⟨rfl,rfl⟩)
def fW (F:Nat) (n0:cV) (d0:cV):Option gS :=
 (kf F n0).bind fun x_1=>(bx (!(!x_1)) (kf F d0)).bind fun x_2=>(bx (!((!x_1) || (!x_2))) (iB F d0)).bind fun x_3=>if (((!x_1) || (!x_2)) || (decide (x_3 = 0))) = true then ((kJ F).bind fun x_4=>some x_4) else ((oW F n0 d0).bind fun x_5=>Option.bind ((iB F d0).bind fun x_7=>if (decide (x_7 < 0)) = true then ((oV F x_5).bind fun x_8=>some x_8) else (some x_5)) (fun g_6=>(kH F n0 g_6).bind fun x_9=>(kH F d0 g_6).bind fun x_10=>some (⟨x_9,x_10⟩:gS)))
theorem dc {F:Nat} {n0:cV} {d0:cV} {r:gS} (h:fW F n0 d0 = some r):ax Tryz.prog (bh mx) 35 [] [.agg (au n0),.agg (au d0)] (Is [] (.b (.agg (aR r)))):=by
 unfold fW at h
 refine ax.intro 35 Tryz.func35 Tryz.ntmps35 rfl (by simp) fun E=>?_
 show ab _ E ⟨35,[],[],[]⟩ _ ⟨[(0,.b (.agg (au n0))),(1,.b (.agg (au d0)))],[]⟩ _
 refine ab.seq (ab.aa ?_)
 refine Oc (bM (k:=101) rfl rfl) (Oc (bM (k:=102) rfl rfl) (Oc (aA (k:=103) dy rfl) ?_))
 refine ae.aj ⟨[(2,Pt 101 0),(3,Pt 102 0),(4,Pt 103 0)],[(101,.box 35 (au n0)),(102,.box 35 (au d0)),(103,.box 37 gl)]⟩ rfl (ab.seq (ab.seq (ab.aa ?_)))
 refine Oc (lp an) ?_
 obtain ⟨x_1,e1,h⟩:=aO h
 refine Oc (ag (lT e1) wg rfl rfl) (Oc (cX rfl) (Oc om ?_))
 refine fU (!(!x_1)) [] (fun g2=>trivial) (fun g2=>lp an) (ae.ah ⟨[(2,_),(3,_),(4,_),(9,B (!x_1)),(10,.opt (!(!x_1)) (.agg (au d0)))],[(101,_),(102,_),(103,_)]⟩ rfl ?_)
 obtain ⟨x_2,e4,h⟩:=aO h
 refine fU (!(!x_1)) [10] (fun g3=>⟨g3,trivial⟩) (fun g3=>ag (lT (gc e4 g3)) wg rfl rfl) (fU (!(!x_1)) [11] (fun g5=>⟨g5,trivial⟩) (fun g5=>cX rfl) (Oc (bt (fun e=>by first | (rw [e]; rfl) | (simp only at e; rw [e]; rfl)) rfl rfl rfl rfl) (Oc om ?_)))
 refine fU (!((!x_1) || (!x_2))) [] (fun g6=>trivial) (fun g6=>lp an) ?_
 obtain ⟨x_3,e8,h⟩:=aO h
 refine fU (!((!x_1) || (!x_2))) [15] (fun g7=>⟨g7,trivial⟩) (fun g7=>ag (lS (gc e8 g7)) we rfl rfl) (fU (!((!x_1) || (!x_2))) [16] (fun g9=>⟨g9,trivial⟩) (fun g9=>c9 rfl rfl) (Oc (bt (fun e=>by first | (rw [e]; rfl) | (simp only at e; rw [e]; rfl)) rfl rfl rfl rfl) (ae.aj ⟨[(2,_),(3,_),(4,_),(18,B (((!x_1) || (!x_2)) || (decide (x_3 = 0))))],[(101,_),(102,_),(103,_)]⟩ rfl (ab.ite h rfl (fun _ h=>?_) (fun _ h=>?_)))))
 ·refine ab.seq (ab.aa ?_)
  obtain ⟨x_4,e10,h⟩:=aO h
  refine Oc (ag (lj e10) tQ rfl rfl) (Oc (ao bc rfl rfl rfl rfl (Nat.le_of_ble_eq_true rfl) rfl) ?_)
  refine ae.aj ⟨[(4,_)],[(103,.box 37 (aR x_4))]⟩ rfl (ab.ret (Fin.aI ?_))
  obtain rfl:=Option.some.inj h
  refine Fin.ah ⟨[(4,_)],[(103,_)]⟩ rfl (Fin.ay [.agg (aR x_4)] (.inl rfl) rfl (.cons (.agg bc rfl rfl rfl rfl) .nil) ⟨rfl,rfl⟩)
 ·refine ab.skip (Fin.ah ⟨[(2,_),(3,_),(4,_)],[(101,_),(102,_),(103,_)]⟩ rfl (Fin.then (ab.seq (ab.aa ?_))))
  refine Oc (lp an) (Oc (lp an) ?_)
  obtain ⟨x_5,e11,h⟩:=aO h
  refine Oc (ag (qm e11) wh rfl rfl) (Oc (aA (k:=104) bP rfl) (Oc (ao an rfl rfl rfl rfl (Nat.le_of_ble_eq_true rfl) rfl) ?_))
  refine ae.aj ⟨[(2,_),(3,_),(4,_),(5,Pt 104 0)],[(101,_),(102,_),(103,_),(104,.box 35 (au x_5))]⟩ rfl ?_
  obtain ⟨v12,h13,h⟩:=aO h
  refine ab.cN (v:=v12) (fun (g_6:cV)=>⟨[(2,Pt 101 0),(3,Pt 102 0),(4,Pt 103 0),(5,Pt 104 0)],[(101,.box 35 (au n0)),(102,.box 35 (au d0)),(103,.box 37 gl),(104,.box 35 (au g_6))]⟩) (fun z=>z) ?_ ?_
  ·refine ab.seq (ab.aa ?_)
   refine Oc (lp an) ?_
   obtain ⟨x_7,e14,h13⟩:=aO h13
   refine Oc (ag (lS e14) we rfl rfl) (Oc (b7 rfl rfl) ?_)
   refine ae.aj ⟨[(2,_),(3,_),(4,_),(5,_),(25,B (decide (x_7 < 0)))],[(101,_),(102,_),(103,_),(104,_)]⟩ rfl (ab.ite h13 rfl (fun _ h13=>?_) (fun _ h13=>?_))
   ·refine ab.aa (Oc (lp an) ?_)
    obtain ⟨x_8,e15,h13⟩:=aO h13
    refine Oc (ag (uq e15) CE rfl rfl) (Oc (ao an rfl rfl rfl rfl (Nat.le_of_ble_eq_true rfl) rfl) ?_)
    refine ae.nil ?_
    exact Fin.join [2,3,4,5] [101,102,103,104] x_8 (Option.some.inj h13) rfl
   ·refine ab.skip ?_
    exact Fin.join [2,3,4,5] [101,102,103,104] x_5 (Option.some.inj h13) rfl
  ·rintro g_6 hv
   subst v12
   refine ab.seq (ab.ah ⟨[(2,_),(3,_),(4,_),(5,_)],[(101,_),(102,_),(103,_),(104,_)]⟩ rfl ?_)
   obtain ⟨x_9,e16,h⟩:=aO h
   obtain ⟨x_10,e17,h⟩:=aO h
   refine ab.bR mixed 7 [.b (.agg (au n0)),.b (.agg (au g_6)),.b (.agg (au x_9)),.b (.agg (au d0)),.b (.agg (au g_6)),.b (.agg (au x_10)),.b (.agg (au x_9 ++ (au x_10)))] [4] [103] (s':=⟨[(4,_)],[(103,.box 37 (au x_9 ++ (au x_10)))]⟩) rfl ⟨fun _=>.p (lp an),fun _=>.p (lp an),fun _=>.p (ag (fh e16) mc rfl rfl),fun _=>.p (lp an),fun _=>.p (lp an),fun _=>.p (ag (fh e17) mc rfl rfl),fun _=>.p (bz py rfl rfl),trivial⟩ ⟨_,by exact .p (ao bc rfl rfl rfl rfl (Nat.le_of_ble_eq_true rfl) rfl),rfl⟩ rfl (ab.ret ?_)
   obtain rfl:=Option.some.inj h
   refine Fin.ah ⟨[(4,_)],[(103,_)]⟩ rfl (Fin.ay [.agg (au x_9 ++ (au x_10))] (.inl rfl) rfl (.cons (.agg bc rfl rfl rfl rfl) .nil) ⟨rfl,rfl⟩)
def fk (F:Nat) (t0:Token):Option (gS × Int) :=
 (bx (!(decide (t0.Kind ≠ 3))) (dD F t0)).bind fun x_1=>if ((decide (t0.Kind ≠ 3)) || (!x_1)) = true then (cu (⟨(⟨false,false,aT.zero⟩:cV),(⟨false,false,aT.zero⟩:cV)⟩:gS) fun x_2=>some (x_2,1)) else (Option.bind (j3 F t0.S [46]) (kr fun x_3 x_4 x_5=>(iZ x_3 x_4).bind fun x_6=>(eC F x_6 [48]).bind fun x_7=>Option.bind (if (decide (x_7 = [])) = true then (some [48]) else (some x_7)) (fun all_8=>Option.bind (gY F all_8) (cF fun x_9 x_10=>(im F [48] (x_4.length:Int)).bind fun x_11=>(iZ [49] x_11).bind fun x_12=>Option.bind (gY F x_12) (cF fun x_13 x_14=>(fW F x_9 x_13).bind fun x_15=>some (x_15,0))))))
theorem jR {F:Nat} {t0:Token} {r:gS × Int} (h:fk F t0 = some r):ax Tryz.prog (bh mx) 11 [] [.agg (aE t0)] (Is [] (.fG [.agg (aR r.1),.one (.i r.2)])):=by
 unfold fk at h
 refine ax.intro 50 Tryz.func11 Tryz.ntmps11 rfl (by simp) fun E=>?_
 show ab _ E ⟨50,[],[],[]⟩ _ ⟨[(0,.b (.agg (aE t0)))],[]⟩ _
 refine ab.seq (ab.aa ?_)
 refine Oc (bM (k:=101) rfl rfl) (Oc (aA (k:=102) dy rfl) (Oc oa ?_))
 refine ae.aj ⟨[(1,Pt 101 0),(2,Pt 102 0)],[(101,.box 31 (aE t0)),(102,.box 37 gl)]⟩ rfl (ab.seq (ab.seq (ab.aa ?_)))
 refine Oc (af mN rfl rfl) (Oc (aq b6 rfl rfl rfl) (Oc (dU rfl rfl) (Oc om ?_)))
 refine fU (!(decide (t0.Kind ≠ 3))) [] (fun g1=>trivial) (fun g1=>lp bT) (ae.ah ⟨[(1,_),(2,_),(15,B (decide (t0.Kind ≠ 3))),(16,.opt (!(decide (t0.Kind ≠ 3))) (.agg (aE t0)))],[(101,_),(102,_)]⟩ rfl ?_)
 obtain ⟨x_1,e3,h⟩:=aO h
 refine fU (!(decide (t0.Kind ≠ 3))) [16] (fun g2=>⟨g2,trivial⟩) (fun g2=>ag (kG (gc e3 g2)) CN rfl rfl) (fU (!(decide (t0.Kind ≠ 3))) [17] (fun g4=>⟨g4,trivial⟩) (fun g4=>cX rfl) (Oc (bt (fun e=>by first | (rw [e]; rfl) | (simp only at e; rw [e]; rfl)) rfl rfl rfl rfl) (ae.aj ⟨[(1,_),(2,_),(19,B ((decide (t0.Kind ≠ 3)) || (!x_1)))],[(101,_),(102,_)]⟩ rfl (ab.ite h rfl (fun _ h=>?_) (fun _ h=>?_)))))
 ·refine ab.seq (ab.aa ?_)
  refine ae.vm aR h rfl (bz py rfl rfl) (fun x_2 h=>?_)
  refine Oc (ao bc rfl rfl rfl rfl (Nat.le_of_ble_eq_true rfl) rfl) (Oc oa ?_)
  refine ae.aj ⟨[(2,_),(3,I 1)],[(102,.box 37 (aR x_2))]⟩ rfl (ab.ret (Fin.aI ?_))
  obtain rfl:=Option.some.inj h
  refine Fin.ah ⟨[(2,_),(3,_)],[(102,_)]⟩ rfl (Fin.ay [.agg (aR x_2),.one (.i 1)] (.inl rfl) rfl (.cons (.agg bc rfl rfl rfl rfl) (.cons (.tmp rfl) .nil)) ⟨rfl,rfl⟩)
 ·refine ab.skip (Fin.ah ⟨[(1,_),(2,_)],[(101,_),(102,_)]⟩ rfl (Fin.then (ab.seq (ab.aa ?_))))
  refine Oc (af jF rfl rfl) (Oc (aq cG rfl rfl rfl) ?_)
  obtain ⟨⟨x_3,x_4,x_5⟩,e5,h⟩:=aO h
  refine Oc (ag (sA e5) goes31 rfl rfl) (Oc om (Oc (aF rfl rfl) ?_))
  refine ae.ah ⟨[(2,_),(21,.fG [.one (.str x_3),.one (.str x_4),.one (.bool x_5)]),(25,.b (.one (.str x_3)))],[(102,_)]⟩ rfl (Oc (aF rfl rfl) (Oc (aF rfl rfl) (Oc oa (Oc oa (Oc oa ?_)))))
  refine ae.aj ⟨[(2,_),(4,.b (.one (.str x_3))),(5,.b (.one (.str x_4)))],[(102,_)]⟩ rfl (ab.seq (ab.aa ?_))
  refine Oc om (Oc om ?_)
  obtain ⟨x_6,e6,h⟩:=aO h
  refine Oc (gJ e6 rfl rfl) ?_
  obtain ⟨x_7,e7,h⟩:=aO h
  refine Oc (ag (n8 e7) goes32 rfl rfl) (Oc oa ?_)
  refine ae.aj ⟨[(2,_),(5,_),(7,.b (.one (.str x_7)))],[(102,_)]⟩ rfl ?_
  obtain ⟨v8,h9,h⟩:=aO h
  refine ab.cN (v:=v8) (fun (all_8:Str)=>⟨[(2,Pt 102 0),(5,.b (.one (.str x_4))),(7,.b (.one (.str all_8)))],[(102,.box 37 gl)]⟩) (fun z=>z) ?_ ?_
  ·refine ab.seq (ab.aa ?_)
   refine Oc om (Oc (jN rfl rfl) ?_)
   refine ae.aj ⟨[(2,_),(5,_),(7,_),(33,B (decide (x_7 = [])))],[(102,_)]⟩ rfl (ab.ite h9 rfl (fun _ h9=>?_) (fun _ h9=>?_))
   ·refine ab.aa (Oc oa (ae.nil ?_))
    exact Fin.join [2,5,7] [102] [48] (Option.some.inj h9) rfl
   ·refine ab.skip ?_
    exact Fin.join [2,5,7] [102] x_7 (Option.some.inj h9) rfl
  ·rintro all_8 hv
   subst v8
   refine ab.seq (ab.aa ?_)
   refine Oc om ?_
   obtain ⟨⟨x_9,x_10⟩,e10,h⟩:=aO h
   refine Oc (ag (rj e10) CL rfl rfl) (Oc om (Oc (aF rfl rfl) (Oc (aF rfl rfl) ?_)))
   refine ae.ah ⟨[(2,_),(5,_),(37,.b (.agg (au x_9))),(38,I x_10)],[(102,_)]⟩ rfl (Oc (aA (k:=103) bP rfl) (Oc (ao an rfl rfl rfl rfl (Nat.le_of_ble_eq_true rfl) rfl) (Oc oa ?_)))
   refine ae.aj ⟨[(2,_),(5,_),(8,Pt 103 0)],[(102,_),(103,.box 35 (au x_9))]⟩ rfl (ab.seq (ab.aa ?_))
   refine Oc om (Oc (bS du rfl) ?_)
   obtain ⟨x_11,e11,h⟩:=aO h
   refine Oc (ag (pJ e11) goes34 rfl rfl) ?_
   obtain ⟨x_12,e12,h⟩:=aO h
   refine Oc (gJ e12 rfl rfl) (ae.ah ⟨[(2,_),(8,_),(43,.b (.one (.str x_12)))],[(102,_),(103,_)]⟩ rfl ?_)
   obtain ⟨⟨x_13,x_14⟩,e13,h⟩:=aO h
   refine Oc (ag (rj e13) CL rfl rfl) (Oc om (Oc (aF rfl rfl) (Oc (aF rfl rfl) (Oc (aA (k:=104) bP rfl) (Oc (ao an rfl rfl rfl rfl (Nat.le_of_ble_eq_true rfl) rfl) ?_)))))
   refine Oc oa (ae.aj ⟨[(2,_),(8,_),(10,Pt 104 0)],[(102,_),(103,_),(104,.box 35 (au x_13))]⟩ rfl (ab.seq (ab.aa ?_)))
   refine Oc (lp an) (Oc (lp an) ?_)
   obtain ⟨x_15,e14,h⟩:=aO h
   refine Oc (ag (dc e14) jE rfl rfl) (Oc (ao bc rfl rfl rfl rfl (Nat.le_of_ble_eq_true rfl) rfl) (Oc oa ?_))
   refine ae.aj ⟨[(2,_),(3,I 0)],[(102,.box 37 (aR x_15))]⟩ rfl (ab.ret ?_)
   obtain rfl:=Option.some.inj h
   refine Fin.ah ⟨[(2,_),(3,_)],[(102,_)]⟩ rfl (Fin.ay [.agg (aR x_15),.one (.i 0)] (.inl rfl) rfl (.cons (.agg bc rfl rfl rfl rfl) (.cons (.tmp rfl) .nil)) ⟨rfl,rfl⟩)
def nO (F:Nat) (l0:List Token):Option (Str × Int) :=
 Option.bind (iter F (kr fun parts_3 size_4 x_5=>if (decide (x_5 < (l0.length:Int))) = true then ((aZ l0 x_5).bind fun x_8=>(dD F x_8).bind fun x_9=>if (!x_9) = true then (some (.inr (.inr ([],1)))) else ((eR F x_8).bind fun x_10=>(iZ parts_3 [x_10]).bind fun x_11=>cu (IntKind.i64.wrap ((x_11.length:Int) - 1)) fun x_12=>(aZ x_11 x_12).bind fun x_13=>cu (IntKind.i64.wrap ((x_13.length:Int) + 1)) fun x_14=>some (.inl (x_11,IntKind.i64.wrap (size_4 + x_14),IntKind.i64.wrap (x_5 + 1))))) else (some (.inr (.inl (parts_3,size_4))))) ([],(-1),0)) (eh (cF fun parts_1 size_2=>if (decide (100000 < size_2)) = true then (some ([],2)) else ((oL F parts_1 [32]).bind fun x_15=>some (x_15,0))) (fun y=>some y))
theorem s7 {F:Nat} {l0:List Token} {r:Str × Int} (h:nO F l0 = some r):ax Tryz.prog (bh mx) 9 [] [.one (.sl 3 (l0.map aE))] (Is [] (.fG [.one (.str r.1),.one (.i r.2)])):=by
 unfold nO at h
 refine ax.intro 37 Tryz.func9 Tryz.ntmps9 rfl (by simp) fun E=>?_
 show ab _ E ⟨37,[],[],[]⟩ _ ⟨[(0,.b (.one (.sl 3 (l0.map aE))))],[]⟩ _
 refine ab.seq (ab.aa ?_)
 refine Oc oa (Oc oa ?_)
 refine ae.aj ⟨[(0,.b (.one (.sl 3 (l0.map aE))))],[]⟩ rfl (ab.seq (ab.aa ?_))
 refine Oc oa (ae.aj ⟨[(0,_),(4,.b (.one (.nil)))],[]⟩ rfl (ab.seq (ab.aa ?_)))
 refine Oc oa (ae.aj ⟨[(0,_),(4,_),(5,I (-1))],[]⟩ rfl ?_)
 obtain ⟨v1,h2,h⟩:=aO h
 refine ab.cN (v:=v1) (cF fun (parts_1:List Str) (size_2:Int)=>⟨[(4,.b (.row 103)),(5,I size_2)],[(103,.row 9 1 (parts_1.map eS))]⟩) (fun z=>.inl z) ?_ ?_
 ·refine ab.seq (ab.aa ?_)
  refine Oc om (Oc (cm vf rfl (List.length_map _)) (Oc om ?_))
  refine ae.aj ⟨[(4,_),(5,_),(8,.b (.one (.sl 3 (l0.map aE)))),(9,I (l0.length:Int)),(10,I 0)],[]⟩ rfl (ab.block (ab.l9 4 103 1 9 rfl (by decide) rfl (ab.dM h2 (kr fun (parts_3:List Str) (size_4:Int) (x_5:Int)=>⟨[(4,.b (.row 103)),(5,I size_4),(8,.b (.one (.sl 3 (l0.map aE)))),(9,I (l0.length:Int)),(10,I x_5)],[(103,.row 9 1 (parts_3.map eS))]⟩) [4,5,8,9,10] [103] rfl ?_)))
  rintro ⟨parts_3,size_4,x_5⟩ o3 h4 hy5
  refine ab.seq (ab.aa ?_)
  refine Oc (b7 rfl rfl) (ae.aj ⟨[(4,_),(5,_),(8,_),(9,_),(10,_),(11,B (decide (x_5 < (l0.length:Int))))],[(103,_)]⟩ rfl (ab.seq (ab.ite h4 rfl (fun _ h4=>?_) (fun _ h4=>?_))))
  ·refine ab.skip (Fin.ah ⟨[(4,_),(5,_),(8,_),(9,_),(10,_)],[(103,_)]⟩ rfl (Fin.then (ab.seq (ab.block (ab.seq (ab.aa ?_))))))
   obtain ⟨x_8,e6,h4⟩:=aO h4
   refine Oc (bK fH (bb e6) (dH (e:=aE) e6) rfl rfl) (Oc (pC bT rfl rfl rfl) (Oc (aA (k:=104) gz rfl) (Oc (ao bT rfl rfl rfl rfl (Nat.le_of_ble_eq_true rfl) rfl) ?_)))
   refine ae.aj ⟨[(4,_),(5,_),(7,Pt 104 0),(8,_),(9,_),(10,_)],[(103,_),(104,.box 31 (aE x_8))]⟩ rfl (ab.seq (ab.seq (ab.aa ?_)))
   refine Oc (lp bT) ?_
   obtain ⟨x_9,e7,h4⟩:=aO h4
   refine Oc (ag (kG e7) CN rfl rfl) (Oc (cX rfl) ?_)
   refine ae.aj ⟨[(4,_),(5,_),(7,_),(8,_),(9,_),(10,_),(16,B (!x_9))],[(103,_),(104,_)]⟩ rfl (ab.ite h4 rfl (fun _ h4=>?_) (fun _ h4=>?_))
   ·refine ab.seq (ab.aa ?_)
    refine Oc oa (Oc oa ?_)
    refine ae.aj ⟨[(2,.b (.one (.str []))),(3,I 1)],[]⟩ rfl (ab.ret (Fin.aI (Fin.cL (Fin.aI ?_))))
    obtain rfl:=hy5 _ (Option.some.inj h4).symm
    refine Fin.aI (Fin.cL (Fin.aI ?_))
    obtain rfl:=Option.some.inj h
    refine Fin.ah ⟨[(2,_),(3,_)],[]⟩ rfl (Fin.ay [.one (.str []),.one (.i 1)] (.inl rfl) rfl (.cons (.tmp rfl) (.cons (.tmp rfl) .nil)) ⟨rfl,rfl⟩)
   ·refine ab.skip (Fin.ah ⟨[(4,_),(5,_),(7,_),(8,_),(9,_),(10,_)],[(103,_),(104,_)]⟩ rfl (Fin.then (ab.seq (ab.aa ?_))))
    refine Oc om (Oc (lp bT) ?_)
    obtain ⟨x_10,e8,h4⟩:=aO h4
    refine Oc (ag (ly e8) CM rfl rfl) (Oc (bp (k:=105) (es:=[x_10].map eS) dT rfl rfl (cZ fun _=>rfl) rfl (by decide) (by decide) rfl) ?_)
    obtain ⟨x_11,e9,h4⟩:=aO h4
    refine Oc (fF dT (sJ e9) (sI e9) rfl rfl rfl rfl (lP e9) rfl) (Oc oa ?_)
    refine ae.aj ⟨[(4,_),(5,_),(8,_),(9,_),(10,_)],[(103,.row 9 1 (x_11.map eS))]⟩ rfl (ab.aa (Oc om (Oc om (Oc om (Oc (vB n3 rfl rfl (List.length_map _)) ?_)))))
    refine ae.dw .i64 h4 rfl (cR rfl rfl) (fun x_12 h4=>?_)
    obtain ⟨x_13,e10,h4⟩:=aO h4
    refine Oc (uI dT (bb e10) (Cy e10) rfl rfl rfl rfl) (ae.ah ⟨[(4,_),(5,_),(8,_),(9,_),(10,_),(22,I size_4),(27,.b (.mX 103 ((x_12:Int).toNat * 1)))],[(103,_)]⟩ rfl (Oc (zw (i:=(x_12:Int).toNat) (f:=0) cG rfl rfl rfl (dH (e:=eS) e10) rfl) (Oc (bS du rfl) ?_)))
    refine ae.dw .i64 h4 rfl (aW rfl rfl) (fun x_14 h4=>?_)
    refine Oc (aW rfl rfl) (Oc oa ?_)
    refine ae.nil (Fin.aC (Fin.ah ⟨[(4,_),(5,I (IntKind.i64.wrap (size_4 + x_14))),(8,_),(9,_),(10,_)],[(103,_)]⟩ rfl (Fin.then (ab.aa ?_))))
    refine Oc (aW rfl rfl) (Oc om ?_)
    refine ae.nil ?_
    exact Fin.cy [4,5,8,9,10] [103] (x_11,IntKind.i64.wrap (size_4 + x_14),IntKind.i64.wrap (x_5 + 1)) (Option.some.inj h4) rfl
  ·refine ab.exit (Fin.aB ?_)
   obtain rfl:=hy5 _ (Option.some.inj h4).symm
   refine Fin.aB (Fin.aU ?_)
   exact Fin.join [4,5] [103] (parts_3,size_4) rfl rfl
 ·rintro ⟨parts_1,size_2⟩ hv
  subst v1
  refine ab.seq (ab.seq (ab.aa ?_))
  refine Oc om (Oc (fJ rfl rfl) ?_)
  refine ae.aj ⟨[(4,_),(34,B (decide (100000 < size_2)))],[(103,_)]⟩ rfl (ab.ite h rfl (fun _ h=>?_) (fun _ h=>?_))
  ·refine ab.seq (ab.aa ?_)
   refine Oc oa (Oc oa ?_)
   refine ae.aj ⟨[(2,.b (.one (.str []))),(3,I 2)],[]⟩ rfl (ab.ret (Fin.aI ?_))
   obtain rfl:=Option.some.inj h
   refine Fin.ah ⟨[(2,_),(3,_)],[]⟩ rfl (Fin.ay [.one (.str []),.one (.i 2)] (.inl rfl) rfl (.cons (.tmp rfl) (.cons (.tmp rfl) .nil)) ⟨rfl,rfl⟩)
  ·refine ab.skip (Fin.ah ⟨[(4,_)],[(103,_)]⟩ rfl (Fin.then (ab.seq (ab.aa ?_))))
   refine Oc om ?_
   obtain ⟨x_15,e11,h⟩:=aO h
   refine Oc (fY (rD e11) goes28 rfl CP.xJ) (Oc oa (Oc oa ?_))
   refine ae.aj ⟨[(2,.b (.one (.str x_15))),(3,I 0)],[]⟩ rfl (ab.ret ?_)
   obtain rfl:=Option.some.inj h
   refine Fin.ah ⟨[(2,_),(3,_)],[]⟩ rfl (Fin.ay [.one (.str x_15),.one (.i 0)] (.inl rfl) rfl (.cons (.tmp rfl) (.cons (.tmp rfl) .nil)) ⟨rfl,rfl⟩)
def dL (F:Nat) (s0:Str) (c0:Int):Option Int :=
 Option.bind (cu (IntKind.i64.wrap ((s0.length:Int) - 1)) fun x_1=>iter F (fun i_2=>if (decide (0 ≤ i_2)) = true then ((aZ s0 i_2).bind fun x_3=>if (decide ((x_3.toNat:Int) = c0)) = true then (some (.inr (.inr i_2))) else (some (.inl (IntKind.i64.wrap (i_2 - 1))))) else (some (.inr (.inl ())))) x_1) (eh (fun _=>some (-1)) (fun y=>some y))
theorem jv {F:Nat} {s0:Str} {c0:Int} {r:Int} (h:dL F s0 c0 = some r):ax Tryz.prog (bh mx) 114 [] [.one (.str s0),.one (.int .u8 c0)] (Is [] (.b (.one (.i r)))):=by
 unfold dL at h
 refine ax.intro 19 Tryz.func114 Tryz.ntmps114 rfl (by simp) fun E=>?_
 show ab _ E ⟨19,[],[],[]⟩ _ ⟨[(0,.b (.one (.str s0))),(1,.b (.one (.int .u8 c0)))],[]⟩ _
 refine ab.seq (ab.aa ?_)
 refine Oc oa (ae.aj ⟨[(0,.b (.one (.str s0))),(1,.b (.one (.int .u8 c0)))],[]⟩ rfl ?_)
 obtain ⟨v1,h2,h⟩:=aO h
 refine ab.cN (v:=v1) (fun (_:Unit)=>⟨[],[]⟩) (fun z=>.inl z) ?_ ?_
 ·refine ab.seq (ab.aa ?_)
  refine Oc om (Oc (bS du rfl) ?_)
  refine ae.dw .i64 h2 rfl (cR rfl rfl) (fun x_1 h2=>?_)
  refine Oc oa (ae.aj ⟨[(0,_),(1,_),(5,I x_1)],[]⟩ rfl (ab.block (ab.dM h2 (fun (i_2:Int)=>⟨[(0,.b (.one (.str s0))),(1,.b (.one (.int .u8 c0))),(5,I i_2)],[]⟩) [0,1,5] [] rfl ?_)))
  rintro i_2 o3 h4 hy5
  refine ab.seq (ab.seq (ab.aa ?_))
  refine Oc om (Oc (jc rfl rfl) ?_)
  refine ae.aj ⟨[(0,_),(1,_),(5,_),(10,B (decide (0 ≤ i_2)))],[]⟩ rfl (ab.ite h4 rfl (fun _ h4=>?_) (fun _ h4=>?_))
  ·refine ab.skip (Fin.ah ⟨[(0,_),(1,_),(5,_)],[]⟩ rfl (Fin.then (ab.seq (ab.block (ab.seq (ab.aa ?_))))))
   refine Oc om (Oc om ?_)
   obtain ⟨x_3,e6,h4⟩:=aO h4
   refine Oc (b8 du rfl rfl (bb e6) (fK e6)) (Oc om (Oc (c9 rfl rfl) ?_))
   refine ae.aj ⟨[(0,_),(1,_),(5,_),(17,B (decide ((x_3.toNat:Int) = c0)))],[]⟩ rfl (ab.ite h4 rfl (fun _ h4=>?_) (fun _ h4=>?_))
   ·refine ab.seq (ab.aa ?_)
    refine Oc om (Oc oa ?_)
    refine ae.aj ⟨[(4,I i_2)],[]⟩ rfl (ab.ret (Fin.cL (Fin.aI ?_)))
    obtain rfl:=hy5 _ (Option.some.inj h4).symm
    refine Fin.aI (Fin.cL (Fin.aI ?_))
    obtain rfl:=Option.some.inj h
    refine Fin.ah ⟨[(4,_)],[]⟩ rfl (Fin.ay [.one (.i i_2)] (.inl rfl) rfl (.cons (.tmp rfl) .nil) ⟨rfl,rfl⟩)
   ·refine ab.skip (Fin.aC (Fin.ah ⟨[(0,_),(1,_),(5,_)],[]⟩ rfl (Fin.then (ab.aa ?_))))
    refine Oc om (Oc (cR rfl rfl) (Oc oa ?_))
    refine ae.nil ?_
    exact Fin.cy [0,1,5] [] (IntKind.i64.wrap (i_2 - 1)) (Option.some.inj h4) rfl
  ·refine ab.exit (Fin.aB ?_)
   obtain rfl:=hy5 _ (Option.some.inj h4).symm
   refine Fin.aB (Fin.aU ?_)
   exact Fin.join [] [] () rfl rfl
 ·rintro _ hv
  subst v1
  refine ab.seq (ab.aa ?_)
  refine Oc oa (ae.aj ⟨[(4,I (-1))],[]⟩ rfl (ab.ret ?_))
  obtain rfl:=Option.some.inj h
  refine Fin.ah ⟨[(4,_)],[]⟩ rfl (Fin.ay [.one (.i (-1))] (.inl rfl) rfl (.cons (.tmp rfl) .nil) ⟨rfl,rfl⟩)
def fD (F:Nat) (s0:Str) (c0:Int):Option Int :=
 (dL F s0 c0).bind fun x_1=>some x_1
theorem lz {F:Nat} {s0:Str} {c0:Int} {r:Int} (h:fD F s0 c0 = some r):ax Tryz.prog (bh mx) 55 [] [.one (.str s0),.one (.int .u8 c0)] (Is [] (.b (.one (.i r)))):=by
 unfold fD at h
 refine ax.intro 8 Tryz.func55 Tryz.ntmps55 rfl (by simp) fun E=>?_
 show ab _ E ⟨8,[],[],[]⟩ _ ⟨[(0,.b (.one (.str s0))),(1,.b (.one (.int .u8 c0)))],[]⟩ _
 refine ab.seq (ab.aa ?_)
 refine Oc oa (ae.aj ⟨[(0,.b (.one (.str s0))),(1,.b (.one (.int .u8 c0)))],[]⟩ rfl (ab.seq (ab.aa ?_)))
 refine Oc om (Oc om ?_)
 obtain ⟨x_1,e1,h⟩:=aO h
 refine Oc (ag (jv e1) goes114 rfl rfl) (Oc oa ?_)
 refine ae.aj ⟨[(4,I x_1)],[]⟩ rfl (ab.ret ?_)
 obtain rfl:=Option.some.inj h
 refine Fin.ah ⟨[(4,_)],[]⟩ rfl (Fin.ay [.one (.i x_1)] (.inl rfl) rfl (.cons (.tmp rfl) .nil) ⟨rfl,rfl⟩)
def mf (F:Nat) (s0:Str) (at0:Int):Option (Int × Int) :=
 if ((decide (at0 < 0)) || (decide ((s0.length:Int) < at0))) = true then (some (0,0)) else ((tD s0 at0).bind fun x_1=>(eQ F x_1 [10]).bind fun x_2=>(tD s0 at0).bind fun x_3=>(fD F x_3 10).bind fun x_4=>some (IntKind.i64.wrap (1 + x_2),IntKind.i64.wrap (at0 - x_4)))
theorem sB {F:Nat} {s0:Str} {at0:Int} {r:Int × Int} (h:mf F s0 at0 = some r):ax Tryz.prog (bh mx) 23 [] [.one (.str s0),.one (.i at0)] (Is [] (.fG [.one (.i r.1),.one (.i r.2)])):=by
 unfold mf at h
 refine ax.intro 25 Tryz.func23 Tryz.ntmps23 rfl (by simp) fun E=>?_
 show ab _ E ⟨25,[],[],[]⟩ _ ⟨[(0,.b (.one (.str s0))),(1,I at0)],[]⟩ _
 refine ab.seq (ab.aa ?_)
 refine Oc oa (Oc oa ?_)
 refine ae.aj ⟨[(0,.b (.one (.str s0))),(1,I at0)],[]⟩ rfl (ab.seq (ab.seq (ab.aa ?_)))
 refine Oc om (Oc (b7 rfl rfl) (Oc om ?_))
 refine fU (!(decide (at0 < 0))) [] (fun g1=>trivial) (fun g1=>om) (fU (!(decide (at0 < 0))) [] (fun g2=>by exact trivial) (fun g2=>om) (fU (!(decide (at0 < 0))) [10] (fun g3=>by exact ⟨g3,trivial⟩) (fun g3=>bS du rfl) (fU (!(decide (at0 < 0))) [9,11] (fun g4=>by exact ⟨g4,g4,trivial⟩) (fun g4=>fJ rfl rfl) (Oc (bt (fun e=>by first | (rw [e]; rfl) | (simp only at e; rw [e]; rfl)) rfl rfl rfl rfl) (ae.aj ⟨[(0,_),(1,_),(13,B ((decide (at0 < 0)) || (decide ((s0.length:Int) < at0))))],[]⟩ rfl ?_)))))
 refine ab.ite h rfl (fun _ h=>?_) (fun _ h=>?_)
 ·refine ab.seq (ab.aa ?_)
  refine Oc oa (Oc oa ?_)
  refine ae.aj ⟨[(4,I 0),(5,I 0)],[]⟩ rfl (ab.ret (Fin.aI ?_))
  obtain rfl:=Option.some.inj h
  refine Fin.ah ⟨[(4,_),(5,_)],[]⟩ rfl (Fin.ay [.one (.i 0),.one (.i 0)] (.inl rfl) rfl (.cons (.tmp rfl) (.cons (.tmp rfl) .nil)) ⟨rfl,rfl⟩)
 ·refine ab.skip (Fin.ah ⟨[(0,_),(1,_)],[]⟩ rfl (Fin.then (ab.seq ?_)))
  refine ab.ah ⟨[(0,_),(1,_)],[]⟩ rfl ?_
  obtain ⟨x_1,e5,h⟩:=aO h
  obtain ⟨x_2,e6,h⟩:=aO h
  obtain ⟨x_3,e7,h⟩:=aO h
  obtain ⟨x_4,e8,h⟩:=aO h
  refine ab.bR mixed 13 [.b (.one (.str s0)),I at0,.b (.one (.str x_1)),I x_2,I (IntKind.i64.wrap (1 + x_2)),I at0,.b (.one (.str s0)),I at0,.b (.one (.str x_3)),I x_4,I (IntKind.i64.wrap (at0 - x_4)),I (IntKind.i64.wrap (1 + x_2)),I (IntKind.i64.wrap (at0 - x_4))] [4,5] [] (s':=⟨[(4,I (IntKind.i64.wrap (1 + x_2))),(5,I (IntKind.i64.wrap (at0 - x_4)))],[]⟩) rfl ⟨fun _=>.p om,fun _=>.p om,fun _=>.p (oN du e5 rfl rfl),fun _=>.p (ag (lx e6) CF rfl rfl),fun _=>.p (aW rfl rfl),fun _=>.p om,fun _=>.p om,fun _=>.p om,fun _=>.p (oN du e7 rfl rfl),fun _=>.p (ag (lz e8) goes55 rfl rfl),fun _=>.p (cR rfl rfl),fun _=>.p oa,fun _=>.p oa,trivial⟩ rfl rfl (ab.ret ?_)
  obtain rfl:=Option.some.inj h
  refine Fin.ah ⟨[(4,_),(5,_)],[]⟩ rfl (Fin.ay [.one (.i (IntKind.i64.wrap (1 + x_2))),.one (.i (IntKind.i64.wrap (at0 - x_4)))] (.inl rfl) rfl (.cons (.tmp rfl) (.cons (.tmp rfl) .nil)) ⟨rfl,rfl⟩)
def ua (F:Nat) (a0:Int) (b0:Int):Option gS :=
 (iL F a0).bind fun x_1=>(iL F b0).bind fun x_2=>(fW F x_1 x_2).bind fun x_3=>some x_3
theorem x5 {F:Nat} {a0:Int} {b0:Int} {r:gS} (h:ua F a0 b0 = some r):ax Tryz.prog (bh mx) 24 [] [.one (.i a0),.one (.i b0)] (Is [] (.b (.agg (aR r)))):=by
 unfold ua at h
 refine ax.intro 10 Tryz.func24 Tryz.ntmps24 rfl (by simp) fun E=>?_
 show ab _ E ⟨10,[],[],[]⟩ _ ⟨[(0,I a0),(1,I b0)],[]⟩ _
 refine ab.seq (ab.aa ?_)
 refine Oc (aA (k:=101) dy rfl) (ae.aj ⟨[(0,I a0),(1,I b0),(4,Pt 101 0)],[(101,.box 37 gl)]⟩ rfl (ab.seq (ab.aa ?_)))
 refine Oc om ?_
 obtain ⟨x_1,e1,h⟩:=aO h
 refine Oc (ag (fZ e1) me rfl rfl) (Oc om ?_)
 refine ae.ah ⟨[(4,_),(6,.b (.agg (au x_1))),(7,I b0)],[(101,_)]⟩ rfl ?_
 obtain ⟨x_2,e2,h⟩:=aO h
 refine Oc (ag (fZ e2) me rfl rfl) ?_
 obtain ⟨x_3,e3,h⟩:=aO h
 refine Oc (ag (dc e3) jE rfl rfl) (Oc (ao bc rfl rfl rfl rfl (Nat.le_of_ble_eq_true rfl) rfl) ?_)
 refine ae.aj ⟨[(4,_)],[(101,.box 37 (aR x_3))]⟩ rfl (ab.ret ?_)
 obtain rfl:=Option.some.inj h
 refine Fin.ah ⟨[(4,_)],[(101,_)]⟩ rfl (Fin.ay [.agg (aR x_3)] (.inl rfl) rfl (.cons (.agg bc rfl rfl rfl rfl) .nil) ⟨rfl,rfl⟩)
def dm (F:Nat):Option Bool :=
 Option.bind (cf F [109,111,118,101,32,98,49,32,116,111,32,50,46,53,48,32,109,59]) (cF fun x_1 x_2=>(bx (!(decide (x_2 ≠ (⟨0,0⟩:Problem)))) (ff F x_1 [(⟨2,0,[109,111,118,101]⟩:Token),(⟨2,0,[98,49]⟩:Token),(⟨1,0,[116,111]⟩:Token),(⟨3,0,[50,46,53,48]⟩:Token),(⟨2,0,[109]⟩:Token),(⟨5,0,[59]⟩:Token)])).bind fun x_3=>cu (((decide (x_2 ≠ (⟨0,0⟩:Problem))) || (!x_3)) || (decide ((x_1.length:Int) ≠ 6))) fun x_4=>(bx (!x_4) (aZ x_1 3)).bind fun x_5=>if (x_4 || (decide (x_5.At ≠ 11))) = true then (some false) else ((aZ x_1 3).bind fun x_6=>Option.bind (fk F x_6) (cF fun x_7 x_8=>Option.bind (cf F [97,46,46,98,32,35,32,99]) (cF fun x_9 x_10=>Option.bind (cf F [48,48,55]) (cF fun x_11 x_12=>Option.bind (cf F [51,109]) (cF fun x_13 x_14=>Option.bind (cf F [120,32,63]) (cF fun x_15 x_16=>Option.bind (cf F [34,97]) (cF fun x_17 x_18=>cu (⟨4,0,[115,97,121,32,34,120,34]⟩:Token) fun x_19=>Option.bind (nO F [(⟨2,0,[97]⟩:Token),x_19]) (cF fun x_20 x_21=>Option.bind (mf F [97,10,98,99] 3) (cF fun x_22 x_23=>(ua F 5 2).bind fun x_24=>(bx (((decide (x_7 = x_24)) && (decide (x_8 = 0))) && (decide (x_10 = (⟨0,0⟩:Problem)))) (ff F x_9 [(⟨2,0,[97]⟩:Token),(⟨5,0,[46,46]⟩:Token),(⟨2,0,[98]⟩:Token)])).bind fun x_25=>cu ((decide (x_12 = (⟨0,281⟩:Problem))) && (decide (x_14 = (⟨0,281⟩:Problem)))) fun x_26=>cu ((x_26 && (decide (x_16 = (⟨2,280⟩:Problem)))) && (decide (x_18 = (⟨0,280⟩:Problem)))) fun x_27=>cu ((((decide (x_7 = x_24)) && (decide (x_8 = 0))) && (decide (x_10 = (⟨0,0⟩:Problem)))) && x_25) fun x_28=>cu ((x_28 && x_27) && (decide (x_20 = [97,32,34,115,97,121,32,92,34,120,92,34,34]))) fun x_29=>cu (((x_29 && (decide (x_21 = 0))) && (decide (x_22 = 2))) && (decide (x_23 = 2))) fun x_30=>(bx x_30 (dX F [121,97,114,100])).bind fun x_31=>(bx (x_30 && x_31) (dX F [121,97,114,100,115])).bind fun x_32=>some ((x_30 && x_31) && (!x_32))))))))))))
theorem lC {F:Nat} {r:Bool} (h:dm F = some r):ax Tryz.prog (bh mx) 8 [] [] (Is [] (.b (.one (.bool r)))):=by
 unfold dm at h
 refine ax.intro 157 Tryz.func8 Tryz.ntmps8 rfl (by simp) fun E=>?_
 show ab _ E ⟨157,[],[],[]⟩ _ ⟨[],[]⟩ _
 refine ab.seq (ab.aa ?_)
 refine Oc oa (ae.aj ⟨[],[]⟩ rfl (ab.seq (ab.aa ?_)))
 obtain ⟨⟨x_1,x_2⟩,e1,h⟩:=aO h
 refine Oc (ag (dk e1) qi rfl rfl) (Oc om (Oc (aF rfl rfl) (Oc (aF rfl rfl) ?_)))
 refine ae.ah ⟨[(24,.b (.one (.sl 3 (x_1.map aE)))),(25,.b (.agg (bF x_2)))],[]⟩ rfl (Oc (aA (k:=101) j9 rfl) (Oc oa (Oc (ao cT rfl rfl rfl rfl (Nat.le_of_ble_eq_true rfl) rfl) ?_)))
 refine ae.aj ⟨[(1,.b (.one (.sl 3 (x_1.map aE)))),(2,Pt 101 0)],[(101,.box 46 (bF x_2))]⟩ rfl (ab.seq (ab.aa ?_))
 refine Oc (bz ck rfl rfl) (Oc (bz ck rfl rfl) (Oc (bz ck rfl rfl) (Oc (bz ck rfl rfl) (Oc (bz ck rfl rfl) (Oc (bz ck rfl rfl) ?_)))))
 refine Oc (bp (k:=102) (es:=[(⟨2,0,[109,111,118,101]⟩:Token),(⟨2,0,[98,49]⟩:Token),(⟨1,0,[116,111]⟩:Token),(⟨3,0,[50,46,53,48]⟩:Token),(⟨2,0,[109]⟩:Token),(⟨5,0,[59]⟩:Token)].map aE) fH rfl rfl (cZ fun _=>rfl) rfl (by decide) (by decide) rfl) (Oc oa ?_)
 refine ae.aj ⟨[(1,_),(2,_),(3,.b (.row 102))],[(101,_),(102,.row 31 3 ([(⟨2,0,[109,111,118,101]⟩:Token),(⟨2,0,[98,49]⟩:Token),(⟨1,0,[116,111]⟩:Token),(⟨3,0,[50,46,53,48]⟩:Token),(⟨2,0,[109]⟩:Token),(⟨5,0,[59]⟩:Token)].map aE))]⟩ rfl (ab.seq (ab.seq (ab.aa ?_)))
 refine Oc (lp cT) (Oc (bz gZ rfl rfl) (Oc (lq (nC x_2 (⟨0,0⟩:Problem)) rfl rfl qN) (Oc om ?_)))
 refine fU (!(decide (x_2 ≠ (⟨0,0⟩:Problem)))) [] (fun g2=>trivial) (fun g2=>om) (fU (!(decide (x_2 ≠ (⟨0,0⟩:Problem)))) [] (fun g3=>by exact trivial) (fun g3=>om) (ae.ah ⟨[(1,_),(36,B (decide (x_2 ≠ (⟨0,0⟩:Problem)))),(37,.opt (!(decide (x_2 ≠ (⟨0,0⟩:Problem)))) (.one (.sl 3 (x_1.map aE)))),(38,.opt (!(decide (x_2 ≠ (⟨0,0⟩:Problem)))) (.row 102))],[(102,_)]⟩ rfl ?_))
 obtain ⟨x_3,e5,h⟩:=aO h
 refine fU (!(decide (x_2 ≠ (⟨0,0⟩:Problem)))) [37,38] (fun g4=>⟨g4,g4,trivial⟩) (fun g4=>fY (iW (gc e5 g4)) CU rfl CP.gk) (fU (!(decide (x_2 ≠ (⟨0,0⟩:Problem)))) [39] (fun g6=>⟨g6,trivial⟩) (fun g6=>cX rfl) (Oc (bt (fun e=>by first | (rw [e]; rfl) | (simp only at e; rw [e]; rfl)) rfl rfl rfl rfl) (Oc om ?_)))
 refine fU (!((decide (x_2 ≠ (⟨0,0⟩:Problem))) || (!x_3))) [] (fun g7=>trivial) (fun g7=>om) (fU (!((decide (x_2 ≠ (⟨0,0⟩:Problem))) || (!x_3))) [43] (fun g8=>by exact ⟨g8,trivial⟩) (fun g8=>cm vf rfl (List.length_map _)) (fU (!((decide (x_2 ≠ (⟨0,0⟩:Problem))) || (!x_3))) [44] (fun g9=>by exact ⟨g9,trivial⟩) (fun g9=>dU rfl rfl) (ae.ah ⟨[(1,_),(42,B ((decide (x_2 ≠ (⟨0,0⟩:Problem))) || (!x_3))),(45,.opt (!((decide (x_2 ≠ (⟨0,0⟩:Problem))) || (!x_3))) (.one (.bool (decide ((x_1.length:Int) ≠ 6)))))],[]⟩ rfl (ae.lK h rfl (bt (fun e=>by first | (rw [e]; rfl) | (simp only at e; rw [e]; rfl)) rfl rfl rfl rfl) (fun x_4 h=>?_)))))
 refine Oc om (fU (!x_4) [] (fun g10=>by exact trivial) (fun g10=>om) ?_)
 obtain ⟨x_5,e12,h⟩:=aO h
 refine fU (!x_4) [48] (fun g11=>⟨g11,trivial⟩) (fun g11=>bK fH (bb (gc e12 g11)) (dH (e:=aE) (gc e12 g11)) rfl rfl) (fU (!x_4) [49] (fun g13=>⟨g13,trivial⟩) (fun g13=>dQ vt rfl rfl) (fU (!x_4) [50] (fun g14=>⟨g14,trivial⟩) (fun g14=>bm b6 rfl rfl) (fU (!x_4) [51] (fun g15=>⟨g15,trivial⟩) (fun g15=>dU rfl rfl) (Oc (bt (fun e=>by first | (rw [e]; rfl) | (simp only at e; rw [e]; rfl)) rfl rfl rfl rfl) (ae.aj ⟨[(1,_),(53,B (x_4 || (decide (x_5.At ≠ 11))))],[]⟩ rfl ?_)))))
 refine ab.ite h rfl (fun _ h=>?_) (fun _ h=>?_)
 ·refine ab.seq (ab.aa ?_)
  refine Oc oa (ae.aj ⟨[(0,B false)],[]⟩ rfl (ab.ret (Fin.aI ?_)))
  obtain rfl:=Option.some.inj h
  refine Fin.ah ⟨[(0,_)],[]⟩ rfl (Fin.ay [.one (.bool false)] (.inl rfl) rfl (.cons (.tmp rfl) .nil) ⟨rfl,rfl⟩)
 ·refine ab.skip (Fin.ah ⟨[(1,_)],[]⟩ rfl (Fin.then (ab.seq (ab.aa ?_))))
  refine Oc om ?_
  obtain ⟨x_6,e16,h⟩:=aO h
  refine Oc (bK fH (bb e16) (dH (e:=aE) e16) rfl rfl) (Oc (pC bT rfl rfl rfl) ?_)
  obtain ⟨⟨x_7,x_8⟩,e17,h⟩:=aO h
  refine Oc (ag (jR e17) y2 rfl rfl) (Oc om ?_)
  refine ae.ah ⟨[(54,.fG [.agg (aR x_7),.one (.i x_8)])],[]⟩ rfl (Oc (aF rfl rfl) (Oc (aF rfl rfl) (Oc (aA (k:=103) dy rfl) (Oc (ao bc rfl rfl rfl rfl (Nat.le_of_ble_eq_true rfl) rfl) (Oc oa ?_)))))
  refine ae.aj ⟨[(4,Pt 103 0),(5,I x_8)],[(103,.box 37 (aR x_7))]⟩ rfl (ab.seq (ab.aa ?_))
  obtain ⟨⟨x_9,x_10⟩,e18,h⟩:=aO h
  refine Oc (ag (dk e18) qi rfl rfl) (Oc om (Oc (aF rfl rfl) (Oc (aF rfl rfl) ?_)))
  refine ae.ah ⟨[(4,_),(5,_),(63,.b (.one (.sl 3 (x_9.map aE)))),(64,.b (.agg (bF x_10)))],[(103,_)]⟩ rfl (Oc (aA (k:=104) j9 rfl) (Oc oa (Oc (ao cT rfl rfl rfl rfl (Nat.le_of_ble_eq_true rfl) rfl) ?_)))
  refine ae.aj ⟨[(4,_),(5,_),(6,.b (.one (.sl 3 (x_9.map aE)))),(7,Pt 104 0)],[(103,_),(104,.box 46 (bF x_10))]⟩ rfl (ab.seq (ab.aa ?_))
  obtain ⟨⟨x_11,x_12⟩,e19,h⟩:=aO h
  refine Oc (ag (dk e19) qi rfl rfl) (Oc om (Oc (aF rfl rfl) (Oc (aF rfl rfl) ?_)))
  refine ae.ah ⟨[(4,_),(5,_),(6,_),(7,_),(67,.b (.one (.sl 3 (x_11.map aE)))),(68,.b (.agg (bF x_12)))],[(103,_),(104,_)]⟩ rfl (Oc (aA (k:=105) j9 rfl) (Oc oa (Oc (ao cT rfl rfl rfl rfl (Nat.le_of_ble_eq_true rfl) rfl) ?_)))
  refine ae.aj ⟨[(4,_),(5,_),(6,_),(7,_),(9,Pt 105 0)],[(103,_),(104,_),(105,.box 46 (bF x_12))]⟩ rfl (ab.seq (ab.aa ?_))
  obtain ⟨⟨x_13,x_14⟩,e20,h⟩:=aO h
  refine Oc (ag (dk e20) qi rfl rfl) (Oc om (Oc (aF rfl rfl) (Oc (aF rfl rfl) ?_)))
  refine ae.ah ⟨[(4,_),(5,_),(6,_),(7,_),(9,_),(71,.b (.one (.sl 3 (x_13.map aE)))),(72,.b (.agg (bF x_14)))],[(103,_),(104,_),(105,_)]⟩ rfl (Oc (aA (k:=106) j9 rfl) (Oc oa (Oc (ao cT rfl rfl rfl rfl (Nat.le_of_ble_eq_true rfl) rfl) ?_)))
  refine ae.aj ⟨[(4,_),(5,_),(6,_),(7,_),(9,_),(11,Pt 106 0)],[(103,_),(104,_),(105,_),(106,.box 46 (bF x_14))]⟩ rfl (ab.seq (ab.aa ?_))
  obtain ⟨⟨x_15,x_16⟩,e21,h⟩:=aO h
  refine Oc (ag (dk e21) qi rfl rfl) (Oc om (Oc (aF rfl rfl) (Oc (aF rfl rfl) ?_)))
  refine ae.ah ⟨[(4,_),(5,_),(6,_),(7,_),(9,_),(11,_),(75,.b (.one (.sl 3 (x_15.map aE)))),(76,.b (.agg (bF x_16)))],[(103,_),(104,_),(105,_),(106,_)]⟩ rfl (Oc (aA (k:=107) j9 rfl) (Oc oa (Oc (ao cT rfl rfl rfl rfl (Nat.le_of_ble_eq_true rfl) rfl) ?_)))
  refine ae.aj ⟨[(4,_),(5,_),(6,_),(7,_),(9,_),(11,_),(13,Pt 107 0)],[(103,_),(104,_),(105,_),(106,_),(107,.box 46 (bF x_16))]⟩ rfl (ab.seq (ab.aa ?_))
  obtain ⟨⟨x_17,x_18⟩,e22,h⟩:=aO h
  refine Oc (ag (dk e22) qi rfl rfl) (Oc om (Oc (aF rfl rfl) (Oc (aF rfl rfl) ?_)))
  refine ae.ah ⟨[(4,_),(5,_),(6,_),(7,_),(9,_),(11,_),(13,_),(79,.b (.one (.sl 3 (x_17.map aE)))),(80,.b (.agg (bF x_18)))],[(103,_),(104,_),(105,_),(106,_),(107,_)]⟩ rfl (Oc (aA (k:=108) j9 rfl) (Oc oa (Oc (ao cT rfl rfl rfl rfl (Nat.le_of_ble_eq_true rfl) rfl) ?_)))
  refine ae.aj ⟨[(4,_),(5,_),(6,_),(7,_),(9,_),(11,_),(13,_),(15,Pt 108 0)],[(103,_),(104,_),(105,_),(106,_),(107,_),(108,.box 46 (bF x_18))]⟩ rfl (ab.seq (ab.aa ?_))
  refine Oc (bz ck rfl rfl) (ae.vm aE h rfl (bz ck rfl rfl) (fun x_19 h=>?_))
  refine Oc (bp (k:=109) (es:=[(⟨2,0,[97]⟩:Token),x_19].map aE) fH rfl rfl (cZ fun _=>rfl) rfl (by decide) (by decide) rfl) ?_
  obtain ⟨⟨x_20,x_21⟩,e23,h⟩:=aO h
  refine Oc (fY (s7 e23) goes9 rfl (xI ⟨CP.xJ,CP.DY,trivial⟩)) (ae.ah ⟨[(4,_),(5,_),(6,_),(7,_),(9,_),(11,_),(13,_),(15,_),(85,.fG [.one (.str x_20),.one (.i x_21)])],[(103,_),(104,_),(105,_),(106,_),(107,_),(108,_)]⟩ rfl (Oc om (Oc (aF rfl rfl) (Oc (aF rfl rfl) (Oc oa (Oc oa ?_))))))
  refine ae.aj ⟨[(4,_),(5,_),(6,_),(7,_),(9,_),(11,_),(13,_),(15,_),(16,.b (.one (.str x_20))),(17,I x_21)],[(103,_),(104,_),(105,_),(106,_),(107,_),(108,_)]⟩ rfl (ab.seq (ab.aa ?_))
  obtain ⟨⟨x_22,x_23⟩,e24,h⟩:=aO h
  refine Oc (ag (sB e24) goes23 rfl rfl) (Oc om (Oc (aF rfl rfl) (Oc (aF rfl rfl) (Oc oa (Oc oa ?_)))))
  refine ae.aj ⟨[(4,_),(5,_),(6,_),(7,_),(9,_),(11,_),(13,_),(15,_),(16,_),(17,_),(18,I x_22),(19,I x_23)],[(103,_),(104,_),(105,_),(106,_),(107,_),(108,_)]⟩ rfl (ab.seq ?_)
  obtain ⟨x_24,e25,h⟩:=aO h
  obtain ⟨x_25,e37,h⟩:=aO h
  refine ab.bR mixed 21 [.b (.agg (aR x_7)),.b (.agg (aR x_24)),B (decide (x_7 = x_24)),B (decide (x_7 = x_24)),.opt (decide (x_7 = x_24)) (.one (.i x_8)),.opt (decide (x_7 = x_24)) (.one (.bool (decide (x_8 = 0)))),B ((decide (x_7 = x_24)) && (decide (x_8 = 0))),B ((decide (x_7 = x_24)) && (decide (x_8 = 0))),.opt ((decide (x_7 = x_24)) && (decide (x_8 = 0))) (.agg (bF x_10)),.opt ((decide (x_7 = x_24)) && (decide (x_8 = 0))) (.agg [.i 0,.i 0]),.opt ((decide (x_7 = x_24)) && (decide (x_8 = 0))) (.one (.bool (decide (x_10 = (⟨0,0⟩:Problem))))),B (((decide (x_7 = x_24)) && (decide (x_8 = 0))) && (decide (x_10 = (⟨0,0⟩:Problem)))),B (((decide (x_7 = x_24)) && (decide (x_8 = 0))) && (decide (x_10 = (⟨0,0⟩:Problem)))),.opt (((decide (x_7 = x_24)) && (decide (x_8 = 0))) && (decide (x_10 = (⟨0,0⟩:Problem)))) (.one (.sl 3 (x_9.map aE))),.opt (((decide (x_7 = x_24)) && (decide (x_8 = 0))) && (decide (x_10 = (⟨0,0⟩:Problem)))) (.agg [.i 2,.i 0,.str [97]]),.opt (((decide (x_7 = x_24)) && (decide (x_8 = 0))) && (decide (x_10 = (⟨0,0⟩:Problem)))) (.agg [.i 5,.i 0,.str [46,46]]),.opt (((decide (x_7 = x_24)) && (decide (x_8 = 0))) && (decide (x_10 = (⟨0,0⟩:Problem)))) (.agg [.i 2,.i 0,.str [98]]),.opt (((decide (x_7 = x_24)) && (decide (x_8 = 0))) && (decide (x_10 = (⟨0,0⟩:Problem)))) (.one (.sl 3 ([(⟨2,0,[97]⟩:Token),(⟨5,0,[46,46]⟩:Token),(⟨2,0,[98]⟩:Token)].map aE))),.opt (((decide (x_7 = x_24)) && (decide (x_8 = 0))) && (decide (x_10 = (⟨0,0⟩:Problem)))) (.one (.bool x_25)),B ((((decide (x_7 = x_24)) && (decide (x_8 = 0))) && (decide (x_10 = (⟨0,0⟩:Problem)))) && x_25),B ((((decide (x_7 = x_24)) && (decide (x_8 = 0))) && (decide (x_10 = (⟨0,0⟩:Problem)))) && x_25)] [9,11,13,15,16,17,18,19,20] [105,106,107,108] (s':=⟨[(9,_),(11,_),(13,_),(15,_),(16,_),(17,_),(18,_),(19,_),(20,B ((((decide (x_7 = x_24)) && (decide (x_8 = 0))) && (decide (x_10 = (⟨0,0⟩:Problem)))) && x_25))],[(105,_),(106,_),(107,_),(108,_)]⟩) rfl ⟨fun _=>.p (lp bc),fun _=>.p (ag (x5 e25) goes24 rfl rfl),fun _=>.p (dC (wJ x_7 x_24) rfl rfl),fun _=>.p om,fun _=>by exact .guard (decide (x_7 = x_24)) 1 [] (.plain rfl) (cO _) rfl rfl (fun g26=>trivial) (fun g26=>om),fun _=>by exact .guard (decide (x_7 = x_24)) 2 [96] (.plain rfl) (cO _) rfl rfl (fun g27=>⟨g27,trivial⟩) (fun g27=>c9 rfl rfl),fun _=>.p (aJ (fun e=>e) rfl rfl rfl rfl),fun _=>.p om,fun _=>by exact .guard ((decide (x_7 = x_24)) && (decide (x_8 = 0))) 1 [] (.plain rfl) (cO _) rfl rfl (fun g28=>trivial) (fun g28=>lp cT),fun _=>by exact .guard ((decide (x_7 = x_24)) && (decide (x_8 = 0))) 1 [] (.plain rfl) (cO _) rfl rfl (fun g29=>trivial) (fun g29=>bz gZ rfl rfl),fun _=>by exact .guard ((decide (x_7 = x_24)) && (decide (x_8 = 0))) 3 [100,101] (.plain rfl) (cO _) rfl rfl (fun g30=>⟨g30,g30,trivial⟩) (fun g30=>dC (nC x_10 (⟨0,0⟩:Problem)) rfl rfl),fun _=>.p (aJ (fun e=>e) rfl rfl rfl rfl),fun _=>.p om,fun _=>by exact .guard (((decide (x_7 = x_24)) && (decide (x_8 = 0))) && (decide (x_10 = (⟨0,0⟩:Problem)))) 1 [] (.plain rfl) (cO _) rfl rfl (fun g31=>trivial) (fun g31=>om),fun _=>by exact .guard (((decide (x_7 = x_24)) && (decide (x_8 = 0))) && (decide (x_10 = (⟨0,0⟩:Problem)))) 1 [] (.plain rfl) (cO _) rfl rfl (fun g32=>trivial) (fun g32=>bz ck rfl rfl),fun _=>by exact .guard (((decide (x_7 = x_24)) && (decide (x_8 = 0))) && (decide (x_10 = (⟨0,0⟩:Problem)))) 1 [] (.plain rfl) (cO _) rfl rfl (fun g33=>trivial) (fun g33=>bz ck rfl rfl),fun _=>by exact .guard (((decide (x_7 = x_24)) && (decide (x_8 = 0))) && (decide (x_10 = (⟨0,0⟩:Problem)))) 1 [] (.plain rfl) (cO _) rfl rfl (fun g34=>trivial) (fun g34=>bz ck rfl rfl),fun _=>by exact .guard (((decide (x_7 = x_24)) && (decide (x_8 = 0))) && (decide (x_10 = (⟨0,0⟩:Problem)))) 4 [106,107,108] (.plain rfl) (cO _) rfl rfl (fun g35=>⟨g35,g35,g35,trivial⟩) (fun g35=>oO (es:=[(⟨2,0,[97]⟩:Token),(⟨5,0,[46,46]⟩:Token),(⟨2,0,[98]⟩:Token)].map aE) fH rfl rfl (cZ fun _=>rfl) rfl (by decide) (by decide)),fun _=>by exact .guard (((decide (x_7 = x_24)) && (decide (x_8 = 0))) && (decide (x_10 = (⟨0,0⟩:Problem)))) 4 [105,109] (.plain rfl) (cO _) rfl rfl (fun g36=>⟨g36,g36,trivial⟩) (fun g36=>ag (iW (gc e37 g36)) CU rfl rfl),fun _=>.p (aJ (fun e=>e) rfl rfl rfl rfl),fun _=>.p oa,trivial⟩ rfl rfl ?_
  refine ab.seq (ab.aa ?_)
  refine Oc (lp cT) (Oc (bz gZ rfl rfl) (Oc (dC (nC x_12 (⟨0,281⟩:Problem)) rfl rfl) (Oc om ?_)))
  refine dE (decide (x_12 = (⟨0,281⟩:Problem))) [] (fun g38=>trivial) (fun g38=>lp cT) (dE (decide (x_12 = (⟨0,281⟩:Problem))) [] (fun g39=>by exact trivial) (fun g39=>bz gZ rfl rfl) (dE (decide (x_12 = (⟨0,281⟩:Problem))) [116,117] (fun g40=>by exact ⟨g40,g40,trivial⟩) (fun g40=>dC (nC x_14 (⟨0,281⟩:Problem)) rfl rfl) (ae.ah ⟨[(13,_),(15,_),(16,_),(17,_),(18,_),(19,_),(20,_),(115,B (decide (x_12 = (⟨0,281⟩:Problem)))),(118,.opt (decide (x_12 = (⟨0,281⟩:Problem))) (.one (.bool (decide (x_14 = (⟨0,281⟩:Problem))))))],[(107,_),(108,_)]⟩ rfl (ae.lK h rfl (aJ (fun e=>e) rfl rfl rfl rfl) (fun x_26 h=>?_)))))
  refine Oc om (dE x_26 [] (fun g41=>by exact trivial) (fun g41=>lp cT) (dE x_26 [] (fun g42=>by exact trivial) (fun g42=>bz gZ rfl rfl) (dE x_26 [121,122] (fun g43=>by exact ⟨g43,g43,trivial⟩) (fun g43=>dC (nC x_16 (⟨2,280⟩:Problem)) rfl rfl) (Oc (aJ (fun e=>e) rfl rfl rfl rfl) (Oc om ?_)))))
  refine dE (x_26 && (decide (x_16 = (⟨2,280⟩:Problem)))) [] (fun g44=>trivial) (fun g44=>lp cT) (ae.ah ⟨[(16,_),(17,_),(18,_),(19,_),(20,_),(125,B (x_26 && (decide (x_16 = (⟨2,280⟩:Problem))))),(126,.opt (x_26 && (decide (x_16 = (⟨2,280⟩:Problem)))) (.agg (bF x_18)))],[]⟩ rfl (dE (x_26 && (decide (x_16 = (⟨2,280⟩:Problem)))) [] (fun g45=>by exact trivial) (fun g45=>bz gZ rfl rfl) (dE (x_26 && (decide (x_16 = (⟨2,280⟩:Problem)))) [126,127] (fun g46=>by exact ⟨g46,g46,trivial⟩) (fun g46=>dC (nC x_18 (⟨0,280⟩:Problem)) rfl rfl) (ae.lK h rfl (aJ (fun e=>e) rfl rfl rfl rfl) (fun x_27 h=>?_)))))
  refine Oc oa (ae.aj ⟨[(16,_),(17,_),(18,_),(19,_),(20,_),(21,B x_27)],[]⟩ rfl (ab.seq (ab.aa ?_)))
  refine ae.lK h rfl om (fun x_28 h=>?_)
  refine Oc om (dE x_28 [] (fun g47=>by exact trivial) (fun g47=>om) (Oc (aJ (fun e=>e) rfl rfl rfl rfl) (Oc om ?_)))
  refine dE (x_28 && x_27) [] (fun g48=>trivial) (fun g48=>om) (dE (x_28 && x_27) [135] (fun g49=>by exact ⟨g49,trivial⟩) (fun g49=>jN rfl rfl) (ae.ah ⟨[(17,_),(18,_),(19,_),(134,B (x_28 && x_27)),(136,.opt (x_28 && x_27) (.one (.bool (decide (x_20 = [97,32,34,115,97,121,32,92,34,120,92,34,34])))))],[]⟩ rfl (ae.lK h rfl (aJ (fun e=>e) rfl rfl rfl rfl) (fun x_29 h=>?_))))
  refine Oc om (dE x_29 [] (fun g50=>by exact trivial) (fun g50=>om) (dE x_29 [139] (fun g51=>by exact ⟨g51,trivial⟩) (fun g51=>c9 rfl rfl) (Oc (aJ (fun e=>e) rfl rfl rfl rfl) (Oc om ?_))))
  refine dE (x_29 && (decide (x_21 = 0))) [] (fun g52=>trivial) (fun g52=>om) (dE (x_29 && (decide (x_21 = 0))) [143] (fun g53=>by exact ⟨g53,trivial⟩) (fun g53=>c9 rfl rfl) (ae.ah ⟨[(19,_),(142,B (x_29 && (decide (x_21 = 0)))),(144,.opt (x_29 && (decide (x_21 = 0))) (.one (.bool (decide (x_22 = 2)))))],[]⟩ rfl (Oc (aJ (fun e=>e) rfl rfl rfl rfl) (Oc om ?_))))
  refine dE ((x_29 && (decide (x_21 = 0))) && (decide (x_22 = 2))) [] (fun g54=>trivial) (fun g54=>om) (dE ((x_29 && (decide (x_21 = 0))) && (decide (x_22 = 2))) [147] (fun g55=>by exact ⟨g55,trivial⟩) (fun g55=>c9 rfl rfl) (ae.lK h rfl (aJ (fun e=>e) rfl rfl rfl rfl) (fun x_30 h=>?_)))
  refine Oc om (ae.ah ⟨[(150,B x_30)],[]⟩ rfl ?_)
  obtain ⟨x_31,e57,h⟩:=aO h
  refine dE x_30 [] (fun g56=>trivial) (fun g56=>ag (kC (gc e57 g56)) yZ rfl rfl) (Oc (aJ (fun e=>e) rfl rfl rfl rfl) (Oc om ?_))
  obtain ⟨x_32,e59,h⟩:=aO h
  refine dE (x_30 && x_31) [] (fun g58=>trivial) (fun g58=>ag (kC (gc e59 g58)) yZ rfl rfl) (dE (x_30 && x_31) [154] (fun g60=>⟨g60,trivial⟩) (fun g60=>cX rfl) (Oc (aJ (fun e=>e) rfl rfl rfl rfl) (Oc oa ?_)))
  refine ae.aj ⟨[(0,B ((x_30 && x_31) && (!x_32)))],[]⟩ rfl (ab.ret ?_)
  obtain rfl:=Option.some.inj h
  refine Fin.ah ⟨[(0,_)],[]⟩ rfl (Fin.ay [.one (.bool ((x_30 && x_31) && (!x_32)))] (.inl rfl) rfl (.cons (.tmp rfl) .nil) ⟨rfl,rfl⟩)
def cM (F:Nat) (n0:Int):Option Str :=
 Option.bind (iter F (cF fun n_1 out_2=>cu (IntKind.i64.wrap (48 + (Int.tmod n_1 10))) fun x_3=>(iZ (toStr [IntKind.u8.wrap x_3]) out_2).bind fun x_4=>(tA .i64 n_1 10).bind fun x_5=>if (decide (x_5 = 0)) = true then (some (.inr x_4)) else (some (.inl (x_5,x_4)))) (n0,[])) (fun y=>some y)
theorem gQ {F:Nat} {n0:Int} {r:Str} (h:cM F n0 = some r):ax Tryz.prog (bh mx) 18 [] [.one (.i n0)] (Is [] (.b (.one (.str r)))):=by
 unfold cM at h
 refine ax.intro 17 Tryz.func18 Tryz.ntmps18 rfl (by simp) fun E=>?_
 show ab _ E ⟨17,[],[],[]⟩ _ ⟨[(0,I n0)],[]⟩ _
 refine ab.seq (ab.aa ?_)
 refine Oc oa (ae.aj ⟨[(0,I n0)],[]⟩ rfl (ab.seq (ab.aa ?_)))
 refine Oc oa (ae.aj ⟨[(0,_),(3,.b (.one (.str [])))],[]⟩ rfl (ab.block ?_))
 obtain ⟨v1,h2,h⟩:=aO h
 refine ab.dM h2 (cF fun (n_1:Int) (out_2:Str)=>⟨[(0,I n_1),(3,.b (.one (.str out_2)))],[]⟩) [0,3] [] rfl ?_
 rintro ⟨n_1,out_2⟩ o3 h4 hy5
 refine ab.block (ab.seq (ab.aa ?_))
 refine Oc om (Oc (yR (by decide) rfl rfl) ?_)
 refine ae.dw .i64 h4 rfl (aW rfl rfl) (fun x_3 h4=>?_)
 refine Oc (az pQ mn rfl) (Oc (bp (k:=101) (es:=[IntKind.u8.wrap x_3].map (eK .u8)) kW rfl rfl (cZ fun _=>rfl) rfl (by decide) (by decide) rfl) ?_)
 refine ae.dV 101 rfl (ae.ah ⟨[(0,I n_1),(3,.b (.one (.str out_2))),(8,.b (.one (.sl 1 ([IntKind.u8.wrap x_3].map (eK .u8)))))],[]⟩ rfl (Oc (iE jy mn du rfl) (Oc om ?_)))
 obtain ⟨x_4,e6,h4⟩:=aO h4
 refine Oc (gJ e6 rfl rfl) (Oc oa ?_)
 refine ae.aj ⟨[(0,_),(3,.b (.one (.str x_4)))],[]⟩ rfl (ab.seq (ab.aa ?_))
 refine Oc om ?_
 obtain ⟨x_5,e7,h4⟩:=aO h4
 refine Oc (qM e7 rfl rfl) (Oc oa ?_)
 refine ae.aj ⟨[(0,I x_5),(3,_)],[]⟩ rfl (ab.seq (ab.aa ?_))
 refine Oc om (Oc (c9 rfl rfl) ?_)
 refine ae.aj ⟨[(0,_),(3,_),(15,B (decide (x_5 = 0)))],[]⟩ rfl (ab.ite h4 rfl (fun _ h4=>?_) (fun _ h4=>?_))
 ·refine ab.seq (ab.aa ?_)
  refine Oc om (Oc oa ?_)
  refine ae.aj ⟨[(2,.b (.one (.str x_4)))],[]⟩ rfl (ab.ret (Fin.cL ?_))
  obtain rfl:=hy5 _ (Option.some.inj h4).symm
  refine Fin.aI (Fin.cL ?_)
  obtain rfl:=Option.some.inj h
  refine Fin.ah ⟨[(2,_)],[]⟩ rfl (Fin.ay [.one (.str x_4)] (.inl rfl) rfl (.cons (.tmp rfl) .nil) ⟨rfl,rfl⟩)
 ·refine ab.skip (Fin.aC ?_)
  exact Fin.cy [0,3] [] (x_5,x_4) (Option.some.inj h4) rfl
def mP (F:Nat) (n0:cV):Option gS :=
 (nr F).bind fun x_1=>(fW F n0 x_1).bind fun x_2=>some x_2
theorem wU {F:Nat} {n0:cV} {r:gS} (h:mP F n0 = some r):ax Tryz.prog (bh mx) 46 [] [.agg (au n0)] (Is [] (.b (.agg (aR r)))):=by
 unfold mP at h
 refine ax.intro 6 Tryz.func46 Tryz.ntmps46 rfl (by simp) fun E=>?_
 show ab _ E ⟨6,[],[],[]⟩ _ ⟨[(0,.b (.agg (au n0)))],[]⟩ _
 refine ab.seq (ab.aa ?_)
 refine Oc (bM (k:=101) rfl rfl) (Oc (aA (k:=102) dy rfl) ?_)
 refine ae.aj ⟨[(1,Pt 101 0),(2,Pt 102 0)],[(101,.box 35 (au n0)),(102,.box 37 gl)]⟩ rfl (ab.seq ?_)
 obtain ⟨x_1,e1,h⟩:=aO h
 obtain ⟨x_2,e2,h⟩:=aO h
 refine ab.bR mixed 3 [.b (.agg (au n0)),.b (.agg (au x_1)),.b (.agg (aR x_2))] [2] [102] (s':=⟨[(2,_)],[(102,.box 37 (aR x_2))]⟩) rfl ⟨fun _=>.p (lp an),fun _=>.p (ag (qt e1) wI rfl rfl),fun _=>.p (ag (dc e2) jE rfl rfl),trivial⟩ ⟨_,by exact .p (ao bc rfl rfl rfl rfl (Nat.le_of_ble_eq_true rfl) rfl),rfl⟩ rfl (ab.ret ?_)
 obtain rfl:=Option.some.inj h
 refine Fin.ah ⟨[(2,_)],[(102,_)]⟩ rfl (Fin.ay [.agg (aR x_2)] (.inl rfl) rfl (.cons (.agg bc rfl rfl rfl rfl) .nil) ⟨rfl,rfl⟩)
def l8 (F:Nat) (n0:Int):Option gS :=
 (iL F n0).bind fun x_1=>(mP F x_1).bind fun x_2=>some x_2
theorem jG {F:Nat} {n0:Int} {r:gS} (h:l8 F n0 = some r):ax Tryz.prog (bh mx) 19 [] [.one (.i n0)] (Is [] (.b (.agg (aR r)))):=by
 unfold l8 at h
 refine ax.intro 6 Tryz.func19 Tryz.ntmps19 rfl (by simp) fun E=>?_
 show ab _ E ⟨6,[],[],[]⟩ _ ⟨[(0,I n0)],[]⟩ _
 refine ab.seq (ab.aa ?_)
 refine Oc (aA (k:=101) dy rfl) (ae.aj ⟨[(0,I n0),(2,Pt 101 0)],[(101,.box 37 gl)]⟩ rfl (ab.seq (ab.aa ?_)))
 refine Oc om ?_
 obtain ⟨x_1,e1,h⟩:=aO h
 refine Oc (ag (fZ e1) me rfl rfl) ?_
 obtain ⟨x_2,e2,h⟩:=aO h
 refine Oc (ag (wU e2) goes46 rfl rfl) (Oc (ao bc rfl rfl rfl rfl (Nat.le_of_ble_eq_true rfl) rfl) ?_)
 refine ae.aj ⟨[(2,_)],[(101,.box 37 (aR x_2))]⟩ rfl (ab.ret ?_)
 obtain rfl:=Option.some.inj h
 refine Fin.ah ⟨[(2,_)],[(101,_)]⟩ rfl (Fin.ay [.agg (aR x_2)] (.inl rfl) rfl (.cons (.agg bc rfl rfl rfl rfl) .nil) ⟨rfl,rfl⟩)
def jk (F:Nat) (x0:gS):Option Bool :=
 (kf F x0.N).bind fun x_1=>(bx x_1 (kf F x0.D)).bind fun x_2=>(bx (x_1 && x_2) (iB F x0.D)).bind fun x_3=>(bx ((x_1 && x_2) && (decide (0 < x_3))) (oW F x0.N x0.D)).bind fun x_4=>(bx ((x_1 && x_2) && (decide (0 < x_3))) (nr F)).bind fun x_5=>some (((x_1 && x_2) && (decide (0 < x_3))) && (decide (x_4 = x_5)))
theorem kn {F:Nat} {x0:gS} {r:Bool} (h:jk F x0 = some r):ax Tryz.prog (bh mx) 48 [] [.agg (aR x0)] (Is [] (.b (.one (.bool r)))):=by
 unfold jk at h
 refine ax.intro 26 Tryz.func48 Tryz.ntmps48 rfl (by simp) fun E=>?_
 show ab _ E ⟨26,[],[],[]⟩ _ ⟨[(0,.b (.agg (aR x0)))],[]⟩ _
 refine ab.seq (ab.aa ?_)
 refine Oc (bM (k:=101) rfl rfl) (Oc oa ?_)
 refine ae.aj ⟨[(1,Pt 101 0)],[(101,.box 37 (aR x0))]⟩ rfl (ab.seq (ab.aa ?_))
 refine Oc (af cB rfl rfl) (Oc (lp an) ?_)
 obtain ⟨x_1,e1,h⟩:=aO h
 refine Oc (ag (lT e1) wg rfl rfl) (Oc om ?_)
 refine dE x_1 [] (fun g2=>trivial) (fun g2=>af bH rfl rfl) (ae.ah ⟨[(1,_),(6,B x_1),(7,.opt x_1 (.ptr 101 18))],[(101,_)]⟩ rfl (dE x_1 [7] (fun g3=>⟨g3,trivial⟩) (fun g3=>lp an) ?_))
 obtain ⟨x_2,e5,h⟩:=aO h
 refine dE x_1 [8] (fun g4=>⟨g4,trivial⟩) (fun g4=>ag (lT (gc e5 g4)) wg rfl rfl) (Oc (aJ (fun e=>e) rfl rfl rfl rfl) (Oc om ?_))
 refine dE (x_1 && x_2) [] (fun g6=>trivial) (fun g6=>af bH rfl rfl) (dE (x_1 && x_2) [12] (fun g7=>⟨g7,trivial⟩) (fun g7=>lp an) (ae.ah ⟨[(1,_),(11,B (x_1 && x_2)),(13,.opt (x_1 && x_2) (.agg (au x0.D)))],[(101,_)]⟩ rfl ?_))
 obtain ⟨x_3,e9,h⟩:=aO h
 refine dE (x_1 && x_2) [13] (fun g8=>⟨g8,trivial⟩) (fun g8=>ag (lS (gc e9 g8)) we rfl rfl) (dE (x_1 && x_2) [14] (fun g10=>⟨g10,trivial⟩) (fun g10=>fJ rfl rfl) (Oc (aJ (fun e=>e) rfl rfl rfl rfl) (Oc om ?_)))
 refine dE ((x_1 && x_2) && (decide (0 < x_3))) [] (fun g11=>trivial) (fun g11=>af cB rfl rfl) (dE ((x_1 && x_2) && (decide (0 < x_3))) [18] (fun g12=>⟨g12,trivial⟩) (fun g12=>lp an) (dE ((x_1 && x_2) && (decide (0 < x_3))) [] (fun g13=>by exact trivial) (fun g13=>af bH rfl rfl) (dE ((x_1 && x_2) && (decide (0 < x_3))) [20] (fun g14=>by exact ⟨g14,trivial⟩) (fun g14=>lp an) (ae.ah ⟨[(17,B ((x_1 && x_2) && (decide (0 < x_3)))),(19,.opt ((x_1 && x_2) && (decide (0 < x_3))) (.agg (au x0.N))),(21,.opt ((x_1 && x_2) && (decide (0 < x_3))) (.agg (au x0.D)))],[]⟩ rfl ?_))))
 obtain ⟨x_4,e16,h⟩:=aO h
 refine dE ((x_1 && x_2) && (decide (0 < x_3))) [19,21] (fun g15=>⟨g15,g15,trivial⟩) (fun g15=>ag (qm (gc e16 g15)) wh rfl rfl) ?_
 obtain ⟨x_5,e18,h⟩:=aO h
 refine dE ((x_1 && x_2) && (decide (0 < x_3))) [] (fun g17=>trivial) (fun g17=>ag (qt (gc e18 g17)) wI rfl rfl) (dE ((x_1 && x_2) && (decide (0 < x_3))) [22,23] (fun g19=>⟨g19,g19,trivial⟩) (fun g19=>dC (eqAgg35 x_4 x_5) rfl rfl) (Oc (aJ (fun e=>e) rfl rfl rfl rfl) (Oc oa ?_)))
 refine ae.aj ⟨[(2,B (((x_1 && x_2) && (decide (0 < x_3))) && (decide (x_4 = x_5))))],[]⟩ rfl (ab.ret ?_)
 obtain rfl:=Option.some.inj h
 refine Fin.ah ⟨[(2,_)],[]⟩ rfl (Fin.ay [.one (.bool (((x_1 && x_2) && (decide (0 < x_3))) && (decide (x_4 = x_5))))] (.inl rfl) rfl (.cons (.tmp rfl) .nil) ⟨rfl,rfl⟩)
end Go.Proofs.YtbcdabflmkgkiaaGreatDoor

