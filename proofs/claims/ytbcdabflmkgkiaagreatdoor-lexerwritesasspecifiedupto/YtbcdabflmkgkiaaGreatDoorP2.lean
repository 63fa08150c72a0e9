/- the plain law -/
import Derived.Test.YtbcdabflmkgkiaaGreatDoorP1
set_option linter.unusedSimpArgs false
set_option linter.unusedVariables false
open Go.IntKind (i8 i16 i32 i64 u8 u16 u32 u64)
open Go.Proofs.Tryz (prog)
namespace Go.Sk
theorem cL.fp {w:cL} {i x:Int} (h0:0<=i) (h1:i<17) (j:Nat):dg (w.set i x).l j=if j=i.toNat then x else dg w.l j:=by
 rw[cL.jZ,Go.Sk.jD (by rw[cL.cj];omega)]
theorem cL.jS {w:cL} {i x:Int} (h:cV 4294967296 w.l) (h0:0<=i) (h1:i<17) (hx:0<=x/\x<4294967296):cV 4294967296 (w.set i x).l:=fun j=>by
 rw[cL.fp h0 h1]
 split
 exact hx
 exact h j
def win (l:List Int) (j n:Nat):Int:=ds 4294967296 (fun i=>dg l (j+i)) n
theorem gl (l:List Int) (j n:Nat):win l j (n+1)=win l j n+dg l (j+n)*4294967296 ^ n:=rfl
theorem gZ {l:List Int} (h:cV 4294967296 l) (j n:Nat):0<=win l j n:=eo (by decide) fun i _=>(h _).1
theorem wD {l:List Int} (h:cV 4294967296 l) (j n:Nat):win l j n<4294967296 ^ n:=qp (by decide) fun i _=>h _
theorem xY {l m:List Int} {j n:Nat} (h:∀ i,j<=i->i<j+n->dg l i=dg m i):win l j n=win m j n:=dR fun i hi=>h _ (by omega) (by omega)
theorem win_div {l:List Int} (h:cV 4294967296 l) (j n k:Nat):win l j (n+k)/4294967296 ^ n=win l (j+n) k:=by
 unfold win
 rw[EN (by decide) fun i=>h _]
 simp only[Nat.add_assoc]
theorem win_cons (l:List Int) (j n:Nat):win l j (n+1)=dg l j+4294967296*win l (j+1) n:=by
 unfold win
 rw[lP]
 have e:∀ i,j+(i+1)=j+1+i:=fun i=>by omega
 have e2:ds 4294967296 (fun i=>dg l (j+(i+1))) n=ds 4294967296 (fun i=>dg l (j+1+i)) n:=dR fun i _=>by rw[e]
 rw[e2]
 rfl
structure Kn (B P v1 v2 V u2 u0 R t:Int):Prop where
 P0:0<P
 v10:2147483648<=v1
 v11:v1<B
 v20:0<=v2/\v2<B
 V0:(v1*B+v2)*P<=V
 V1:V<(v1*B+v2+1)*P
 u00:0<=u0/\u0<B
 R0:(u2*B+u0)*P<=R
 R1:R<(u2*B+u0+1)*P
 Rt:t*V<=R
 tR:R<(t+1)*V
 t0:0<=t
 t1:t<B
theorem Kn.up {B P v1 v2 V u2 u0 R t:Int} (k:Kn B P v1 v2 V u2 u0 R t):t*(v1*B+v2)<=u2*B+u0:=by
 have h1:t*((v1*B+v2)*P)<=t*V:=Int.mul_le_mul_of_nonneg_left k.V0 k.t0
 have h2:(t*(v1*B+v2))*P<(u2*B+u0+1)*P:=by
  have e:t*((v1*B+v2)*P)=(t*(v1*B+v2))*P:=by grind
  rw[e] at h1
  have:=k.Rt
  have:=k.R1
  omega
 have:=Int.lt_of_mul_lt_mul_right h2 (Int.le_of_lt k.P0)
 omega
theorem Kn.up1 {B P v1 v2 V u2 u0 R t:Int} (k:Kn B P v1 v2 V u2 u0 R t):t*v1<=u2:=by
 have h:=k.up
 have h3:0<=t*v2:=Int.mul_nonneg k.t0 k.v20.1
 have hB:0<B:=by have:=k.v20;omega
 have h4:(t*v1)*B<(u2+1)*B:=by
  have e:t*(v1*B+v2)=(t*v1)*B+t*v2:=by grind
  rw[e] at h
  have:=k.u00
  have e2:(u2+1)*B=u2*B+B:=by grind
  omega
 have:=Int.lt_of_mul_lt_mul_right h4 (Int.le_of_lt hB)
 omega
theorem Kn.u2lt {B P v1 v2 V u2 u0 R t:Int} (k:Kn B P v1 v2 V u2 u0 R t):u2<v1*B+B:=by
 have hB:0<B:=by have:=k.v20;omega
 have hP:=k.P0
 have hV:0<=V:=by
  have h1:0<=(v1*B+v2)*P:=Int.mul_nonneg (by have:=Int.mul_nonneg (show 0<=v1 by have:=k.v10;omega) (Int.le_of_lt hB);have:=k.v20;omega) (Int.le_of_lt hP)
  have:=k.V0
  omega
 have h1:(t+1)*V<=B*V:=Int.mul_le_mul_of_nonneg_right (by have:=k.t1;omega) hV
 have h2:B*V<=B*((v1*B+v2+1)*P):=Int.mul_le_mul_of_nonneg_left (Int.le_of_lt k.V1) (Int.le_of_lt hB)
 have h3:(v1*B+v2+1)*P<=(v1*B+B)*P:=Int.mul_le_mul_of_nonneg_right (by have:=k.v20;omega) (Int.le_of_lt hP)
 have h4:B*((v1*B+v2+1)*P)<=B*((v1*B+B)*P):=Int.mul_le_mul_of_nonneg_left h3 (Int.le_of_lt hB)
 have h5:u2*B*P<=(u2*B+u0)*P:=Int.mul_le_mul_of_nonneg_right (by have:=k.u00;omega) (Int.le_of_lt hP)
 have h6:u2*(B*P)<(v1*B+B)*(B*P):=by
  have e1:u2*(B*P)=u2*B*P:=by grind
  have e2:(v1*B+B)*(B*P)=B*((v1*B+B)*P):=by grind
  rw[e1,e2]
  have:=k.R0
  have:=k.tR
  omega
 exact Int.lt_of_mul_lt_mul_right h6 (Int.le_of_lt (Int.mul_pos hB hP))
theorem Kn.fin {B P v1 v2 V u2 u0 R t d:Int} (k:Kn B P v1 v2 V u2 u0 R t) (hd0:0<=d) (h:d*(v1*B+v2)<=u2*B+u0) (hd:d<B):d<=t+1:=by
 rcases (by omega:d<=t+1∨t+1<=d-1) with g|g
 exact g
 have hB:0<B:=by omega
 have hP:=k.P0
 have hv1:=k.v10
 have h5:B*P<=(v1*B+v2)*P:=Int.mul_le_mul_of_nonneg_right (by have h:=Int.mul_le_mul_of_nonneg_right (show 1<=v1 by omega) (Int.le_of_lt hB);have:=k.v20;omega) (Int.le_of_lt hP)
 have hV0:=k.V0
 have hBP:=Int.mul_pos hB hP
 have h1:(t+1)*V<=(d-1)*V:=Int.mul_le_mul_of_nonneg_right g (by omega)
 have h2:d*V<=d*((v1*B+v2+1)*P):=Int.mul_le_mul_of_nonneg_left (Int.le_of_lt k.V1) hd0
 have h3:d*(v1*B+v2)*P<=(u2*B+u0)*P:=Int.mul_le_mul_of_nonneg_right h (Int.le_of_lt hP)
 have e:d*((v1*B+v2+1)*P)=d*(v1*B+v2)*P+d*P:=by grind
 have h4:d*P<B*P:=Int.mul_lt_mul_of_pos_right hd hP
 have e2:(d-1)*V=d*V-V:=by grind
 have:=k.R0
 have:=k.tR
 omega
end Go.Sk
namespace Go.Proofs.YtbcdabflmkgkiaaGreatDoor
open Go Go.Sk
theorem guess_y {F:Nat} (hF:18446744073709551616<F) {v:aZ} {u:cL} {n j:Nat} (hn:2<=n/\n<=16) (hj:j+n<=16) (hv:cV 4294967296 v.l) (hu:cV 4294967296 u.l) {P V R t:Int}
 (K:Kn 4294967296 P (dg v.l (n-1)) (dg v.l (n-2)) V (dg u.l (j+n)*4294967296+dg u.l (j+n-1)) (dg u.l (j+n-2)) R t) :
 ar (mr F v (n:Int) (j:Int) u) fun d=>t<=d/\d<=t+1/\0<=d/\d<4294967296:=by
 unfold mr
 have hw0:i64.wrap ((j:Int)+(n:Int))=((j+n:Nat):Int):=by rw[cM];omega
 have hw1:i64.wrap (((j+n:Nat):Int)-1)=((j+n-1:Nat):Int):=by rw[cM];omega
 have hw2:i64.wrap (((j+n:Nat):Int)-2)=((j+n-2:Nat):Int):=by rw[cM];omega
 have hw3:i64.wrap ((n:Int)-1)=((n-1:Nat):Int):=by rw[cM];omega
 have hw4:i64.wrap ((n:Int)-2)=((n-2:Nat):Int):=by rw[cM];omega
 simp only[hw0,hw1,hw2,hw3,hw4]
 refine ar.idx (by omega) (by rw[cL.cj];omega) (ar.idx (by omega) (by rw[cL.cj];omega) (ar.idx (by omega) (by rw[aZ.cj];omega) ?_))
 simp only[dY,Int.toNat_natCast]
 have a1:=hu (j+n)
 have a2:=hu (j+n-1)
 have a3:=hu (j+n-2)
 have b1:=hv (n-1)
 have b2:=hv (n-2)
 generalize hx1:dg u.l (j+n)=x1 at *
 generalize hx2:dg u.l (j+n-1)=x2 at *
 generalize hx3:dg u.l (j+n-2)=u0 at *
 generalize hy1:dg v.l (n-1)=v1 at *
 generalize hy2:dg v.l (n-2)=v2 at *
 have e1:u64.wrap ((u64.wrap x1)*4294967296)=x1*4294967296:=by simp only[gH];omega
 have e2:u64.wrap x2=x2:=by rw[gH];omega
 have e3:u64.wrap v1=v1:=by rw[gH];omega
 have c0:lx .u64 (x1*4294967296) x2=x1*4294967296+x2:=pB 32 (by omega) (by omega) (by rw[Cr];omega) a2.1 (by rw[Cr];omega) (by omega)
 rw[e1,e2,e3,c0]
 obtain⟨u2,hu2⟩:∃ u2,u2=x1*4294967296+x2:=⟨_,rfl⟩
 rw[← hu2] at K ⊢
 have hv1:=K.v10
 have b4:0<=u2:=by omega
 have h21:u2<18446744073709551616:=by omega
 have c1:=K.up1
 have hup:=K.up
 have hlt:=K.u2lt
 have ht0:=K.t0
 have ht1:=K.t1
 have hd1:=Int.mul_ediv_add_emod u2 v1
 have hm0:=Int.emod_nonneg u2 (show v1≠0 by omega)
 have hm1:=Int.emod_lt_of_pos u2 (show 0<v1 by omega)
 have hq1:u2/v1<=u2:=Int.ediv_le_self _ b4
 have hqn:0<=v1*(u2/v1):=Int.mul_nonneg (by omega) (Int.ediv_nonneg b4 (by omega))
 have hqt:t<=u2/v1:=by rw[Int.le_ediv_iff_mul_le (by omega)];exact c1
 refine ar.quo (by omega) (ar.rem (by omega) ?_)
 rw[eR b4,fl b4]
 have e4:u64.wrap (u2/v1)=u2/v1:=by rw[gH];omega
 rw[e4]
 refine ar.bind (P:=fun d=>t<=d/\d<=t+1/\0<=d/\d<4294967296) (ar.loop (fun (s:Int×Int)=>t<=s.1/\s.1<=u2/\0<=s.2/\s.2<=u2/\v1*s.1+s.2=u2) (fun s=>s.1.toNat) ⟨hqt,hq1,hm0,by dsimp only;omega,hd1⟩ (by dsimp only;omega) ?_) (fun d hd=>ar.some hd)
 rintro⟨d,r⟩ ⟨d0,d1,r0,r1,hs⟩
 dsimp only at d0 d1 r0 r1 hs
 dsimp only[bQ]
 have b0:0<=d:=by omega
 have step:t<=d-1->r<4294967296->ar (bA (u64.wrap (r+v1)) fun c2=>(some (.inl (u64.wrap (d-1),c2)):Option ((Int×Int)⊕Int))) fun o=>(∃ s',o=.inl s'/\(t<=s'.1/\s'.1<=u2/\0<=s'.2/\s'.2<=u2/\v1*s'.1+s'.2=u2)/\s'.1.toNat<d.toNat)∨∃ t',o=.inr t'/\t<=t'/\t'<=t+1/\0<=t'/\t'<4294967296:=fun g hr=>by
  have e5:u64.wrap (r+v1)=r+v1:=by rw[gH];omega
  have e6:u64.wrap (d-1)=d-1:=by rw[gH];omega
  have e7:v1*(d-1)+(r+v1)=u2:=by rw[Int.mul_sub];omega
  have e8:0<=v1*(d-1):=Int.mul_nonneg (by omega) (by omega)
  rw[e5,e6]
  exact ar.ln (ar.some (.inl ⟨_,rfl,⟨g,by dsimp only;omega,by dsimp only;omega,by dsimp only;omega,e7⟩,by dsimp only;omega⟩))
 by_cases hr:r<4294967296
 have b5:decide (r<4294967296)=true:=decide_eq_true hr
 by_cases hd:4294967296<=d
 have c3:decide (4294967296<=d)=true:=decide_eq_true hd
 rw[b5,c3]
 refine ar.g0 rfl (ar.g0 rfl (ar.zA rfl ?_))
 exact step (by omega) hr
 have c3:decide (4294967296<=d)=false:=decide_eq_false hd
 rw[b5,c3]
 refine ar.g1 rfl (ar.idx (by omega) (by rw[aZ.cj];omega) (ar.g1 rfl (ar.idx (by omega) (by rw[cL.cj];omega) ?_)))
 simp only[dY,Int.toNat_natCast,hx3,hy2,Bool.true_and,Bool.false_or]
 have e5:u64.wrap (r*4294967296)=r*4294967296:=by rw[gH];omega
 have e6:u64.wrap u0=u0:=by rw[gH];omega
 have e7:u64.wrap v2=v2:=by rw[gH];omega
 have hm:=mC (m:=4294967296) ⟨b0,by omega⟩ b2
 have e8:u64.wrap (d*v2)=d*v2:=by rw[gH];omega
 have b3:lx .u64 (r*4294967296) u0=r*4294967296+u0:=pB 32 (by omega) (by omega) (by rw[Cr];omega) a3.1 (by rw[Cr];omega) (by omega)
 rw[e5,e6,e7,e8,b3]
 have e9:d*(v1*4294967296+v2)=(v1*d)*4294967296+d*v2:=by grind
 refine ar.ite (fun h=>?_) (fun h=>?_)
 have h':=of_decide_eq_true h
 refine step ?_ hr
 rcases (by omega:d=t∨t<=d-1) with e|e
 rw[← e,e9] at hup
 omega
 exact e
 have h':=of_decide_eq_false h
 exact ar.some (.inr ⟨_,rfl,d0,K.fin b0 (by rw[e9];omega) (by omega),b0,by omega⟩)
 have b5:decide (r<4294967296)=false:=decide_eq_false hr
 rw[b5]
 refine ar.g0 rfl (ar.g0 rfl (ar.iff rfl ?_))
 have hdB:d<4294967296:=by
  rcases (by omega:d<4294967296∨4294967296<=d) with e|e
  exact e
  have:=Int.mul_le_mul_of_nonneg_left e (show 0<=v1 by omega)
  omega
 have hm:=mC (m:=4294967296) ⟨b0,hdB⟩ b2
 have e9:d*(v1*4294967296+v2)=(v1*d)*4294967296+d*v2:=by grind
 exact ar.some (.inr ⟨_,rfl,d0,K.fin b0 (by rw[e9];omega) hdB,b0,hdB⟩)
theorem vN {u:cL} {j k:Nat} {x:Int} (h:j+k<17):win (u.set ((j+k:Nat):Int) x).l j (k+1)=win u.l j k+x*4294967296 ^ k:=by
 rw[gl,cL.fp (by omega) (by omega),Int.toNat_natCast,if_pos rfl]
 congr 1
 exact xY fun i h1 h2=>by rw[cL.fp (by omega) (by omega),Int.toNat_natCast,if_neg (by omega)]
def tH (u w:cL) (j n:Nat):Prop:=∀ i,(i<j∨j+n<i)->dg w.l i=dg u.l i
theorem take_y {F:Nat} (hF:100<F) {v:aZ} {u:cL} {n j:Nat} (hn:n<=16) (hj:j+n<=16) (hv:cV 4294967296 v.l) (hu:cV 4294967296 u.l) {d:Int} (hd:0<=d/\d<4294967296) :
 ar (ot F v (n:Int) (j:Int) d u) fun p=>cV 4294967296 p.2.l/\tH u p.2 j n/\win u.l j (n+1)+(if p.1=true then 1 else 0)*4294967296 ^ (n+1)=win p.2.l j (n+1)+d*win v.l 0 n:=by
 unfold ot
 have hw0:i64.wrap ((j:Int)+(n:Int))=((j+n:Nat):Int):=by rw[cM];omega
 rw[hw0]
 refine ar.bind (P:=fun (p:cL×Int×Int)=>cV 4294967296 p.1.l/\(∀ i,(i<j∨j+n<=i)->dg p.1.l i=dg u.l i)/\(0<=p.2.1/\p.2.1<4294967296)/\(0<=p.2.2/\p.2.2<=1)/\win u.l j n+(p.2.1+p.2.2)*4294967296 ^ n=win p.1.l j n+d*win v.l 0 n)
  (ar.rounds n (fun (k:Nat) (s:cL×Int×Int×Int)=>s.2.2.2=(k:Int)/\cV 4294967296 s.1.l/\(∀ i,(i<j∨j+k<=i)->dg s.1.l i=dg u.l i)/\(0<=s.2.1/\s.2.1<4294967296)/\(0<=s.2.2.1/\s.2.2.1<=1)/\win u.l j k+(s.2.1+s.2.2.1)*4294967296 ^ k=win s.1.l j k+d*win v.l 0 k) (by omega) ⟨rfl,hu,fun i _=>rfl,⟨Int.le_refl _,(by decide:(0:Int)<4294967296)⟩,⟨Int.le_refl _,(by decide:(0:Int)<=1)⟩,by simp[win,ds]⟩ ?_) ?_
 rintro k ⟨w,c,b,kx⟩ hk ⟨rfl,win_,wo,⟨c0,c1⟩,⟨b0,b1⟩,hs⟩
 dsimp only at win_ wo c0 c1 b0 b1 hs
 dsimp only[Ba]
 refine ar.ite (fun h=>?_) (fun h=>?_)
 have b3:k<n:=by have:=of_decide_eq_true h;omega
 have hwk:i64.wrap ((j:Int)+(k:Int))=((j+k:Nat):Int):=by rw[cM];omega
 rw[hwk]
 have hvk:=hv k
 have huk:=hu (j+k)
 have b2:=wo (j+k) (.inr (Nat.le_refl _))
 have hm:=mC (m:=4294967296) hd hvk
 refine ar.idx (by omega) (by rw[aZ.cj];omega) ?_
 simp only[dY,Int.toNat_natCast]
 refine ar.vE (d*dg v.l k) (by simp only[gH];rw[Int.emod_eq_of_lt (a:=dg v.l k) (by omega) (by omega)];omega) (ar.idx (by omega) (by rw[cL.cj];omega) ?_)
 simp only[dY,Int.toNat_natCast,b2]
 obtain⟨p,hp⟩:∃ p,p=c+d*dg v.l k:=⟨_,rfl⟩
 have hp0:0<=p/\p<18446744073709551616:=by omega
 have hpw:u64.wrap (c+d*dg v.l k)=p:=by rw[gH];omega
 rw[hpw]
 generalize hU:dg u.l (j+k)=U at *
 refine ar.vE (p%4294967296) (by rw[l9]) ?_
 obtain⟨τ,hτ⟩:∃ τ,τ=U-p%4294967296-b:=⟨_,rfl⟩
 refine ar.ln (ar.vE (τ%4294967296) (by simp only[l9,gH];omega) (ar.idx (by omega) (by rw[cL.cj];omega) (ar.vE (if τ<0 then 1 else 0) (by simp only[gH];split<;>omega) (ar.vE (p/4294967296) rfl (ar.some (.inl ⟨_,rfl,⟨by dsimp only;rw[cM];omega,cL.jS win_ (by omega) (by omega) (by omega),fun i hi=>?_,⟨by dsimp only;omega,by dsimp only;omega⟩,⟨by dsimp only;split<;>omega,by dsimp only;split<;>omega⟩,?_⟩,b3⟩))))))
 dsimp only
 rw[cL.fp (by omega) (by omega),Int.toNat_natCast,if_neg (by omega)]
 exact wo i (by omega)
 dsimp only
 rw[vN (by omega),gl,gl,hU,Nat.zero_add,Int.pow_succ]
 have e1:d*dg v.l k=p-c:=by omega
 have e2:p=p%4294967296+p/4294967296*4294967296:=by omega
 have e3:U-p%4294967296-b=τ%4294967296-(if τ<0 then 1 else 0)*4294967296:=by rw[← hτ];split<;>omega
 generalize p%4294967296=pl at *
 generalize p/4294967296=ph at *
 generalize (if τ<0 then (1:Int) else 0)=bo at *
 generalize τ%4294967296=tl at *
 have e4:U=tl-bo*4294967296+pl+b:=by omega
 have e5:d*dg v.l k=pl+ph*4294967296-c:=by omega
 have e6:d*(win v.l 0 k+dg v.l k*4294967296 ^ k)=d*win v.l 0 k+(d*dg v.l k)*4294967296 ^ k:=by grind
 rw[e6,e5,e4]
 grind
 have b3:k=n:=by have:=of_decide_eq_false h;omega
 subst b3
 exact ar.some (.inr ⟨_,rfl,win_,wo,⟨c0,c1⟩,⟨b0,b1⟩,hs⟩)
 rintro⟨w,c,b⟩ ⟨win_,wo,⟨c0,c1⟩,⟨b0,b1⟩,hs⟩
 dsimp only at win_ wo c0 c1 b0 b1 hs
 dsimp only[iJ]
 have huk:=hu (j+n)
 have b2:=wo (j+n) (.inr (Nat.le_refl _))
 refine ar.idx (by omega) (by rw[cL.cj];omega) ?_
 simp only[dY,Int.toNat_natCast,b2]
 generalize hU:dg u.l (j+n)=U at *
 obtain⟨τ,hτ⟩:∃ τ,τ=U-c-b:=⟨_,rfl⟩
 refine ar.ln (ar.vE (τ%4294967296) (by simp only[l9,gH];omega) (ar.idx (by omega) (by rw[cL.cj];omega) (ar.vE (if τ<0 then 1 else 0) (by simp only[gH];split<;>omega) (ar.some ⟨cL.jS win_ (by omega) (by omega) (by omega),fun i hi=>?_,?_⟩))))
 dsimp only
 rw[cL.fp (by omega) (by omega),Int.toNat_natCast,if_neg (by omega)]
 exact wo i (by omega)
 dsimp only
 rw[vN (by omega),gl,hU,Int.pow_succ]
 have e3:U-c-b=τ%4294967296-(if τ<0 then 1 else 0)*4294967296:=by rw[← hτ];split<;>omega
 have e7:(if decide ((if τ<0 then (1:Int) else 0)=1)=true then (1:Int) else 0)=if τ<0 then 1 else 0:=by
  by_cases h:τ<0
  rw[if_pos h];rfl
  rw[if_neg h];rfl
 rw[e7]
 generalize (if τ<0 then (1:Int) else 0)=bo at *
 generalize τ%4294967296=tl at *
 have e4:U=tl-bo*4294967296+c+b:=by omega
 rw[e4]
 grind
theorem give_y {F:Nat} (hF:100<F) {v:aZ} {u:cL} {n j:Nat} (hn:n<=16) (hj:j+n<=16) (hv:cV 4294967296 v.l) (hu:cV 4294967296 u.l) :
 ar (ou F v (n:Int) (j:Int) u) fun w=>cV 4294967296 w.l/\tH u w j n/\win w.l j (n+1)=(win u.l j (n+1)+win v.l 0 n)%4294967296 ^ (n+1):=by
 unfold ou
 have hw0:i64.wrap ((j:Int)+(n:Int))=((j+n:Nat):Int):=by rw[cM];omega
 rw[hw0]
 refine ar.bind (P:=fun (p:cL×Int)=>cV 4294967296 p.1.l/\(∀ i,(i<j∨j+n<=i)->dg p.1.l i=dg u.l i)/\(0<=p.2/\p.2<=1)/\win p.1.l j n+p.2*4294967296 ^ n=win u.l j n+win v.l 0 n)
  (ar.rounds n (fun (k:Nat) (s:cL×Int×Int)=>s.2.2=(k:Int)/\cV 4294967296 s.1.l/\(∀ i,(i<j∨j+k<=i)->dg s.1.l i=dg u.l i)/\(0<=s.2.1/\s.2.1<=1)/\win s.1.l j k+s.2.1*4294967296 ^ k=win u.l j k+win v.l 0 k) (by omega) ⟨rfl,hu,fun i _=>rfl,⟨Int.le_refl _,(by decide:(0:Int)<=1)⟩,by simp[win,ds]⟩ ?_) ?_
 rintro k ⟨w,c,kx⟩ hk ⟨rfl,win_,wo,⟨c0,c1⟩,hs⟩
 dsimp only at win_ wo c0 c1 hs
 dsimp only[iJ]
 refine ar.ite (fun h=>?_) (fun h=>?_)
 have b1:k<n:=by have:=of_decide_eq_true h;omega
 have hwk:i64.wrap ((j:Int)+(k:Int))=((j+k:Nat):Int):=by rw[cM];omega
 rw[hwk]
 have hvk:=hv k
 have huk:=hu (j+k)
 have b0:=wo (j+k) (.inr (Nat.le_refl _))
 refine ar.idx (by omega) (by rw[cL.cj];omega) (ar.idx (by omega) (by rw[aZ.cj];omega) ?_)
 simp only[dY,Int.toNat_natCast,b0]
 generalize hU:dg u.l (j+k)=U at *
 generalize hV:dg v.l k=V at *
 have e0:u64.wrap (c+(u64.wrap ((u64.wrap U)+(u64.wrap V))))=c+(U+V):=by simp only[gH];omega
 obtain⟨p,hp⟩:∃ p,p=c+(U+V):=⟨_,rfl⟩
 refine ar.vE p (by rw[e0,hp]) (ar.idx (by omega) (by rw[cL.cj];omega) (ar.vE p (by rw[e0,hp]) ?_))
 rw[l9]
 refine ar.some (.inl ⟨_,rfl,⟨by dsimp only;rw[cM];omega,cL.jS win_ (by omega) (by omega) (by omega),fun i hi=>?_,⟨by dsimp only;omega,by dsimp only;omega⟩,?_⟩,b1⟩)
 dsimp only
 rw[cL.fp (by omega) (by omega),Int.toNat_natCast,if_neg (by omega)]
 exact wo i (by omega)
 dsimp only
 rw[vN (by omega),gl,gl,hU,Nat.zero_add,hV,Int.pow_succ]
 have e2:p=p%4294967296+p/4294967296*4294967296:=by omega
 generalize p%4294967296=pl at *
 generalize p/4294967296=ph at *
 have e4:U=pl+ph*4294967296-c-V:=by omega
 rw[e4]
 grind
 have b1:k=n:=by have:=of_decide_eq_false h;omega
 subst b1
 exact ar.some (.inr ⟨_,rfl,win_,wo,⟨c0,c1⟩,hs⟩)
 rintro⟨w,c⟩ ⟨win_,wo,⟨c0,c1⟩,hs⟩
 dsimp only at win_ wo c0 c1 hs
 dsimp only[bQ]
 have huk:=hu (j+n)
 have b0:=wo (j+n) (.inr (Nat.le_refl _))
 refine ar.idx (by omega) (by rw[cL.cj];omega) (ar.idx (by omega) (by rw[cL.cj];omega) ?_)
 simp only[dY,Int.toNat_natCast,b0]
 generalize hU:dg u.l (j+n)=U at *
 have e0:u32.wrap (U+u32.wrap c)=(U+c)%4294967296:=by simp only[l9];omega
 rw[e0]
 refine ar.some ⟨cL.jS win_ (by omega) (by omega) (by omega),fun i hi=>?_,?_⟩
 rw[cL.fp (by omega) (by omega),Int.toNat_natCast,if_neg (by omega)]
 exact wo i (by omega)
 rw[vN (by omega),gl,hU,Int.pow_succ]
 have e2:U+c=(U+c)%4294967296+(U+c)/4294967296*4294967296:=by omega
 have hpw:(0:Int)<4294967296 ^ n:=Int.pow_pos (by decide)
 have hlo:=gZ win_ j n
 have hhi:=wD win_ j n
 have hx0:0<=(U+c)%4294967296/\(U+c)%4294967296<4294967296:=by omega
 generalize (U+c)%4294967296=x at *
 generalize (U+c)/4294967296=y at *
 have e3:win u.l j n+U*4294967296 ^ n+win v.l 0 n=(win w.l j n+x*4294967296 ^ n)+4294967296 ^ n*4294967296*y:=by
  have e4:U=x+y*4294967296-c:=by omega
  rw[e4]
  grind
 have h1:x*4294967296 ^ n<=4294967295*4294967296 ^ n:=Int.mul_le_mul_of_nonneg_right (by omega) (by omega)
 have h2:0<=x*4294967296 ^ n:=Int.mul_nonneg hx0.1 (by omega)
 rw[e3,Int.add_mul_emod_self_left,Int.emod_eq_of_lt (by omega) (by omega)]
end Go.Proofs.YtbcdabflmkgkiaaGreatDoor
namespace Go.Sk
theorem Gt {x:Int} (h:0<=x/\x<4294967296):cV 4294967296 [x]:=fun i=>by
 cases i with
 | zero=>exact h
 | succ i=>exact⟨Int.le_refl _,(by decide:(0:Int)<4294967296)⟩
theorem AT {A B q r:Int} (h:A=q*B+r) (h0:0<=r) (h1:r<B):A/B=q/\A%B=r:=by
 have hB:B≠0:=by omega
 have e:A=r+B*q:=by rw[h,Int.mul_comm];omega
 constructor
 rw[e,Int.add_mul_ediv_left _ _ hB,Int.ediv_eq_zero_of_lt h0 h1,Int.zero_add]
 rw[e,Int.add_mul_emod_self_left,Int.emod_eq_of_lt h0 h1]
def a17 (w:aZ) (x:Int):cL:=⟨w.a0,w.a1,w.a2,w.a3,w.a4,w.a5,w.a6,w.a7,w.a8,w.a9,w.a10,w.a11,w.a12,w.a13,w.a14,w.a15,x⟩
def Cs (u:cL):aZ:=⟨u.a0,u.a1,u.a2,u.a3,u.a4,u.a5,u.a6,u.a7,u.a8,u.a9,u.a10,u.a11,u.a12,u.a13,u.a14,u.a15⟩
theorem a17_l (w:aZ) (x:Int):(a17 w x).l=w.l++[x]:=rfl
theorem a16_l (u:cL):(Cs u).l=u.l.take 16:=rfl
theorem ED (l:List Int) (n:Nat):win l 0 n=ds 4294967296 (dg l) n:=dR fun i _=>by rw[Nat.zero_add]
theorem tm {l:List Int} {j n k:Nat} (h:∀ i,j+n<=i->dg l i=0) (hk:n<=k):win l j k=win l j n:=By (fun i hi=>h _ (by omega)) hk
theorem win_dig {l:List Int} (h:cV 4294967296 l) {n i:Nat} (hl:l.length<=n):dg l i=win l 0 n/4294967296 ^ i%4294967296:=by
 have e:win l 0 n=win l 0 (n+(i+1)):=(tm (fun k hk=>sn (by omega)) (by omega)).symm
 rw[e,ED]
 exact (FM (b:=4294967296) (by decide) (by omega) h).symm
theorem win_zero {l:List Int} (h:cV 4294967296 l) {n k i:Nat} (hl:l.length<=n) (hv:win l 0 n<4294967296 ^ k) (hi:k<=i):dg l i=0:=by
 have h1:=gZ h 0 n
 have h2:=qN (b:=4294967296) (by decide) hi
 rw[win_dig h hl,Int.ediv_eq_zero_of_lt h1 (by omega)]
 rfl
theorem win3 (l:List Int) (j m:Nat):win l j (m+3)=win l j m+(dg l (j+m)+4294967296*(dg l (j+m+1)+4294967296*dg l (j+m+2)))*4294967296 ^ m:=by
 rw[gl,gl,gl]
 have e1:(4294967296:Int) ^ (m+1)=4294967296 ^ m*4294967296:=Int.pow_succ _ _
 have e2:(4294967296:Int) ^ (m+1+1)=4294967296 ^ m*4294967296*4294967296:=by rw[Int.pow_succ,e1]
 rw[show m+2=m+1+1 from rfl,e1,e2]
 show win l j m+dg l (j+m)*4294967296 ^ m+dg l (j+m+1)*(4294967296 ^ m*4294967296)+dg l (j+m+2)*(4294967296 ^ m*4294967296*4294967296)=_
 grind
theorem win2 (l:List Int) (j m:Nat):win l j (m+2)=win l j m+(dg l (j+m)+4294967296*dg l (j+m+1))*4294967296 ^ m:=by
 rw[gl,gl]
 have e1:(4294967296:Int) ^ (m+1)=4294967296 ^ m*4294967296:=Int.pow_succ _ _
 rw[e1]
 show win l j m+dg l (j+m)*4294967296 ^ m+dg l (j+m+1)*(4294967296 ^ m*4294967296)=_
 grind
theorem MM32:MM=4294967296 ^ 16:=rfl
theorem mI (n:Nat):(0:Int)<4294967296 ^ n:=Int.pow_pos (by decide)
theorem norm_of {Bv x:Int} {m s:Nat} (hx:0<x/\x<4294967296) (hs:(s:Int)=32-fX x) (h0:x*4294967296 ^ m<=Bv) (h1:Bv<(x+1)*4294967296 ^ m):s<=31/\2147483648*4294967296 ^ m<=Bv*2 ^ s/\Bv*2 ^ s<4294967296 ^ (m+1):=by
 obtain⟨b1,b2,b3⟩:=r4 hx.1
 have b4:=rQ (m:=x) (k:=32) (by rw[Cr];exact hx.2)
 have hp:=oy s
 have hq:=mI m
 refine⟨by omega,?_,?_⟩
 have e:(2147483648:Int)=2 ^ ((fX x).toNat-1)*2 ^ s:=by
  rw[← Int.pow_add]
  have:(fX x).toNat-1+s=31:=by omega
  rw[this];decide
 have g1:2 ^ ((fX x).toNat-1)*2 ^ s<=x*2 ^ s:=Int.mul_le_mul_of_nonneg_right b2 (by omega)
 have g2:2147483648*4294967296 ^ m<=x*2 ^ s*4294967296 ^ m:=Int.mul_le_mul_of_nonneg_right (by omega) (by omega)
 have g3:x*4294967296 ^ m*2 ^ s<=Bv*2 ^ s:=Int.mul_le_mul_of_nonneg_right h0 (by omega)
 have e2:x*4294967296 ^ m*2 ^ s=x*2 ^ s*4294967296 ^ m:=by grind
 omega
 have e:(4294967296:Int)=2 ^ (fX x).toNat*2 ^ s:=by
  rw[← Int.pow_add]
  have:(fX x).toNat+s=32:=by omega
  rw[this];decide
 have g1:(x+1)*2 ^ s<=2 ^ (fX x).toNat*2 ^ s:=Int.mul_le_mul_of_nonneg_right (by omega) (by omega)
 have g2:(x+1)*2 ^ s*4294967296 ^ m<=4294967296*4294967296 ^ m:=Int.mul_le_mul_of_nonneg_right (by omega) (by omega)
 have g3:Bv*2 ^ s<(x+1)*4294967296 ^ m*2 ^ s:=Int.mul_lt_mul_of_pos_right h1 hp
 have e2:(x+1)*4294967296 ^ m*2 ^ s=(x+1)*2 ^ s*4294967296 ^ m:=by grind
 rw[Int.pow_succ,Int.mul_comm (4294967296 ^ m)]
 omega
theorem kn_of {v:aZ} {u:cL} {m j:Nat} {V R t:Int} (hv:cV 4294967296 v.l) (hu:cV 4294967296 u.l) (hV:V=win v.l 0 (m+2)) (hV2:2147483648*4294967296 ^ (m+1)<=V) (hR:R=win u.l j (m+3)) (hRV:R<4294967296*V) (ht:t=R/V) :
 Kn 4294967296 (4294967296 ^ m) (dg v.l (m+1)) (dg v.l m) V (dg u.l (j+m+2)*4294967296+dg u.l (j+m+1)) (dg u.l (j+m)) R t:=by
 have hq:=mI m
 have hVp:0<V:=by have:=mI (m+1);omega
 have w2:=win2 v.l 0 m
 have w3:=win3 u.l j m
 rw[Nat.zero_add] at w2
 rw[← hV] at w2
 rw[← hR] at w3
 have l2:=gZ hv 0 m
 have l3:=gZ hu j m
 have g2:=wD hv 0 m
 have g3:=wD hu j m
 have a1:=hv m
 have a2:=hv (m+1)
 have a3:=hu (j+m)
 have a4:=hu (j+m+1)
 have a5:=hu (j+m+2)
 have hR0:0<=R:=by rw[hR];exact gZ hu _ _
 have e1:dg v.l m+4294967296*dg v.l (m+1)=dg v.l (m+1)*4294967296+dg v.l m:=by omega
 have e2:dg u.l (j+m)+4294967296*(dg u.l (j+m+1)+4294967296*dg u.l (j+m+2))=(dg u.l (j+m+2)*4294967296+dg u.l (j+m+1))*4294967296+dg u.l (j+m):=by omega
 rw[e1] at w2
 rw[e2] at w3
 have hpp:(4294967296:Int) ^ (m+1)=4294967296 ^ m*4294967296:=Int.pow_succ _ _
 refine⟨hq,?_,a2.2,a1,by omega,by rw[Int.add_mul (_+_) 1];omega,a3,by omega,by rw[Int.add_mul (_+_) 1];omega,by rw[ht];exact Int.ediv_mul_le _ (by omega),by rw[ht];exact Int.lt_ediv_add_one_mul_self _ hVp,by rw[ht];exact Int.ediv_nonneg hR0 (by omega),by rw[ht,Int.ediv_lt_iff_lt_mul hVp];exact hRV⟩
 rcases (by omega:2147483648<=dg v.l (m+1)∨dg v.l (m+1)+1<=2147483648) with g|g
 exact g
 have h1:(dg v.l (m+1)+1)*(4294967296 ^ m*4294967296)<=2147483648*(4294967296 ^ m*4294967296):=Int.mul_le_mul_of_nonneg_right g (by omega)
 have h2:(dg v.l m+1)*4294967296 ^ m<=4294967296*4294967296 ^ m:=Int.mul_le_mul_of_nonneg_right (by omega) (by omega)
 have e3:(dg v.l (m+1)*4294967296+dg v.l m)*4294967296 ^ m=dg v.l (m+1)*(4294967296 ^ m*4294967296)+dg v.l m*4294967296 ^ m:=by grind
 have e4:(dg v.l (m+1)+1)*(4294967296 ^ m*4294967296)=dg v.l (m+1)*(4294967296 ^ m*4294967296)+4294967296 ^ m*4294967296:=by grind
 have e5:(dg v.l m+1)*4294967296 ^ m=dg v.l m*4294967296 ^ m+4294967296 ^ m:=by grind
 omega
end Go.Sk
namespace Go.Proofs.YtbcdabflmkgkiaaGreatDoor
open Go Go.Sk
theorem lz_y (F:Nat) {x:Int} (h0:0<=x) (h1:x<4294967296):eD F x=some (32-fX x):=by
 refine ar.eq ?_
 unfold eD
 refine ar.aP (Dy F h0 h1) (ar.some ?_)
 have b4:=rQ (m:=x) (k:=32) (by rw[Cr];exact h1)
 have b5:=q9 x
 rw[cM];omega
theorem AU {F:Nat} (hF:18446744073709551616<F) {v:aZ} {u:cL} {m j:Nat} {V R t:Int} (hm:m+2<=16) (hj:j+(m+2)<=16) (hv:cV 4294967296 v.l) (hu:cV 4294967296 u.l) (hV:V=win v.l 0 (m+2)) (hV2:2147483648*4294967296 ^ (m+1)<=V) (hR:R=win u.l j (m+3)) (hRV:R<4294967296*V) (ht:t=R/V) {β:Type} {k:cL->Int->Option β} {Q:β->Prop} (hk:∀ w,cV 4294967296 w.l->tH u w j (m+2)->win w.l j (m+3)=R-t*V->ar (k w t) Q) :
 ar (Option.bind (mr F v ((m+2:Nat):Int) (j:Int) u) (fun b0=>Option.bind (Option.bind (ot F v ((m+2:Nat):Int) (j:Int) b0 u) (bQ fun b3 b1=>if b3=true then (Option.bind (ou F v ((m+2:Nat):Int) (j:Int) b1) (fun b4=>some (b4,u64.wrap (b0-1)))) else (some (b1,b0)))) (bQ k))) Q:=by
 have K:=kn_of hv hu hV hV2 hR hRV ht
 have hVB:V<4294967296 ^ (m+3):=by
  have h1:=wD hv 0 (m+2)
  have h2:=qN (b:=4294967296) (by decide) (show m+2<=m+3 by omega)
  omega
 have hVp:0<V:=by have:=mI (m+1);omega
 refine ar.bind (guess_y hF (n:=m+2) (j:=j) (by omega) hj hv hu (P:=4294967296 ^ m) (V:=V) (R:=R) (t:=t) ?_) ?_
 have e1:m+2-1=m+1:=by omega
 have e2:m+2-2=m:=by omega
 have e3:j+(m+2)=j+m+2:=by omega
 have e4:j+(m+2)-1=j+m+1:=by omega
 have e5:j+(m+2)-2=j+m:=by omega
 rw[e1,e2,e4,e5,e3]
 exact K
 rintro d ⟨d0,d1,d2,d3⟩
 have ht1:=K.t1
 have ht0:=K.t0
 have hRt:=K.Rt
 have b5:=K.tR
 have e9:(t+1)*V=t*V+V:=by grind
 rw[e9] at b5
 refine ar.bind (P:=fun p=>p.2=t/\cV 4294967296 p.1.l/\tH u p.1 j (m+2)/\win p.1.l j (m+3)=R-t*V) (ar.bind (take_y (by omega) (n:=m+2) (j:=j) hm hj hv hu ⟨d2,d3⟩) ?_) ?_
 rintro⟨bw,w⟩ ⟨win_,wo,hs⟩
 dsimp only at win_ wo hs
 dsimp only[bQ]
 rw[← hV] at hs
 have b2:R+(if bw=true then 1 else 0)*4294967296 ^ (m+3)=win w.l j (m+3)+d*V:=by rw[hR];exact hs
 clear hs
 have w0:=gZ win_ j (m+3)
 have w1:=wD win_ j (m+3)
 rcases (by omega:d=t∨d=t+1) with e|e
 subst e
 cases bw with
 | true=>
  simp only[if_true] at b2
  omega
 | false=>
  refine ar.iff rfl (ar.some ⟨rfl,win_,wo,?_⟩)
  simp only[Bool.false_eq_true,if_false] at b2
  dsimp only
  omega
 subst e
 rw[e9] at b2
 cases bw with
 | false=>
  simp only[Bool.false_eq_true,if_false] at b2
  omega
 | true=>
  simp only[if_true] at b2
  refine ar.zA rfl (ar.bind (give_y (by omega) (n:=m+2) (j:=j) hm hj hv win_) ?_)
  rintro z ⟨zin,zo,hz⟩
  have hz':win z.l j (m+3)=(win w.l j (m+3)+V)%4294967296 ^ (m+3):=by rw[hV];exact hz
  have e10:win w.l j (m+3)+V=(R-t*V)+4294967296 ^ (m+3)*1:=by omega
  rw[e10,Int.add_mul_emod_self_left,Int.emod_eq_of_lt (by omega) (by omega)] at hz'
  refine ar.some ⟨?_,zin,fun i hi=>by rw[zo i hi,wo i hi],hz'⟩
  dsimp only
  rw[gH];omega
 rintro⟨w,d'⟩ ⟨rfl,h1,h2,h3⟩
 exact hk w h1 h2 h3
theorem xl {F:Nat} (hF:18446744073709551616<F) {a b:aZ} (ha:cV 4294967296 a.l) (hb:cV 4294967296 b.l) (h0:av b≠0):jq F a b=some (u7 (av a/av b),u7 (av a%av b)):=by
 refine ar.eq ?_
 have hb0:=(gr hb).1
 have ha0:=(gr ha).1
 have c1:0<av b:=by omega
 unfold jq
 refine ar.bind (sL (by omega)) ?_
 rintro nb ⟨nb0,nb1,nbz,nbt⟩
 refine ar.bind (sL (by omega)) ?_
 rintro na ⟨na0,na1,naz,nat⟩
 refine ar.aP (CZ (by omega) ha hb) ?_
 obtain⟨m,rfl⟩:∃ m:Nat,nb=m:=⟨nb.toNat,by omega⟩
 obtain⟨l,rfl⟩:∃ l:Nat,na=l:=⟨na.toNat,by omega⟩
 rw[Int.toNat_natCast] at nbz nbt naz nat
 refine ar.ite (fun h=>?_) (fun h=>?_)
 have h':=of_decide_eq_true h
 have hlt:av a<av b:=by
  rcases (by omega:av a<av b∨¬ av a<av b) with g|g
  exact g
  rw[if_neg g] at h';split at h'<;>omega
 refine ar.some ?_
 rw[Int.ediv_eq_zero_of_lt ha0 hlt,Int.emod_eq_of_lt ha0 hlt,qv ha,← zero_eq]
 have h':=of_decide_eq_false h
 have hge:av b<=av a:=by
  rcases (by omega:av a<av b∨av b<=av a) with g|g
  rw[if_pos g] at h';omega
  exact g
 clear h h'
 have b5:av b=ds 4294967296 (dg b.l) m:=mL (by omega) fun i h1 h2=>nbz i h1 h2
 have ham:av a=ds 4294967296 (dg a.l) l:=mL (by omega) fun i h1 h2=>naz i h1 h2
 refine ar.ite (fun h=>?_) (fun h=>?_)
 have h1:m=1:=by have:=of_decide_eq_true h;omega
 subst h1
 have e1:av b=b.a0:=by rw[b5];simp[ds];rfl
 have hb1:=hb 0
 have e2:dg b.l 0=b.a0:=rfl
 rw[e2] at hb1
 refine ar.aP (short_y (by omega) ha (b:=b.a0) (by omega)) ?_
 dsimp only[bQ]
 refine ar.ln (ar.some ?_)
 rw[e1]
 congr 1
 have hm0:=Int.emod_nonneg (av a) (show b.a0≠0 by omega)
 have hm1:=Int.emod_lt_of_pos (av a) (show 0<b.a0 by omega)
 refine yM (Bq (a:=av a%b.a0) (b:=0) ⟨hm0,by omega⟩ ⟨Int.le_refl _,by decide⟩) ?_
 rw[BF]
 omega
 have h1:m≠1:=by have:=of_decide_eq_false h;omega
 clear h
 have hm0:m≠0:=by
  rintro rfl
  rw[b5] at c1
  exact absurd c1 (by simp[ds])
 obtain⟨m,rfl⟩:∃ m',m=m'+2:=⟨m-2,by omega⟩
 have hml:m+2<=l:=by
  rcases Nat.lt_or_ge l (m+2) with g|g
  have g1:=qp (b:=4294967296) (by decide) (f:=dg a.l) (n:=l) fun i _=>ha i
  have g2:=nbt (by omega)
  have e3:m+2-1=m+1:=by omega
  rw[e3] at g2
  have g3:=hb (m+1)
  have g4:=eo (b:=4294967296) (by decide) (f:=dg b.l) (n:=m+1) fun i _=>(hb i).1
  have g5:1*(4294967296:Int) ^ (m+1)<=dg b.l (m+1)*4294967296 ^ (m+1):=Int.mul_le_mul_of_nonneg_right (by omega) (Int.le_of_lt (mI _))
  have g6:=qN (b:=4294967296) (by decide) (show l<=m+1 by omega)
  rw[b5,ham,dG] at hge
  omega
  exact g
 have hw1:i64.wrap (((m+2:Nat):Int)-1)=((m+1:Nat):Int):=by rw[cM];omega
 have hwl:i64.wrap ((l:Int)-((m+2:Nat):Int))=((l-(m+2):Nat):Int):=by rw[cM];omega
 rw[hw1]
 refine ar.idx (by omega) (by rw[aZ.cj];omega) ?_
 simp only[dY,Int.toNat_natCast]
 have hx:=hb (m+1)
 have hxt:dg b.l (m+1)≠0:=by
  have g2:=nbt (by omega)
  have e3:m+2-1=m+1:=by omega
  rw[e3] at g2
  exact g2
 generalize hxx:dg b.l (m+1)=x at *
 refine ar.aP (lz_y F hx.1 hx.2) ?_
 have b4:=rQ (m:=x) (k:=32) (by rw[Cr];exact hx.2)
 obtain⟨s,hs⟩:∃ s:Nat,(s:Int)=32-fX x:=⟨(32-fX x).toNat,by omega⟩
 rw[← hs]
 have hlo:ds 4294967296 (dg b.l) (m+1)<4294967296 ^ (m+1):=qp (by decide) fun i _=>hb i
 have hlo0:=eo (b:=4294967296) (by decide) (f:=dg b.l) (n:=m+1) fun i _=>(hb i).1
 have hbs:av b=ds 4294967296 (dg b.l) (m+1)+x*4294967296 ^ (m+1):=by rw[b5,dG,hxx]
 obtain⟨b0,hn1,hn2⟩:=norm_of (Bv:=av b) (x:=x) (m:=m+1) (s:=s) ⟨by omega,hx.2⟩ hs (by omega) (by rw[Int.add_mul x 1];omega)
 refine ar.bind (up_y (by omega) hb b0) ?_
 rintro⟨v,cv⟩ ⟨vin,cv0,cv1,vs⟩
 dsimp only at vin cv0 cv1 vs
 refine ar.bind (up_y (by omega) ha b0) ?_
 rintro⟨w,cw⟩ ⟨win_,cw0,cw1,ws⟩
 dsimp only at win_ cw0 cw1 ws
 dsimp only[bQ]
 have c2:=oy s
 have hp31:=yX b0
 have hvr:=gr vin
 have hcv:cv=0:=by
  have g1:=qN (b:=4294967296) (by decide) (show m+1+1<=16 by omega)
  rw[← MM32] at g1
  rcases (by omega:cv=0∨1<=cv) with g|g
  exact g
  have:=Int.mul_le_mul_of_nonneg_right g (show 0<=MM by have:=BI;omega)
  omega
 subst hcv
 rw[Int.zero_mul,Int.add_zero] at vs
 obtain⟨V,hVd⟩:∃ V,V=av v:=⟨_,rfl⟩
 have hVs:V=av b*2 ^ s:=by rw[hVd,vs]
 have hVw:V=win v.l 0 (m+2):=by
  have e1:V=win v.l 0 16:=by rw[hVd,ED];rfl
  rw[e1]
  refine tm (fun i hi=>win_zero vin (n:=16) (k:=m+2) (by rw[aZ.cj];omega) ?_ (by omega)) (by omega)
  rw[← e1,hVs];exact hn2
 have hVp:0<V:=by rw[hVs];exact Int.mul_pos c1 c2
 rw[hwl]
 obtain⟨J,hJ⟩:∃ J,J=l-(m+2):=⟨_,rfl⟩
 rw[← hJ]
 have hcw:cw<4294967296:=by omega
 show ar (Option.bind (iter F _ (aZ.zero,a17 w cw,(J:Int))) _) _
 have b1:cV 4294967296 (a17 w cw).l:=fun i=>by
  rw[a17_l,oM]
  split
  exact win_ i
  exact Gt ⟨cw0,hcw⟩ _
 obtain⟨u0,c3⟩:∃ u0,u0=a17 w cw:=⟨_,rfl⟩
 rw[← c3] at b1 ⊢
 have hU:win u0.l 0 17=av a*2 ^ s:=by
  rw[gl,← ws,MM32]
  have e1:win u0.l 0 16=av w:=by
   rw[c3,ED]
   exact dR fun i hi=>by rw[a17_l,oM,if_pos (by rw[aZ.cj];exact hi)]
  have e2:dg u0.l (0+16)=cw:=by rw[c3];rfl
  rw[e1,e2]
 have hUl:win u0.l 0 17<4294967296 ^ (J+1)*(4294967296 ^ (m+1)*2 ^ s):=by
  have g1:=qp (b:=4294967296) (by decide) (f:=dg a.l) (n:=l) fun i _=>ha i
  rw[← ham] at g1
  have g2:=Int.mul_lt_mul_of_pos_right g1 c2
  rw[hU,← Int.mul_assoc,← Int.pow_add]
  have e1:J+1+(m+1)=l:=by omega
  rw[e1];exact g2
 have hVge:4294967296 ^ (m+1)*2 ^ s<=V:=by
  have g1:1*4294967296 ^ (m+1)<=x*4294967296 ^ (m+1):=Int.mul_le_mul_of_nonneg_right (by omega) (Int.le_of_lt (mI _))
  have g2:=Int.mul_le_mul_of_nonneg_right (show 4294967296 ^ (m+1)<=av b by omega) (Int.le_of_lt c2)
  rw[hVs];exact g2
 have hUz:∀ i,J+1+(m+2)<=i->dg u0.l i=0:=fun i hi=>by
  refine win_zero b1 (n:=17) (k:=J+1+(m+2)) (by rw[cL.cj];omega) ?_ hi
  have g1:(4294967296:Int) ^ (m+1)*2 ^ s<=4294967296 ^ (m+1)*4294967296:=Int.mul_le_mul_of_nonneg_left (by omega) (Int.le_of_lt (mI _))
  have g2:=Int.mul_le_mul_of_nonneg_left g1 (Int.le_of_lt (mI (J+1)))
  rw[← Int.pow_succ,← Int.pow_add] at g2
  have g3:(4294967296:Int) ^ (J+1+(m+1).succ)=4294967296 ^ (J+1+(m+2)):=rfl
  omega
 have hUt:win u0.l (J+1) (m+2)<V:=by
  have e1:win u0.l (J+1) (m+2)=win u0.l (0+(J+1)) (17-(J+1)):=by
   rw[Nat.zero_add]
   exact (tm (fun i hi=>hUz i hi) (by omega)).symm
  have e2:17=(J+1)+(17-(J+1)):=by omega
  rw[e1,← win_div b1,← e2,Int.ediv_lt_iff_lt_mul (mI _)]
  have g1:=Int.mul_le_mul_of_nonneg_left hVge (Int.le_of_lt (mI (J+1)))
  rw[Int.mul_comm V]
  omega
 refine ar.bind (P:=fun (p:aZ×cL)=>cV 4294967296 p.1.l/\cV 4294967296 p.2.l/\win u0.l 0 17=win p.1.l 0 17*V+win p.2.l 0 (m+2)/\win p.2.l 0 (m+2)<V/\∀ i,m+2<=i->dg p.2.l i=0)
  (ar.rounds (J+1) (fun (k:Nat) (st:aZ×cL×Int)=>st.2.2=(J:Int)-(k:Int)/\cV 4294967296 st.1.l/\cV 4294967296 st.2.1.l/\(∀ i,i<J+1-k->dg st.2.1.l i=dg u0.l i)/\(∀ i,J+1-k+(m+2)<=i->dg st.2.1.l i=0)/\win st.2.1.l (J+1-k) (m+2)<V/\win u0.l (J+1-k) (17-(J+1-k))=win st.1.l (J+1-k) (17-(J+1-k))*V+win st.2.1.l (J+1-k) (m+2)) (by omega) ⟨by dsimp only;omega,kC,b1,fun i _=>rfl,hUz,hUt,?_⟩ ?_) ?_
 dsimp only
 have e1:win aZ.zero.l (J+1-0) (17-(J+1-0))=0:=nK fun i _=>by
  have:aZ.zero.l=List.replicate 16 0:=rfl
  rw[this,dO]
 rw[e1,Int.zero_mul,Int.zero_add]
 exact tm (fun i hi=>hUz i hi) (by omega)
 rintro k ⟨q,u,jx⟩ hk ⟨rfl,qin,uin,ulo,uhi,ult,us⟩
 dsimp only at qin uin ulo uhi ult us
 dsimp only[iJ]
 refine ar.ite (fun h=>?_) (fun h=>?_)
 have c4:k<J+1:=by have:=of_decide_eq_true h;omega
 obtain⟨j,hj⟩:∃ j,j=J-k:=⟨_,rfl⟩
 have ej:(J:Int)-(k:Int)=(j:Int):=by omega
 have ej1:J+1-k=j+1:=by omega
 rw[ej]
 rw[ej1] at ulo uhi ult us
 obtain⟨R,hR⟩:∃ R,R=win u.l j (m+3):=⟨_,rfl⟩
 have hR2:R=dg u.l j+4294967296*win u.l (j+1) (m+2):=by rw[hR];exact win_cons u.l j (m+2)
 have hdj:=uin j
 have hRV:R<4294967296*V:=by omega
 have e4:0<=R:=by rw[hR];exact gZ uin _ _
 obtain⟨t,ht⟩:∃ t,t=R/V:=⟨_,rfl⟩
 have ht0:0<=t:=by rw[ht];exact Int.ediv_nonneg e4 (by omega)
 have ht1:t<4294967296:=by rw[ht,Int.ediv_lt_iff_lt_mul hVp];exact hRV
 have hRt:t*V<=R:=by rw[ht];exact Int.ediv_mul_le _ (by omega)
 have e5:R<(t+1)*V:=by rw[ht];exact Int.lt_ediv_add_one_mul_self _ hVp
 have e9:(t+1)*V=t*V+V:=by grind
 rw[e9] at e5
 refine ar.bind (P:=fun p=>p.1=q.set (j:Int) t/\cV 4294967296 p.2.l/\tH u p.2 j (m+2)/\win p.2.l j (m+3)=R-t*V) (AU hF (j:=j) (by omega) (by omega) vin uin hVw (by rw[hVs];exact hn1) hR hRV ht ?_) ?_
 intro w1 g1 g2 g3
 refine ar.idx (by omega) (by rw[aZ.cj];omega) (ar.some ⟨?_,g1,g2,g3⟩)
 dsimp only
 rw[l9]
 congr 1
 omega
 rintro⟨q1,u1⟩ ⟨rfl,b2,e6,u1w⟩
 dsimp only at b2 e6 u1w
 dsimp only[bQ]
 have hVB:V<4294967296 ^ (m+2):=by rw[hVs];exact hn2
 have b3:dg u1.l (j+(m+2))=0/\win u1.l j (m+2)=R-t*V:=by
  have e1:win u1.l j (m+3)=win u1.l j (m+2)+dg u1.l (j+(m+2))*4294967296 ^ (m+2):=gl _ _ _
  have g1:=gZ b2 j (m+2)
  have g2:=b2 (j+(m+2))
  rcases (by omega:dg u1.l (j+(m+2))=0∨1<=dg u1.l (j+(m+2))) with g|g
  rw[g] at e1
  exact⟨g,by omega⟩
  have:=Int.mul_le_mul_of_nonneg_right g (Int.le_of_lt (mI (m+2)))
  omega
 have c0:J+1-(k+1)=j:=by omega
 refine ar.some (.inl ⟨_,rfl,⟨by dsimp only;rw[cM];omega,jS qin (by omega) (by omega) ⟨ht0,ht1⟩,b2,fun i hi=>?_,fun i hi=>?_,?_,?_⟩,c4⟩)
 dsimp only
 rw[c0] at hi
 rw[e6 i (.inl hi),ulo i (by omega)]
 dsimp only
 rw[c0] at hi
 by_cases e:i=j+(m+2)
 rw[e];exact b3.1
 rw[e6 i (.inr (by omega)),uhi i (by omega)]
 dsimp only
 rw[c0,b3.2];omega
 dsimp only
 rw[c0,b3.2]
 have e1:17-j=17-(j+1)+1:=by omega
 rw[e1,win_cons u0.l,win_cons (q.set (j:Int) t).l,us]
 have e2:dg (q.set (j:Int) t).l j=t:=by rw[fp (by omega) (by omega),Int.toNat_natCast,if_pos rfl]
 have e3:win (q.set (j:Int) t).l (j+1) (17-(j+1))=win q.l (j+1) (17-(j+1)):=xY fun i h1 h2=>by rw[fp (by omega) (by omega),Int.toNat_natCast,if_neg (by omega)]
 rw[e2,e3,← ulo j (by omega),hR2]
 grind
 have c4:k=J+1:=by have:=of_decide_eq_false h;omega
 subst c4
 have e0:J+1-(J+1)=0:=by omega
 rw[e0] at uhi ult us
 exact ar.some (.inr ⟨_,rfl,qin,uin,us,ult,fun i hi=>uhi i (by omega)⟩)
 rintro⟨q,u⟩ ⟨qin,uin,us,ult,uz⟩
 dsimp only at qin uin us ult uz
 dsimp only[bQ]
 have e7:cV 4294967296 (Cs u).l:=fun i=>by
  rw[a16_l,pF]
  split
  exact uin i
  decide
 have hav:av (Cs u)=win u.l 0 (m+2):=by
  rw[← tm (k:=16) (fun i hi=>uz i (by omega)) (by omega),ED]
  exact dR fun i hi=>by rw[a16_l,pF,if_pos hi]
 have hq:win q.l 0 17=av q:=by
  rw[ED]
  exact By (fun i hi=>sn (by rw[aZ.cj];exact hi)) (by omega)
 rw[hU,hq,hVs] at us
 have e4:0<=win u.l 0 (m+2):=gZ uin _ _
 have hrs:win u.l 0 (m+2)=(av a-av q*av b)*2 ^ s:=by
  have e1:(av a-av q*av b)*2 ^ s=av a*2 ^ s-av q*(av b*2 ^ s):=by grind
  omega
 have hdiv:win u.l 0 (m+2)/2 ^ s=av a-av q*av b:=by rw[hrs,Int.mul_ediv_cancel _ (by omega)]
 have hr0:0<=av a-av q*av b:=by rw[← hdiv];exact Int.ediv_nonneg e4 (by omega)
 have hr1:av a-av q*av b<av b:=by
  rw[hrs,hVs] at ult
  exact Int.lt_of_mul_lt_mul_right ult (by omega)
 obtain⟨d1,d2⟩:=AT (A:=av a) (B:=av b) (q:=av q) (r:=av a-av q*av b) (by omega) hr0 hr1
 show ar (Option.bind (ow F (Cs u) (s:Int)) _) _
 refine ar.aP (down_y (by omega) e7 b0) (ar.some ?_)
 rw[hav,hdiv,d1,d2,qv qin]
theorem Er {F:Nat} (hF:18446744073709551616<F) {x y:bY} (hx:mD x) (hy:mD y):lR F x y=some (two xI x y,two remO x y):=by
 refine ar.eq ?_
 unfold lR two
 refine ar.aP (CE (by omega) x y) ?_
 cases ha:iv x with
 | none=>simp only[dN ha,Bool.false_and,Bool.not_false,Bool.not_true];exact ar.g0 rfl (ar.zA (by simp) (ar.aP (lJ F) (ar.aP (lJ F) (ar.some rfl))))
 | some a=>
  cases hb:iv y with
  | none=>simp only[dN hb,Bool.and_false,Bool.not_false,Bool.not_true];exact ar.g0 rfl (ar.zA (by simp) (ar.aP (lJ F) (ar.aP (lJ F) (ar.some rfl))))
  | some b=>
   obtain⟨ga,rfl,ra⟩:=dF hx ha
   obtain⟨gb,rfl,rb⟩:=dF hy hb
   obtain⟨wa,na⟩:=di ra
   obtain⟨wb,nb⟩:=di rb
   have hsb:kD F (dh b)=some (Dz b):=by rw[FX (by omega) (bM b),hb]
   simp only[ga,gb,Bool.and_self,Bool.not_true,Bool.not_false]
   refine ar.g1 rfl (ar.aP hsb ?_)
   have hsg:Dz b=0↔b=0:=by unfold Dz;split<;>(try split)<;>omega
   rw[Bool.false_or]
   refine ar.ite (fun h=>?_) (fun h=>?_)
   have hz:b=0:=hsg.1 (of_decide_eq_true h)
   refine ar.aP (lJ F) (ar.aP (lJ F) (ar.some ?_))
   simp only[xI,remO,hz,if_true,vD]
   have hz:b≠0:=fun e=>(of_decide_eq_false h) (hsg.2 e)
   clear h
   simp only[xI,remO,hz,if_false,vD]
   obtain⟨t1,t2⟩:=tq a hz
   have hB:=lQ hz
   have hm0:=Int.emod_nonneg (aI a) (show aI b≠0 by omega)
   have hm1:=Int.emod_lt_of_pos (aI a) hB
   have hq0:0<=aI a/aI b:=Int.ediv_nonneg (dT a) (by omega)
   have hq1:aI a/aI b<=aI a:=Int.ediv_le_self _ (dT a)
   have hsa:j6 F (dh a)=some (if -9223372036854775808<=a/\a<=9223372036854775807 then (a,true) else (0,false)):=by rw[Dx (by omega) (bM a),ha]
   have b2:j6 F (dh b)=some (if -9223372036854775808<=b/\b<=9223372036854775807 then (b,true) else (0,false)):=by rw[Dx (by omega) (bM b),hb]
   refine ar.bind (P:=fun r=>match r with|.inl _=>True|.inr z=>z=(dh (fq a b),dh (fr a b))) ?_ ?_
   refine ar.aP hsa ?_
   by_cases h1:-9223372036854775808<=a/\a<=9223372036854775807
   rw[if_pos h1]
   dsimp only[bQ]
   refine ar.ite (fun h=>?_) (fun h=>?_)
   have h2:a ≠ -9223372036854775808:=by simpa using h
   refine ar.aP b2 ?_
   by_cases h3:-9223372036854775808<=b/\b<=9223372036854775807
   rw[if_pos h3]
   dsimp only[bQ]
   refine ar.ite (fun h=>?_) (fun h=>?_)
   have h4:b ≠ -9223372036854775808:=by simpa using h
   have b3:aI a<=9223372036854775807:=by unfold aI;split<;>omega
   have b4:aI b<=9223372036854775807:=by unfold aI;split<;>omega
   refine ar.quo hz (ar.rem hz ?_)
   have hw:i64.wrap (Int.tdiv a b)=Int.tdiv a b:=by rw[t1];split<;>rw[jY (by omega) (by omega)]
   rw[hw]
   have hf1:=fq_abs (a:=a) hz
   have hf2:=(Ac (a:=a) hz).1
   refine ar.bind (P:=fun p=>p=(fq a b,fr a b)) (ar.ln ?_) ?_
   unfold fq fr
   dsimp only
   rw[t1,t2]
   generalize aI a/aI b=q at *
   generalize aI a%aI b=r at *
   refine ar.ite (fun h=>?_) (fun h=>?_)
   simp only[Bool.and_eq_true,decide_eq_true_eq] at h
   obtain⟨g1,g2⟩:=h
   have b1:r≠0:=by split at g1<;>omega
   have e1:decide ((if a<0 then -r else r)<0)=decide (a<0):=by rw[decide_eq_decide];split<;>omega
   rw[e1] at g2
   refine ar.some ?_
   rw[g2,if_pos rfl,if_pos rfl,if_neg b1]
   have e2:(true && !decide (r=0))=true:=by simp[b1]
   rw[if_pos e2]
   by_cases b5:a<0
   have b0:¬ b<0:=fun b0=>by simp[b5,b0] at g2
   have eb:aI b=b:=if_neg b0
   rw[if_pos b5,if_neg b0,jY (by omega) (by omega),jY (by omega) (by omega)]
   simp only[Prod.mk.injEq]
   omega
   have b0:b<0:=by
    by_cases b0:b<0
    exact b0
    simp[b5,b0] at g2
   have eb:aI b = -b:=if_pos b0
   rw[if_neg b5,if_pos b0,jY (by omega) (by omega),jY (by omega) (by omega)]
   simp only[Prod.mk.injEq]
   omega
   refine ar.some ?_
   by_cases b1:r=0
   subst b1
   have e3:(if a<0 then -(0:Int) else 0)=0:=by split<;>rfl
   rw[e3]
   simp
   have e1:decide ((if a<0 then -r else r)<0)=decide (a<0):=by rw[decide_eq_decide];split<;>omega
   have e4:decide ((if a<0 then -r else r)≠0)=true:=decide_eq_true (by split<;>omega)
   rw[e1,e4,Bool.true_and] at h
   have hab:decide (a<0)=decide (b<0):=by simpa using h
   have c0:(a<0)=(b<0):=propext (decide_eq_decide.1 hab)
   rw[h]
   simp only[Bool.false_eq_true,if_false,Bool.false_and,c0]
   rintro⟨q,r⟩ he
   cases he
   dsimp only[bQ]
   have hA:-9223372036854775807<=fq a b/\fq a b<=9223372036854775807:=by unfold aI at hf1 b3;split at hf1<;>(split at b3<;>omega)
   have hA2:-9223372036854775807<=fr a b/\fr a b<=9223372036854775807:=by unfold aI at hf2 b4;split at hf2<;>(split at b4<;>omega)
   exact ar.aP (Bg F (by omega) (by omega)) (ar.aP (Bg F (by omega) (by omega)) (ar.some rfl))
   exact ar.some trivial
   rw[if_neg h3]
   exact ar.iff rfl (ar.some trivial)
   exact ar.some trivial
   rw[if_neg h1]
   exact ar.iff rfl (ar.some trivial)
   rintro (u|z) hz2
   clear hz2 hsa b2
   have hW0:av (dh b).W≠0:=by rw[wb];show aI b≠0;omega
   refine ar.aP (xl hF (bM a) (bM b) hW0) ?_
   have wa':av (dh a).W=aI a:=wa
   have c1:av (dh b).W=aI b:=wb
   rw[wa',c1,na,nb]
   dsimp only[bQ]
   have b5:=tG ra
   have b0:=tG rb
   refine ar.aP (gK F _ (mG _)) ?_
   have hqm:aI a/aI b%MM=aI a/aI b:=Int.emod_eq_of_lt hq0 (by omega)
   have hrm:aI a%aI b%MM=aI a%aI b:=Int.emod_eq_of_lt hm0 (by omega)
   rw[kz,hqm]
   have hrz:decide (u7 (aI a%aI b)≠aZ.zero) = !decide (aI a%aI b=0):=by
    rw[Bool.eq_iff_iff]
    simp only[decide_eq_true_eq,Bool.not_eq_true',decide_eq_false_iff_not]
    exact not_congr (uc hm0 (by omega))
   rw[hrz]
   refine ar.bind (P:=fun p=>p=(u7 (if ((decide (a<0) != decide (b<0)) && !decide (aI a%aI b=0))=true then aI b-aI a%aI b else aI a%aI b),dh (fq a b))) ?_ ?_
   unfold fq
   generalize hQ:aI a/aI b=q at *
   generalize hR:aI a%aI b=r at *
   refine ar.ite (fun h=>?_) (fun h=>?_)
   simp only[Bool.and_eq_true,Bool.not_eq_true',decide_eq_false_iff_not] at h
   obtain⟨g1,g2⟩:=h
   rw[g2,if_pos rfl,if_pos rfl,if_neg g1]
   have e2:(true && !decide (r=0))=true:=by simp[g1]
   rw[if_pos e2]
   refine ar.aP (Bg F (by decide) (by decide)) ?_
   have hs1:ru F (dh (-q)) (dh 1)=some (dh (-q-1)):=by
    rw[Sub_y (by omega) (bM _) (bM _),po (by omega) (by have:=yQ;omega)];rfl
   refine ar.aP hs1 ?_
   have c2:j5 F (dh b).W (u7 r)=some (u7 (aI b-r)):=by
    rw[y5 (by omega) (bM b) (mG r) (by rw[kz,hrm,c1];omega),kz,hrm,c1]
   refine ar.aP c2 (ar.some ?_)
   have e5:-q-1 = -(q+1):=by omega
   rw[e5]
   refine ar.some ?_
   cases hs:(decide (a<0) != decide (b<0)) with
   | false=>simp
   | true=>
    have b1:r=0:=by rw[hs] at h;simpa using h
    subst b1
    simp
   rintro⟨r',q'⟩ he
   cases he
   dsimp only[bQ]
   refine ar.aP (gK F _ (mG _)) (ar.some ?_)
   have hrr:0<=(if ((decide (a<0) != decide (b<0)) && !decide (aI a%aI b=0))=true then aI b-aI a%aI b else aI a%aI b)/\(if ((decide (a<0) != decide (b<0)) && !decide (aI a%aI b=0))=true then aI b-aI a%aI b else aI a%aI b)<MM:=by split<;>omega
   rw[kz,Int.emod_eq_of_lt hrr.1 hrr.2]
   simp only[fr,decide_eq_true_eq]
   exact ar.some hz2
theorem Quo_y {F:Nat} (hF:18446744073709551616<F) {x y:bY} (hx:mD x) (hy:mD y):pe F x y=some (two xI x y):=by
 unfold pe
 rw[Er hF hx hy]
 rfl
end Go.Proofs.YtbcdabflmkgkiaaGreatDoor
namespace Go.Sk
theorem kJ (a:Int):aI a=(a.natAbs:Int):=by unfold aI;split<;>omega
theorem tQ (X Y:Nat):Nat.gcd X Y=Nat.gcd Y (X%Y):=by rw[Nat.gcd_comm X Y,Nat.gcd_rec Y X,Nat.gcd_comm]
theorem val2 {w:aZ} (h:∀ i,2<=i->i<16->dg w.l i=0):av w=w.a0+w.a1*4294967296:=by
 have e:av w=ds 4294967296 (dg w.l) 2:=mL (by omega) fun i h1 h2=>h i h1 h2
 rw[e]
 simp[ds]
 rfl
end Go.Sk
namespace Go.Proofs.YtbcdabflmkgkiaaGreatDoor
open Go Go.Sk
theorem FE {F:Nat} (hF:18446744073709551616<F):∀ (n:Nat) {a b:Int},-MM<a/\a<MM -> -MM<b/\b<MM->b.natAbs<n->pf F n (dh a) (dh b)=some (dh (Nat.gcd a.natAbs b.natAbs:Nat))
 | 0,a,b,_,_,h=>absurd h (Nat.not_lt_zero _)
 | n+1,a,b,ra,rb,hn=>by
  refine ar.eq ?_
  unfold pf
  obtain⟨wa,na⟩:=di ra
  obtain⟨wb,nb⟩:=di rb
  have wa':av (dh a).W=aI a:=wa
  have b2:av (dh b).W=aI b:=wb
  have ia:=bM a
  have ib:=bM b
  have hla:=tG ra
  have hlb:=tG rb
  refine ar.aP (CE (by omega) _ _) ?_
  rw[oL ra,oL rb]
  refine ar.iff rfl ?_
  refine ar.bind (P:=fun r=>match r with|.inl _=>True|.inr z=>z=dh (Nat.gcd a.natAbs b.natAbs:Nat)) ?_ ?_
  refine ar.bind (sL (by omega)) ?_
  rintro sa ⟨sa0,sa1,saz,_⟩
  by_cases h1:sa<=2
  rw[decide_eq_true h1]
  refine ar.g1 rfl (ar.bind (sL (by omega)) ?_)
  rintro sb ⟨sb0,sb1,sbz,_⟩
  refine ar.ite (fun h=>?_) (fun h=>ar.some trivial)
  have h2:sb<=2:=by simpa using h
  have va:=val2 (w:=(dh a).W) fun i g1 g2=>saz i (by omega) g2
  have vb:=val2 (w:=(dh b).W) fun i g1 g2=>sbz i (by omega) g2
  rw[wa'] at va
  rw[b2] at vb
  have a0:=ia 0
  have a1:=ia 1
  have b0:=ib 0
  have b1:=ib 1
  generalize (dh a).W=A at *
  generalize (dh b).W=B at *
  have e0:dg A.l 0=A.a0:=rfl
  have e1:dg A.l 1=A.a1:=rfl
  have e2:dg B.l 0=B.a0:=rfl
  have e3:dg B.l 1=B.a1:=rfl
  rw[e0] at a0
  rw[e1] at a1
  rw[e2] at b0
  rw[e3] at b1
  have wr:∀ x y:Int,0<=x/\x<4294967296->0<=y/\y<4294967296->lx .u64 (u64.wrap ((u64.wrap y)*4294967296)) (u64.wrap x)=x+y*4294967296:=fun x y hx hy=>by
   have q1:u64.wrap ((u64.wrap y)*4294967296)=y*4294967296:=by simp only[gH];omega
   have q2:u64.wrap x=x:=by rw[gH];omega
   rw[q1,q2,pB 32 (by omega) (by omega) (by rw[Cr];omega) hx.1 (by rw[Cr];omega) (by omega)]
   omega
  rw[wr _ _ a0 a1,wr _ _ b0 b1,← va,← vb]
  have la:aI a<18446744073709551616:=by omega
  have lb:aI b<18446744073709551616:=by omega
  rw[kJ] at la lb ⊢
  rw[kJ b]
  refine ar.bind (P:=fun x=>x=((Nat.gcd a.natAbs b.natAbs:Nat):Int)) (ar.loop (fun (s:Int×Int)=>∃ X Y:Nat,s=((X:Int),(Y:Int))/\Nat.gcd X Y=Nat.gcd a.natAbs b.natAbs/\Y<18446744073709551616) (fun s=>s.2.toNat) ⟨_,_,rfl,rfl,by omega⟩ (by dsimp only;omega) ?_) ?_
  rintro s ⟨X,Y,rfl,hg,hY⟩
  dsimp only[bQ]
  refine ar.ite (fun h=>?_) (fun h=>?_)
  have hy:(Y:Int)≠0:=of_decide_eq_true h
  refine ar.rem hy ?_
  rw[fl (by omega)]
  have hm:X%Y<Y:=Nat.mod_lt _ (by omega)
  refine ar.some (.inl ⟨_,rfl,⟨Y,X%Y,by rw[Int.natCast_emod],?_,by omega⟩,?_⟩)
  rw[← hg,← tQ]
  dsimp only
  rw[← Int.natCast_emod];omega
  have hy:(Y:Int)=0:=by have:=of_decide_eq_false h;omega
  have hy0:Y=0:=by omega
  subst hy0
  refine ar.some (.inr ⟨_,rfl,?_⟩)
  rw[← hg,Nat.gcd_zero_right]
  rintro x rfl
  have hgl:Nat.gcd a.natAbs b.natAbs<18446744073709551616:=by
   by_cases e:a.natAbs=0
   rw[e,Nat.gcd_zero_left];omega
   have:=Nat.gcd_le_left b.natAbs (show 0<a.natAbs by omega);omega
  generalize Nat.gcd a.natAbs b.natAbs=G at *
  have g1:u32.wrap (G:Int)=(G:Int)%4294967296:=l9 _
  have g2:u32.wrap ((G:Int)/4294967296)=(G:Int)/4294967296:=by rw[l9];omega
  rw[g1,g2]
  refine ar.ln (ar.aP (gK F _ (Bq (by omega) (by omega))) (ar.some ?_))
  rw[BF]
  simp only[Bool.false_eq_true,if_false]
  congr 1
  omega
  rw[decide_eq_false h1]
  exact ar.g0 rfl (ar.iff rfl (ar.some trivial))
  rintro (u|z) hz
  have hz0:decide ((dh b).W≠aZ.zero) = !decide (b=0):=by
   rw[Bool.eq_iff_iff]
   simp only[decide_eq_true_eq,Bool.not_eq_true',decide_eq_false_iff_not]
   have:=mM ib
   rw[b2,r5] at this
   exact not_congr this
  show ar (if decide ((dh b).W≠aZ.zero)=true then _ else _) _
  rw[hz0]
  refine ar.ite (fun h=>?_) (fun h=>?_)
  have b3:b≠0:=by simpa using h
  have hB:=lQ b3
  have hm0:=Int.emod_nonneg (aI a) (show aI b≠0 by omega)
  have hm1:=Int.emod_lt_of_pos (aI a) hB
  refine ar.aP (xl hF ia ib (by rw[b2];omega)) ?_
  dsimp only[bQ]
  refine ar.aP (gK F _ ib) (ar.aP (gK F _ (mG _)) ?_)
  simp only[Bool.false_eq_true,if_false,wa',b2,kz]
  rw[Int.emod_eq_of_lt hm0 (by omega)]
  have b4:=FE hF n (a:=aI b) (b:=aI a%aI b) (by omega) (by omega) (by rw[kJ b] at *;omega)
  refine ar.aP b4 (ar.some ?_)
  have e1:(aI b).natAbs=b.natAbs:=by rw[kJ];omega
  have e2:(aI a%aI b).natAbs=a.natAbs%b.natAbs:=by rw[kJ,kJ,← Int.natCast_emod];omega
  rw[e1,e2,← tQ]
  have b3:b=0:=by simpa using h
  subst b3
  have b5:rA F (dh a)=some (dh (aI a)):=by rw[Abs_y (by omega) ia,tx ra];rfl
  refine ar.aP b5 (ar.some ?_)
  rw[kJ]
  simp
  exact ar.some hz
theorem Gcd_y {F:Nat} (hF:18446744073709551616<F) {a b:Int} (ra:-MM<a/\a<MM) (rb:-MM<b/\b<MM) (hb:b.natAbs<F):vO F (dh a) (dh b)=some (dh (Nat.gcd a.natAbs b.natAbs:Nat)):=FE hF F ra rb hb
theorem FFb:18446744073709551616<FF:=by decide +kernel
theorem FF_MM:MM<FF:=by rw[xW];decide +kernel
abbrev vc (a:Int):Prop:=-MM<a/\a<MM
theorem FY {a:Int} (ra:vc a):kD FF (dh a)=some (Dz a):=by rw[FX FF1 (bM a),o9 ra]
theorem Quo_v {a b:Int} (ra:vc a) (rb:vc b) (h:b≠0):pe FF (dh a) (dh b)=some (dh (fq a b)):=by rw[Quo_y FFb (bM a) (bM b),po ra rb];simp only[xI,h,if_false];rfl
theorem Gcd_v {a b:Int} (ra:vc a) (rb:vc b):vO FF (dh a) (dh b)=some (dh (Nat.gcd a.natAbs b.natAbs:Nat)):=Gcd_y FFb ra rb (by have:=FF_MM;omega)
theorem Of_v {n:Int} (h0:-9223372036854775808<=n) (h1:n<=9223372036854775807):kq FF n=some (dh n):=Bg FF h0 h1
theorem GK (n m:Int):Nat.gcd n.natAbs m.natAbs=Nat.gcd m.natAbs (n.tmod m).natAbs:=by
 rw[Int.natAbs_tmod];exact tQ _ _
theorem tmod_lt {n m:Int} (h:m≠0):(n.tmod m).natAbs<m.natAbs:=by
 rw[Int.natAbs_tmod];exact Nat.mod_lt _ (by omega)
theorem rGcd_v {a b:Int} (ra:vc a) (rb:vc b):qL FF (dh a) (dh b)=some (dh (Nat.gcd a.natAbs b.natAbs:Nat)):=by
 have hF:=FF2
 have hFb:=FFb
 refine ar.eq ?_
 unfold qL
 refine ar.aP (nE hF (bM a)) ?_
 rw[o9 ra]
 generalize hp:wd (some a)=wx
 obtain⟨p,p'⟩:=wx
 refine ar.aP (nE hF (bM b)) ?_
 rw[o9 rb]
 generalize hq:wd (some b)=wy
 obtain⟨q,q'⟩:=wy
 dsimp only[bQ]
 refine ar.bind (P:=fun o=>o=.inr (dh (Nat.gcd a.natAbs b.natAbs:Nat))∨o=.inl ()) (ar.ite (fun h=>?_) (fun h=>?_)) ?_
 simp only[Bool.and_eq_true] at h
 obtain⟨rfl,rfl⟩:=h
 obtain⟨ea,la⟩:=nF hp
 obtain⟨eb,lb⟩:=nF hq
 cases ea;cases eb
 have la':a.natAbs<4611686018427387904:=by unfold aI at la;split at la<;>omega
 have lb':b.natAbs<4611686018427387904:=by unfold aI at lb;split at lb<;>omega
 refine ar.bind (P:=fun z:Int=>z.natAbs=Nat.gcd a.natAbs b.natAbs/\z.natAbs<4611686018427387904) (ar.loop (fun s:Int×Int=>Nat.gcd s.1.natAbs s.2.natAbs=Nat.gcd a.natAbs b.natAbs/\s.1.natAbs<4611686018427387904/\s.2.natAbs<4611686018427387904) (fun s=>s.2.natAbs) ⟨rfl,la',lb'⟩ (by dsimp only;omega) ?_) ?_
 rintro⟨n,m⟩ ⟨h1,h2,h3⟩
 dsimp only at h1 h2 h3
 dsimp only[bQ]
 refine ar.ite (fun h=>?_) (fun h=>?_)
 have hm:m≠0:=of_decide_eq_true h
 have:=tmod_lt (n:=n) hm
 refine ar.rem hm (ar.some (.inl ⟨_,rfl,⟨by dsimp only;rw[← GK];exact h1,h3,by dsimp only;omega⟩,this⟩))
 have hm:m=0:=by have:=of_decide_eq_false h;omega
 subst hm
 refine ar.some (.inr ⟨_,rfl,?_,h2⟩)
 simpa using h1
 rintro z ⟨hz,hl⟩
 refine ar.aP (zK hF (by omega) (by omega)) (ar.aP (x:=dh (Nat.gcd a.natAbs b.natAbs:Nat)) ?_ (ar.some (.inl rfl)))
 rw[rAbs_y hF (bM z),tx (by have:=yQ;constructor<;>omega),← hz]
 unfold aI vD
 dsimp only
 congr 2
 split<;>omega
 exact ar.some (.inr rfl)
 rintro o (rfl|rfl)
 exact ar.some rfl
 dsimp only[cW]
 refine ar.aP (iG hF (bM a)) ?_
 rw[oL ra]
 refine ar.g1 rfl (ar.aP (iG hF (bM b)) ?_)
 rw[oL rb]
 refine ar.iff rfl (ar.bind (qc hF ra) ?_)
 rintro c ⟨c1,c2,c3,c4⟩
 refine ar.bind (qc hF rb) ?_
 rintro d ⟨d1,d2,d3,d4⟩
 have hm:(lv d).toNat<FF:=by
  have h1:=(tG rb).2
  have h2:=FF_MM
  rw[d3];omega
 refine ar.bind (P:=fun x:List Int=>cV 65536 x/\x.length<=99/\lv x=(Nat.gcd a.natAbs b.natAbs:Nat)) (ar.loop (fun s:List Int×List Int=>(cV 65536 s.1/\s.1.length<=99)/\(cV 65536 s.2/\kT s.2/\s.2.length<=99)/\Nat.gcd (lv s.1).natAbs (lv s.2).natAbs=Nat.gcd a.natAbs b.natAbs) (fun s=>(lv s.2).toNat) ⟨⟨c1,by dsimp only;omega⟩,⟨d1,d2,by dsimp only;omega⟩,by dsimp only;rw[c3,d3,kJ,kJ];rfl⟩ hm ?_) ?_
 rintro⟨x,y⟩ ⟨⟨x1,x2⟩,⟨y1,y2,y3⟩,hg⟩
 dsimp only at x1 x2 y1 y2 y3 hg
 dsimp only[bQ]
 have hy:=pA y1 y2
 have ny:=gh y1
 have nx:=gh x1
 refine ar.ite (fun h=>?_) (fun h=>?_)
 have h':=of_decide_eq_true h
 have hl:0<y.length:=by omega
 refine ar.bind (Aj hF x1 y1 y2 hl (by omega) (by omega)) ?_
 rintro⟨q,r⟩ ⟨⟨q1,q2,q3⟩,⟨r1,r2,r3⟩,e1,e2⟩
 dsimp only at q1 q2 q3 r1 r2 r3 e1 e2
 dsimp only[bQ]
 have nr:=gh r1
 obtain⟨m1,m2⟩:=xy e1 nr e2
 refine ar.some (.inl ⟨_,rfl,⟨⟨y1,y3⟩,⟨r1,r2,?_⟩,?_⟩,?_⟩)
 dsimp only;omega
 dsimp only
 rw[← hg,← m2,tQ (lv x).natAbs]
 congr 1
 have:=Int.natAbs_emod_of_nonneg (a:=lv x) (b:=lv y) nx
 omega
 dsimp only;omega
 have h':=of_decide_eq_false h
 have hz:lv y=0:=by
  by_cases e:lv y=0
  exact e
  have:=hy.2 e;omega
 refine ar.some (.inr ⟨_,rfl,x1,x2,?_⟩)
 rw[hz] at hg
 simp only[Int.natAbs_zero,Nat.gcd_zero_right] at hg
 omega
 rintro x ⟨x1,x2,x3⟩
 refine ar.aP (vd hF _ (by omega) x1) (ar.some ?_)
 rw[x3];simp
end Go.Proofs.YtbcdabflmkgkiaaGreatDoor
namespace Go.Sk
end Go.Sk
namespace Go.Proofs.YtbcdabflmkgkiaaGreatDoor
open Go Go.Sk
def bf:s9:=⟨bad,dh 1⟩
def fits (r:Rat):Prop:=vc r.num/\vc r.den
noncomputable instance (r:Rat):Decidable (fits r):=Classical.propDecidable _
def mk (r:Rat):s9:=⟨dh r.num,dh r.den⟩
noncomputable def ofR (r:Rat):s9:=if fits r then mk r else bf
def qF (x:s9):Option Rat:=match iv x.N,iv x.D with
 | some n,some d=>if 0<d/\Nat.gcd n.natAbs d.natAbs=1 then some (Rat.divInt n d) else none
 | _,_=>none
noncomputable def mkB (n d:bY):s9:=match iv n,iv d with
 | some a,some b=>if b=0 then bf else ofR (Rat.divInt a b)
 | _,_=>bf
theorem zZ {r:Rat} (h:fits r):ofR r=mk r:=by unfold ofR;rw[if_pos h]
theorem yL {q g:Int} (h:g≠0):fq (q*g) g=q:=by
 refine (En h (r:=0) (by rw[Int.mul_comm];omega) ?_ (.inl rfl)).1.symm
 have:=lQ h
 simpa[aI] using this
theorem zY {n d:Int} (hd:d≠0) (rn:vc n) (rd:vc d):fits (Rat.divInt n d):=by
 obtain⟨g0,e1,e2⟩:=red (n:=n) hd
 have key:∀ {a g m:Int},g≠0->a*g=m->vc m->vc a:=fun {a g m} hg e hm=>by
  have h1:a.natAbs*g.natAbs=m.natAbs:=by rw[← Int.natAbs_mul,e]
  have h2:a.natAbs*1<=a.natAbs*g.natAbs:=Nat.mul_le_mul_left _ (by omega)
  constructor<;>have:=hm.1<;>have:=hm.2<;>omega
 exact⟨key g0 e1 rn,key g0 e2 rd⟩
theorem C7 {x:bY}:ox FF x=some (gJ x):=by
 refine ar.eq ?_
 unfold ox gJ
 cases h:x.Bad with
 | true=>exact ar.g0 rfl (ar.some (by simp))
 | false=>exact ar.g1 rfl (ar.aP (Dw FF x) (ar.some (by simp[h])))
theorem one_y:tr FF=some (dh 1):=by
 unfold tr
 rw[Of_v (by decide) (by decide)];rfl
theorem EP:tt FF=some bf:=by
 unfold tt
 rw[lJ,Option.bind_some,one_y];rfl
theorem CO {d:Int}:decide (Dz d<0)=decide (d<0):=by rw[decide_eq_decide];unfold Dz;split<;>(try split)<;>omega
theorem zU {d:Int}:decide (Dz d=0)=decide (d=0):=by rw[decide_eq_decide];unfold Dz;split<;>(try split)<;>omega
theorem Make_f {n d:bY} (hn:mD n) (hd:mD d):mQ FF n d=some (mkB n d):=by
 refine ar.eq ?_
 unfold mQ mkB
 refine ar.aP C7 ?_
 cases ha:iv n with
 | none=>
  rw[dN ha]
  exact ar.g0 rfl (ar.g0 rfl (ar.zA rfl (ar.aP EP (ar.some rfl))))
 | some a=>
  obtain⟨ga,rfl,ra⟩:=dF hn ha
  rw[ga]
  refine ar.g1 rfl (ar.aP C7 ?_)
  cases hb:iv d with
  | none=>
   rw[dN hb]
   exact ar.g0 rfl (ar.zA rfl (ar.aP EP (ar.some rfl)))
  | some b=>
   obtain⟨gb,rfl,rb⟩:=dF hd hb
   rw[gb]
   refine ar.g1 rfl (ar.aP (FY rb) ?_)
   rw[zU]
   by_cases h0:b=0
   rw[decide_eq_true h0]
   exact ar.zA rfl (ar.aP EP (ar.some (by simp[h0])))
   rw[decide_eq_false h0]
   have hg:vc (Nat.gcd a.natAbs b.natAbs:Nat):=by
    have:=Nat.gcd_le_right a.natAbs (show 0<b.natAbs by omega)
    have:=rb.1;have:=rb.2
    constructor<;>omega
   have hgs:vc (nV a b):=by unfold nV;split<;>(have:=hg.1;have:=hg.2;constructor<;>omega)
   obtain⟨g0,e1,e2⟩:=red (n:=a) h0
   refine ar.iff rfl (ar.aP (Gcd_v ra rb) (ar.bind (P:=fun g=>g=dh (nV a b)) (ar.aP (FY rb) ?_) ?_))
   rw[CO]
   unfold nV
   refine ar.ite (fun h=>?_) (fun h=>?_)
   rw[if_pos (of_decide_eq_true h),Neg_y FF1 (bM _),tx hg];exact ar.some rfl
   rw[if_neg (of_decide_eq_false h)];exact ar.some rfl
   rintro g rfl
   refine ar.aP (Quo_v ra hgs g0) (ar.aP (Quo_v rb hgs g0) (ar.some ?_))
   dsimp only
   rw[if_neg h0,zZ (zY h0 ra rb)]
   unfold mk
   have f1:fq a (nV a b)=(Rat.divInt a b).num:=by
    have:=yL (q:=(Rat.divInt a b).num) g0
    rwa [e1] at this
   have f2:fq b (nV a b)=((Rat.divInt a b).den:Int):=by
    have:=yL (q:=((Rat.divInt a b).den:Int)) g0
    rwa [e2] at this
   rw[f1,f2]
theorem CT {a:Int} (ra:vc a):kZ FF (dh a)=some (Dz a):=by rw[rSign_y FF2 (bM a),o9 ra]
theorem rMul_v {a b:Int} (ra:vc a) (rb:vc b):jI FF (dh a) (dh b)=some (dh (a*b)):=by rw[rMul_y FF2 (bM a) (bM b),po ra rb];rfl
theorem EX {a b:Int} (ra:vc a) (rb:vc b) (h:b≠0):mO FF (dh a) (dh b)=some (dh (fq a b)):=by rw[rQuo_y FF2 (bM a) (bM b),po ra rb];simp only[xI,h,if_false];rfl
theorem rOf_v {n:Int} (h0:-9223372036854775808<=n) (h1:n<=9223372036854775807):fu FF n=some (dh n):=zK FF2 h0 h1
theorem rone_y:qI FF=some (dh 1):=by
 unfold qI
 rw[rOf_v (by decide) (by decide)];rfl
theorem Bm:qJ FF=some bf:=by
 unfold qJ
 rw[mH,Option.bind_some,rone_y];rfl
theorem rMake_f {n d:bY} (hn:mD n) (hd:mD d):mA FF n d=some (mkB n d):=by
 refine ar.eq ?_
 unfold mA mkB
 refine ar.aP (iG FF2 hn) ?_
 cases ha:iv n with
 | none=>
  rw[dN ha]
  exact ar.g0 rfl (ar.g0 rfl (ar.zA rfl (ar.aP Bm (ar.some rfl))))
 | some a=>
  obtain⟨ga,rfl,ra⟩:=dF hn ha
  rw[ga]
  refine ar.g1 rfl (ar.aP (iG FF2 hd) ?_)
  cases hb:iv d with
  | none=>
   rw[dN hb]
   exact ar.g0 rfl (ar.zA rfl (ar.aP Bm (ar.some rfl)))
  | some b=>
   obtain⟨gb,rfl,rb⟩:=dF hd hb
   rw[gb]
   refine ar.g1 rfl (ar.aP (CT rb) ?_)
   rw[zU]
   by_cases h0:b=0
   rw[decide_eq_true h0]
   exact ar.zA rfl (ar.aP Bm (ar.some (by simp[h0])))
   rw[decide_eq_false h0]
   have hg:vc (Nat.gcd a.natAbs b.natAbs:Nat):=by
    have:=Nat.gcd_le_right a.natAbs (show 0<b.natAbs by omega)
    have:=rb.1;have:=rb.2
    constructor<;>omega
   have hgs:vc (nV a b):=by unfold nV;split<;>(have:=hg.1;have:=hg.2;constructor<;>omega)
   obtain⟨g0,e1,e2⟩:=red (n:=a) h0
   refine ar.iff rfl (ar.aP (rGcd_v ra rb) (ar.bind (P:=fun g=>g=dh (nV a b)) (ar.aP (CT rb) ?_) ?_))
   rw[CO]
   unfold nV
   refine ar.ite (fun h=>?_) (fun h=>?_)
   rw[if_pos (of_decide_eq_true h),rNeg_y FF2 (bM _),tx hg];exact ar.some rfl
   rw[if_neg (of_decide_eq_false h)];exact ar.some rfl
   rintro g rfl
   refine ar.aP (EX ra hgs g0) (ar.aP (EX rb hgs g0) (ar.some ?_))
   dsimp only
   rw[if_neg h0,zZ (zY h0 ra rb)]
   unfold mk
   have f1:fq a (nV a b)=(Rat.divInt a b).num:=by
    have:=yL (q:=(Rat.divInt a b).num) g0
    rwa [e1] at this
   have f2:fq b (nV a b)=((Rat.divInt a b).den:Int):=by
    have:=yL (q:=((Rat.divInt a b).den:Int)) g0
    rwa [e2] at this
   rw[f1,f2]
end Go.Proofs.YtbcdabflmkgkiaaGreatDoor
namespace Go.Sk
open Go
def fd:Nat->Nat->Str
 | 0,_=>[]
 | k+1,r=>fd k (r/10)++[UInt8.ofNat (48+r%10)]
def dv (l:Str):Nat:=l.foldl (fun acc c=>10*acc+(c.toNat-48)) 0
theorem dv_app (l:Str) (c:UInt8):dv (l++[c])=10*dv l+(c.toNat-48):=by simp[dv]
def sj (c:UInt8):Prop:=48<=c.toNat/\c.toNat<=57
def FZ (l:Str):Prop:=l≠[]/\(l.head?=some 48->l=[48])
theorem idx_get {α:Type} [Inhabited α] {l:List α} {i:Nat} (h:i<l.length):l[i]?=some (idx l (i:Int)):=by
 have:=idx_eq (xs:=l) (i:=(i:Int)) (by omega) (by omega)
 rw[Int.toNat_natCast] at this
 exact this
end Go.Sk
namespace Go.Proofs.YtbcdabflmkgkiaaGreatDoor
open Go Go.Sk
end Go.Proofs.YtbcdabflmkgkiaaGreatDoor
namespace Go.Sk
open Go
theorem dv_take (l:Str) {k:Nat} (h:k<l.length):dv (l.take (k+1))=10*dv (l.take k)+(l[k].toNat-48):=by
 rw[List.take_add_one,List.getElem?_eq_getElem h]
 exact dv_app _ _
def xH (s:Str):Bool:=decide (s.head?=some 45)
def fG (s:Str):Str:=if xH s=true then s.drop 1 else s
def yC (s:Str):Prop:=fG s=[]∨(fG s).head?=some 48/\s≠[48]
inductive EC (s:Str):bY×Int->Prop where
 | ill (h:yC s):EC s (bad,281)
 | char (h:¬ yC s) (c:UInt8) (hc:c∈fG s) (hn:¬ sj c):EC s (bad,281)
 | long (h:¬ yC s) (hd:∀ c∈fG s,sj c) (hv:MM<=dv (fG s)):EC s (bad,30)
 | num (h:¬ yC s) (hd:∀ c∈fG s,sj c) (hv:(dv (fG s):Int)<MM):EC s (dh (if xH s=true then -(dv (fG s):Int) else dv (fG s)),0)
theorem EC.one {s:Str} {p q:bY×Int} (hp:EC s p) (hq:EC s q):p=q:=by
 cases hp with
 | ill h=>
  cases hq with
  | ill _=>rfl
  | char h2 _ _ _=>exact absurd h h2
  | long h2 _ _=>exact absurd h h2
  | num h2 _ _=>exact absurd h h2
 | char h c hc hn=>
  cases hq with
  | ill h2=>exact absurd h2 h
  | char _ _ _ _=>rfl
  | long _ hd _=>exact absurd (hd c hc) hn
  | num _ hd _=>exact absurd (hd c hc) hn
 | long h hd hv=>
  cases hq with
  | ill h2=>exact absurd h2 h
  | char _ c hc hn=>exact absurd (hd c hc) hn
  | long _ _ _=>rfl
  | num _ _ hv2=>omega
 | num h hd hv=>
  cases hq with
  | ill h2=>exact absurd h2 h
  | char _ c hc hn=>exact absurd (hd c hc) hn
  | long _ _ hv2=>omega
  | num _ _ _=>rfl
theorem GJ {l:Str} (h:l≠[]):l.head?=some (idx l 0):=by
 cases l with
 | nil=>exact absurd rfl h
 | cons c r=>rfl
theorem u8_45 (c:UInt8):(c.toNat:Int)=45↔c=45:=⟨fun h=>by
 have h2:c.toNat=(45:UInt8).toNat:=by show c.toNat=45;omega
 exact UInt8.toNat_inj.1 h2,fun h=>by rw[h];rfl⟩
theorem u8_48 (c:UInt8):(c.toNat:Int)=48↔c=48:=⟨fun h=>by
 have h2:c.toNat=(48:UInt8).toNat:=by show c.toNat=48;omega
 exact UInt8.toNat_inj.1 h2,fun h=>by rw[h];rfl⟩
theorem yg {l:Str} {k:Nat} (h:k<l.length):idx (ofStr l) (k:Int)=(l[k].toNat:Int):=by
 unfold ofStr
 have:=idx_get (l:=l.map fun c=>(c.toNat:Int)) (i:=k) (by simpa using h)
 rw[List.getElem?_map,List.getElem?_eq_getElem h] at this
 exact (zaa this).symm
theorem digS_ne {s:Str}:decide (fG s≠s)=xH s:=by
 unfold fG
 cases h:xH s with
 | false=>simp
 | true=>
  unfold xH at h
  cases s with
  | nil=>simp at h
  | cons c r=>simp
theorem GS (s:Str):(fG s).length<=s.length:=by
 unfold fG;split
 simp
 exact Nat.le_refl _
end Go.Sk
namespace Go.Proofs.YtbcdabflmkgkiaaGreatDoor
open Go Go.Sk
theorem D3 (F:Nat) (s:Str):∀ {β:Type} {k:UInt8->Option β} {Q:β->Prop},(∀ c:UInt8,((decide (0<(s.length:Int)))&&(decide ((c.toNat:Int)=45)))=xH s->ar (k c) Q)->ar ((aT (decide (0<(s.length:Int))) (aS s 0)).bind k) Q:=by
 intro β k Q h
 cases s with
 | nil=>exact ar.g0 rfl (h _ (by rfl))
 | cons c r=>
  have hl:0<((c::r).length:Int):=by rw[List.length_cons];omega
  refine ar.g1 (decide_eq_true hl) (ar.idx (by decide) hl (h _ ?_))
  have e:idx (c::r) 0=c:=rfl
  rw[e,decide_eq_true hl,Bool.true_and]
  unfold xH
  rw[decide_eq_decide,u8_45]
  simp
theorem Parse_y {F:Nat} (hF:100000<F) {s:Str} (hl:s.length<=500):ar (jk F s) (EC s):=by
 unfold jk
 have hdl:=GS s
 refine ar.bind (P:=(·=fG s)) ?_ ?_
 refine D3 F s fun c hc=>ar.vE _ hc ?_
 unfold fG
 refine ar.ite (fun h=>?_) (fun h=>?_)
 rw[if_pos h]
 have hne:1<=s.length:=by
  unfold xH at h
  cases s with
  | nil=>simp at h
  | cons c r=>simp
 exact ar.drop (by decide) (by omega) (ar.some rfl)
 rw[h];exact ar.some rfl
 rintro _ rfl
 have b2:∀ {β:Type} {k:UInt8->Option β} {Q:β->Prop},(∀ c:UInt8,(((decide (fG s=[]))||((decide ((c.toNat:Int)=48))&&(decide (s≠[48]))))=true↔yC s)->ar (k c) Q)->ar ((aT (!(decide (fG s=[]))) (aS (fG s) 0)).bind k) Q:=by
  intro β k Q h
  by_cases hd:fG s=[]
  refine ar.g0 (by rw[decide_eq_true hd];rfl) (h _ ?_)
  rw[decide_eq_true hd]
  exact⟨fun _=>.inl hd,fun _=>rfl⟩
  have hpos:0<(fG s).length:=List.length_pos_iff.2 hd
  refine ar.g1 (by rw[decide_eq_false hd];rfl) (ar.idx (by decide) (by omega) (h _ ?_))
  rw[decide_eq_false hd,Bool.false_or,Bool.and_eq_true,decide_eq_true_eq,decide_eq_true_eq,u8_48]
  unfold yC
  rw[GJ hd,Option.some.injEq]
  exact⟨fun g=>.inr g,fun g=>g.resolve_left hd⟩
 refine b2 fun c hc=>ar.ln ?_
 refine ar.ite (fun h=>?_) (fun h=>?_)
 exact ar.aP (lJ F) (ar.some (.ill (hc.1 h)))
 have b3:¬ yC s:=fun g=>by rw[hc.2 g] at h;exact absurd h (by simp)
 have b0:((ofStr (fG s)).length:Int)=(fG s).length:=by unfold ofStr;simp
 refine ar.bind (P:=fun r=>match r with|.inl _=>∀ c∈fG s,sj c|.inr z=>EC s z) (ar.rounds (fG s).length (fun (k:Nat) (i:Int)=>i=(k:Int)/\∀ m (hm:m<(fG s).length),m<k->sj (fG s)[m]) (by omega) ⟨rfl,fun m _ h=>absurd h (Nat.not_lt_zero m)⟩ ?_) ?_
 rintro k i hk ⟨rfl,hd⟩
 rw[b0]
 refine ar.ite (fun h=>?_) (fun h=>?_)
 have b1:k<(fG s).length:=by have:=of_decide_eq_true h;omega
 refine ar.idx (by omega) (by rw[b0];omega) ?_
 rw[yg b1]
 refine ar.ite (fun h=>?_) (fun h=>?_)
 simp only[Bool.or_eq_true,decide_eq_true_eq] at h
 refine ar.aP (lJ F) (ar.some (.inr ⟨_,rfl,.char b3 _ (List.getElem_mem b1) ?_⟩))
 unfold sj;omega
 simp only[Bool.or_eq_false_iff,decide_eq_false_iff_not] at h
 refine ar.some (.inl ⟨_,rfl,⟨by rw[cM];omega,fun m hm h2=>?_⟩,b1⟩)
 by_cases e:m=k
 subst e;unfold sj;omega
 exact hd m hm (by omega)
 have b1:k=(fG s).length:=by have:=of_decide_eq_false h;omega
 subst b1
 refine ar.some (.inr ⟨_,rfl,fun c hc2=>?_⟩)
 obtain⟨m,hm,rfl⟩:=List.getElem_of_mem hc2
 exact hd m hm hm
 rintro (u|z) hr
 have hd:∀ c∈fG s,sj c:=hr
 clear hr
 show ar (if decide (512<((fG s).length:Int))=true then _ else _) _
 refine ar.iff (decide_eq_false (by omega)) ?_
 have r10:-MM<10/\(10:Int)<MM:=by have:=yQ;omega
 refine ar.aP (Bg F (by decide) (by decide)) (ar.aP (Bg F (by decide) (by decide)) ?_)
 have hz0:dh 0=dh (dv ((fG s).take 0):Int):=by
  have e:dv ((fG s).take 0)=0:=by rw[List.take_zero];rfl
  exact congrArg dh (by rw[e];rfl)
 refine ar.bind (P:=fun z=>z=dh (dv (fG s):Int)) (ar.rounds (fG s).length (fun (k:Nat) (st:bY×Int)=>st.2=(k:Int)/\st.1=dh (dv ((fG s).take k):Int)) (by omega) ⟨rfl,hz0⟩ ?_) ?_
 rintro k ⟨z,kx⟩ hk ⟨rfl,hz⟩
 dsimp only at hz
 dsimp only[bQ]
 rw[hz,b0]
 clear hz
 refine ar.ite (fun h=>?_) (fun h=>?_)
 have b1:k<(fG s).length:=by have:=of_decide_eq_true h;omega
 refine ar.idx (by omega) (by rw[b0];omega) ?_
 rw[yg b1]
 have hcd:=hd _ (List.getElem_mem b1)
 unfold sj at hcd
 have hw:i64.wrap (u8.wrap (((fG s)[k].toNat:Int)-48))=(((fG s)[k].toNat-48:Nat):Int):=by rw[cM,wu8];omega
 refine ar.aP (Mul_y (by omega) (bM _) (bM _)) (ar.vE _ hw (ar.aP (Bg F (by omega) (by omega)) (ar.aP (Add_y (by omega) (two_in _ _ _) (bM _)) (ar.some (.inl ⟨_,rfl,⟨by dsimp only;rw[cM];omega,?_⟩,b1⟩)))))
 dsimp only
 rw[dv_take _ b1]
 generalize dv ((fG s).take k)=v
 have hdd:(fG s)[k].toNat-48<10:=by omega
 generalize (fG s)[k].toNat-48=d at *
 have rd:-MM<(d:Int)/\(d:Int)<MM:=by have:=yQ;omega
 have e1:((10*v+d:Nat):Int)=(v:Int)*10+(d:Int):=by omega
 rw[e1]
 by_cases hv:(v:Int)<MM
 rw[po (a:=(v:Int)) (by omega) r10]
 show two _ (dh ((v:Int)*10)) (dh (d:Int))=_
 by_cases hv2:(v:Int)*10<MM
 rw[po (by omega) rd];rfl
 rw[nM (by omega),nM (z:=(v:Int)*10+d) (by omega)]
 rfl
 rw[nM (z:=(v:Int)) (by omega),nM (z:=(v:Int)*10+d) (by omega)]
 rfl
 have b1:k=(fG s).length:=by have:=of_decide_eq_false h;omega
 subst b1
 refine ar.some (.inr ⟨_,rfl,?_⟩)
 rw[List.take_length]
 intro z hz
 rw[hz]
 clear hz
 by_cases hv:(dv (fG s):Int)<MM
 have hin:-MM<(dv (fG s):Int)/\(dv (fG s):Int)<MM:=by omega
 have hb:(dh (dv (fG s):Int)).Bad=false:=by rw[big_Bad,decide_eq_true hin];rfl
 refine ar.iff hb (ar.aP (gK F _ (bM _)) (ar.some ?_))
 have hW:=(di hin).1
 rw[if_neg (by omega)] at hW
 rw[hW,digS_ne]
 exact .num b3 hd hv
 rw[nM (by omega)]
 exact ar.zA rfl (ar.some (.long b3 hd (by omega)))
 exact ar.some hr
end Go.Proofs.YtbcdabflmkgkiaaGreatDoor
namespace Go.Sk
open Go
end Go.Sk
namespace Go.Proofs.YtbcdabflmkgkiaaGreatDoor
open Go Go.Sk
end Go.Proofs.YtbcdabflmkgkiaaGreatDoor
namespace Go.Sk
open Go
end Go.Sk
namespace Go.Proofs.YtbcdabflmkgkiaaGreatDoor
open Go Go.Sk
theorem tz (c:UInt8):ew c=true↔sj c:=by
 have h:∀ c:UInt8,decide (ew c=true↔(48<=c.toNat/\c.toNat<=57))=true:=jo (by decide +kernel)
 have h2:=of_decide_eq_true (h c)
 exact h2
theorem BA {c:UInt8} (h:ew c=true):c≠46/\c≠45:=by
 have h2:∀ c:UInt8,decide (ew c=true->c≠46/\c≠45)=true:=jo (by decide +kernel)
 exact of_decide_eq_true (h2 c) h
theorem dv_fold (l:Str):∀ a:Nat,l.foldl (fun acc c=>10*acc+(c.toNat-48)) a=a*10 ^ l.length+dv l:=by
 induction l with
 | nil=>intro a;simp[dv]
 | cons c l ih=>
  intro a
  have h1:=ih (10*a+(c.toNat-48))
  have h2:=ih (10*0+(c.toNat-48))
  unfold dv at *
  rw[List.foldl_cons,List.foldl_cons,h1,h2,List.length_cons,Nat.pow_succ]
  rw[Nat.add_mul,Nat.mul_zero,Nat.zero_add,Nat.add_assoc,Nat.mul_comm 10 a,Nat.mul_assoc,Nat.mul_comm 10]
theorem yv (a b:Str):dv (a++b)=dv a*10 ^ b.length+dv b:=by
 unfold dv
 rw[List.foldl_append]
 exact dv_fold b _
theorem tD (c:UInt8) (l:Str):dv (c::l)=(c.toNat-48)*10 ^ l.length+dv l:=by
 have:=yv [c] l
 rw[List.singleton_append] at this
 rw[this]
 unfold dv
 simp
theorem dv_lt {l:Str} (h:∀ c∈l,ew c=true):dv l<10 ^ l.length:=by
 induction l with
 | nil=>decide
 | cons c l ih=>
  have h1:=ih fun x hx=>h x (by simp[hx])
  have h2:=(tz c).1 (h c (by simp))
  have h3:c.toNat-48<=9:=by have:=h2.2;omega
  rw[tD,List.length_cons,Nat.pow_succ]
  have h4:(c.toNat-48)*10 ^ l.length<=9*10 ^ l.length:=Nat.mul_le_mul_right _ h3
  omega
theorem ten_MM {k:Nat} (h:k<=100):((10 ^ k:Nat):Int)<MM:=by
 have h1:(10:Nat) ^ k<=10 ^ 100:=Nat.pow_le_pow_right (by decide) h
 have h2:((10 ^ 100:Nat):Int)<MM:=by rw[xW];decide +kernel
 omega
theorem dv_MM {l:Str} (h:∀ c∈l,ew c=true) (hl:l.length<=100):(dv l:Int)<MM:=by
 have h1:=dv_lt h
 have h2:=ten_MM hl
 omega
theorem D8 {l:Str} (h:∀ c∈l,ew c=true) (hn:FZ l) (hl:l.length<=100):jk FF l=some (dh (dv l),0):=by
 obtain⟨r,hr,hq⟩:=Parse_y (F:=FF) FF2 (s:=l) (by omega)
 have hs:xH l=false:=by
  unfold xH
  simp only[decide_eq_false_iff_not]
  intro hh
  cases l with
  | nil=>cases hh
  | cons c l=>
   injection hh with hh
   exact (BA (h c (by simp))).2 hh
 have hd:fG l=l:=by unfold fG;rw[hs];rfl
 have b0:¬ yC l:=by
  unfold yC
  rw[hd]
  rintro (h1|⟨h1,h2⟩)
  exact hn.1 h1
  exact h2 (hn.2 h1)
 have:=EC.num b0 (by rw[hd];exact fun c hc=>(tz c).1 (h c hc)) (by rw[hd];exact dv_MM h hl)
 rw[hs,hd] at this
 rw[hr,EC.one hq this]
 rfl
theorem yp:∀ {A B:Str},(∀ c∈A,c≠46)->Lib.index (A++46::B) [46]=(A.length:Int)
 | [],B,_=>rfl
 | a::A,B,h=>by
  have ih:=yp (A:=A) (B:=B) fun c hc=>h c (by simp[hc])
  have ha:=h a (by simp)
  have e:([46]:Str).isPrefixOf (a::(A++46::B))=false:=by
   simp[List.isPrefixOf,Ne.symm ha]
  rw[List.cons_append,Lib.index,e,ih]
  simp only[Bool.false_eq_true,if_false]
  rw[if_neg (by simp),List.length_cons]
  omega
theorem index_none:∀ {A:Str},(∀ c∈A,c≠46)->Lib.index A [46] = -1
 | [],_=>rfl
 | a::A,h=>by
  have ih:=index_none (A:=A) fun c hc=>h c (by simp[hc])
  have ha:=h a (by simp)
  have e:([46]:Str).isPrefixOf (a::A)=false:=by simp[List.isPrefixOf,Ne.symm ha]
  rw[Lib.index,e,ih]
  rfl
theorem cut_dot {A B:Str} (h:∀ c∈A,c≠46):Lib.cut (A++46::B) [46]=(A,B,true):=by
 unfold Lib.cut
 rw[yp h,if_pos (by omega),Int.toNat_natCast,List.take_left]
 have e:(A++46::B).drop (A.length+([46]:Str).length)=B:=by
  rw[← List.drop_drop,List.drop_left];rfl
 rw[e]
theorem GU {A:Str} (h:∀ c∈A,c≠46):Lib.cut A [46]=(A,[],false):=by
 unfold Lib.cut
 rw[index_none h]
 rfl
def zy (c:UInt8):Bool:=decide (c=48)
theorem trim_ok {F:Nat} {s:Str} (hF:s.length<F):fR F s [48]=some (s.dropWhile zy):=by
 unfold fR
 by_cases hs:s=[]
 subst hs;rfl
 rw[if_neg (by simp[hs])]
 have e1:aS ([48]:Str) 0=some 48:=rfl
 have e2:decide ((([48]:Str).length:Int)=1)=true:=rfl
 rw[e2,e1]
 simp only[aT,if_true,Option.bind_some,bA]
 rw[if_pos (by decide)]
 unfold fy
 refine ar.eq (ar.bind (ar.bind (kF (fun t:Str=>t) (fun t=>t.length) (fun _=>True) (fun t o=>o=t.dropWhile zy) ?_ F s trivial hF) (P:=fun o=>o=s.dropWhile zy) fun o ho=>ar.some ho) fun o ho=>ar.some ho)
 intro t _
 cases t with
 | nil=>exact .inr ⟨[],by simp[aT,bA],rfl⟩
 | cons c t=>
  have e3:decide ((0:Int)<((c::t).length:Int))=true:=decide_eq_true (by simp only[List.length_cons];omega)
  have e4:aS (c::t) 0=some c:=dk (s:=c::t) (k:=0) rfl
  have e5:decide ((c.toNat:Int)=((48:UInt8).toNat:Int))=zy c:=toNat_eq c 48 (by decide)
  simp only[e3,aT,if_true,e4,Option.bind_some,bA,e5,Bool.true_and]
  by_cases hz:zy c=true
  refine .inl ⟨t,?_,trivial,by simp,fun o ho=>by rw[ho,List.dropWhile_cons_of_pos hz]⟩
  rw[if_pos hz]
  unfold qt
  rw[if_pos ⟨by decide,by simp only[List.length_cons];omega⟩]
  rfl
  refine .inr ⟨c::t,by rw[if_neg hz],by rw[List.dropWhile_cons_of_neg hz]⟩
theorem Ds (s:Str):dv (s.dropWhile zy)=dv s:=by
 induction s with
 | nil=>rfl
 | cons c s ih=>
  by_cases hz:zy c=true
  rw[List.dropWhile_cons_of_pos hz,ih,tD]
  have:c=48:=of_decide_eq_true hz
  rw[this];simp
  rw[List.dropWhile_cons_of_neg hz]
theorem F4 (s:Str):∀ c∈s.dropWhile zy,c∈s:=fun c hc=>(List.dropWhile_sublist zy).mem hc
theorem DT (s:Str) (h:s.dropWhile zy≠[]):(s.dropWhile zy).head?≠some 48:=by
 intro hh
 cases hd:s.dropWhile zy with
 | nil=>exact h hd
 | cons c q=>
  have:=tC hd
  rw[hd] at hh
  injection hh with hh
  rw[hh] at this
  cases this
theorem B6 (k:Nat):Lib.repeatL [48] k=List.replicate k 48:=by
 induction k with
 | zero=>rfl
 | succ k ih=>rw[Lib.repeatL,ih,List.replicate_succ];rfl
theorem dv_rep (k:Nat):dv (49::List.replicate k 48)=10 ^ k:=by
 rw[tD]
 have h:∀ k,dv (List.replicate k 48)=0:=by
  intro k
  induction k with
  | zero=>rfl
  | succ k ih=>rw[List.replicate_succ,tD,ih];simp
 rw[h,List.length_replicate];simp
theorem Ef {S:Str} (h:ik 3 S=true):∃ A B:Str,(∀ x∈A,ew x=true)/\(∀ x∈B,ew x=true)/\A.length+B.length<=40/\(S=A/\B=[]∨S=A++46::B):=by
 obtain⟨x,q,hw,hx⟩:=yb h
 have ht:=oI.1 h
 have hw3:s7 3 S=S:=if_neg (by decide)
 rw[hw3] at ht hw
 rw[hw] at ht
 unfold tok at ht
 simp only at ht
 split at ht
 unfold lI at ht
 split at ht
 cases ht
 injection ht with h1 _ _
 split at h1<;>omega
 split at ht
 next hg=>
  rcases uL (q:=q) hg with ⟨A,D,e,hA,h0,hD,b0⟩|⟨A,B,D,e,hA,h0,hB,h1,hD⟩
  rw[e,vV hA h0 hD b0] at ht
  split at ht
  cases ht
  split at ht
  cases ht
  injection ht with _ h2 _
  exact⟨A,[],hA,by simp,by simp;omega,.inl ⟨by rw[hw,e];exact h2.symm,rfl⟩⟩
  rw[e,vU hA h0 hB h1 hD] at ht
  split at ht
  cases ht
  split at ht
  cases ht
  injection ht with _ h2 _
  exact⟨A,B,hA,hB,by omega,.inr (by rw[hw,e];exact h2.symm)⟩
 split at ht
 unfold og at ht
 split at ht
 cases ht
 split at ht
 cases ht
 injection ht with h1 _ _
 omega
 have:=(qH ht).2.2.1
 omega
noncomputable def valF (A B:Str):s9:=mkB (dh (dv (A++B))) (dh ((10 ^ B.length:Nat):Int))
theorem FF3:1000000<FF:=by decide +kernel
theorem DI {F:Nat} (hFF:F=FF) {t:Token} {A B:Str} (hk:t.Kind=3) (hp:ik 3 t.S=true) (hA:∀ x∈A,ew x=true) (hB:∀ x∈B,ew x=true) (hl:A.length+B.length<=40) (hS:t.S=A/\B=[]∨t.S=A++46::B):dZ F t=some (valF A B,0):=by
 have hF:1000000<F:=hFF▸FF3
 have pn:∀ {l:Str},(∀ c∈l,ew c=true)->FZ l->l.length<=100->jk F l=some (dh (dv l),0):=fun h h2 h3=>by rw[hFF];exact D8 h h2 h3
 have mk2:∀ {a b:bY},mD a->mD b->mQ F a b=some (mkB a b):=fun h h2=>by rw[hFF];exact Make_f h h2
 clear hFF
 have hsm:=jW hp
 unfold dZ
 rw[hk,show (decide ((3:Int)≠3))=false from rfl]
 have hps:eG F t=some true:=by rw[q7 (by omega) (by omega),hk,hp]
 simp only[Bool.not_false,aT,if_true,hps,Option.bind_some,Bool.not_true,Bool.or_self,Bool.false_eq_true,if_false]
 have b1:∀ c∈A,c≠46:=fun c hc=>(BA (hA c hc)).1
 have b0:∃ b,lB F t.S [46]=some (A,B,b):=by
  unfold lB cut?
  rw[if_pos (by omega)]
  rcases hS with ⟨h1,h2⟩|h1
  rw[h1,h2,GU b1];exact⟨_,rfl⟩
  rw[h1,cut_dot b1];exact⟨_,rfl⟩
 obtain⟨b,b0⟩:=b0
 rw[b0,Option.bind_some]
 simp only[iJ]
 rw[ff (by omega),Option.bind_some,trim_ok (by rw[List.length_append];omega),Option.bind_some]
 have hAB:∀ c∈A++B,ew c=true:=fun c hc=>by
  rcases List.mem_append.1 hc with h|h
  exact hA c h
  exact hB c h
 obtain⟨N,hN⟩:∃ N,N=dh (dv (A++B)):=⟨_,rfl⟩
 obtain⟨D,hD⟩:∃ D,D=dh ((10 ^ B.length:Nat):Int):=⟨_,rfl⟩
 have iN:mD N:=hN▸bM _
 have iD:mD D:=hD▸bM _
 have hv:valF A B=mkB N D:=by rw[hN,hD];rfl
 have htl:((A++B).dropWhile zy).length<=40:=by
  have:=(List.dropWhile_sublist (l:=A++B) zy).length_le
  rw[List.length_append] at this;omega
 have b3:∃ all:Str,(if decide ((A++B).dropWhile zy=[])=true then some [48] else some ((A++B).dropWhile zy))=some all/\jk F all=some (N,0):=by
  rw[hN]
  by_cases h0:(A++B).dropWhile zy=[]
  refine⟨[48],by rw[if_pos (decide_eq_true h0)],?_⟩
  have hz:dv (A++B)=0:=by rw[← Ds,h0];rfl
  have:=pn (l:=[48]) (by intro c hc;rw[List.mem_singleton.1 hc];rfl) ⟨by simp,fun _=>rfl⟩ (by simp)
  rw[this,hz];rfl
  refine⟨_,by rw[if_neg (by simpa using h0)],?_⟩
  have:=pn (l:=(A++B).dropWhile zy) (fun c hc=>hAB c (F4 _ c hc)) ⟨h0,fun hh=>absurd hh (DT _ h0)⟩ (by omega)
  rw[this,Ds]
 obtain⟨all,h1,h2⟩:=b3
 rw[h1,Option.bind_some,h2,Option.bind_some]
 simp only[bQ]
 have b4:jy F [48] (B.length:Int)=some (List.replicate B.length 48):=by
  unfold jy vT
  rw[if_pos ⟨by omega,by omega,by simp;omega⟩,Int.toNat_natCast,B6]
 rw[b4,Option.bind_some,ff (by simp;omega),Option.bind_some]
 have b2:=pn (l:=49::List.replicate B.length 48) (by
  intro c hc
  rcases List.mem_cons.1 hc with rfl|hc
  rfl
  rw[List.eq_of_mem_replicate hc];rfl) ⟨by simp,fun hh=>by simp at hh⟩ (by simp;omega)
 rw[dv_rep,← hD] at b2
 rw[List.singleton_append,b2,Option.bind_some]
 simp only[bQ]
 rw[mk2 iN iD,Option.bind_some,hv]
def zB (z:Int×Int×Bool) (c:UInt8):Int×Int×Bool:=if c=46 then (z.1,z.2.1,true) else (z.1*10+((c.toNat:Int)-48),if z.2.2 then z.2.1*10 else z.2.1,z.2.2)
theorem sX:∀ {l:Str},(∀ c∈l,ew c=true)->∀ (n:Nat) (d:Int) (b:Bool),l.foldl zB ((n:Int),d,b)=(((n*10 ^ l.length+dv l:Nat):Int),if b then d*10 ^ l.length else d,b)
 | [],_,n,d,b=>by cases b<;>simp[dv]
 | c::l,h,n,d,b=>by
  have hc:=h c (by simp)
  have hd:=(tz c).1 hc
  have ih:=sX (l:=l) fun x hx=>h x (by simp[hx])
  have e:zB ((n:Int),d,b) c=(((n*10+(c.toNat-48):Nat):Int),if b then d*10 else d,b):=by
   unfold zB
   rw[if_neg (BA hc).1]
   have:=hd.1
   have e1:(n:Int)*10+((c.toNat:Int)-48)=((n*10+(c.toNat-48):Nat):Int):=by omega
   rw[e1]
  rw[List.foldl_cons,e,ih,tD,List.length_cons]
  have e2:(n*10+(c.toNat-48))*10 ^ l.length+dv l=n*10 ^ (l.length+1)+((c.toNat-48)*10 ^ l.length+dv l):=by
   rw[Nat.pow_succ,Nat.add_mul,Nat.add_assoc,Nat.mul_assoc,Nat.mul_comm 10]
  rw[e2]
  cases b
  rfl
  simp only[if_true]
  rw[Int.pow_succ,Int.mul_assoc,Int.mul_comm 10]
theorem stp_all {S A B:Str} (hA:∀ x∈A,ew x=true) (hB:∀ x∈B,ew x=true) (hS:S=A/\B=[]∨S=A++46::B):∃ b,S.foldl zB (0,1,false)=((dv (A++B):Int),((10 ^ B.length:Nat):Int),b):=by
 have h1:=sX hA 0 1 false
 have e0:(((0:Nat):Int))=0:=rfl
 rw[e0] at h1
 simp only[Nat.zero_mul,Nat.zero_add,Bool.false_eq_true,if_false] at h1
 rcases hS with ⟨rfl,rfl⟩|rfl
 exact⟨false,by rw[h1];simp⟩
 refine⟨true,?_⟩
 rw[List.foldl_append,h1,List.foldl_cons]
 have e:zB ((dv A:Int),1,false) 46=((dv A:Int),1,true):=rfl
 rw[e,sX hB,yv]
 simp
theorem stp_rng:∀ (l:Str),(∀ c∈l,ew c=true∨c=46)->0<=(l.foldl zB (0,1,false)).1/\(l.foldl zB (0,1,false)).1<((10 ^ l.length:Nat):Int)/\0<=(l.foldl zB (0,1,false)).2.1/\(l.foldl zB (0,1,false)).2.1<=((10 ^ l.length:Nat):Int):=by
 intro l
 induction hl:l.length generalizing l with
 | zero=>
  intro _
  have:l=[]:=List.eq_nil_of_length_eq_zero hl
  subst this
  exact⟨by decide,by decide,by decide,by decide⟩
 | succ n ih=>
  intro h
  obtain⟨m,c,rfl⟩:∃ m c,l=m++[c]:=⟨l.dropLast,l.getLast (by intro e;rw[e] at hl;cases hl),(List.dropLast_concat_getLast _).symm⟩
  have hm:m.length=n:=by simp at hl;omega
  obtain⟨h1,h2,h3,h4⟩:=ih m hm fun x hx=>h x (by simp[hx])
  rw[List.foldl_append,List.foldl_cons,List.foldl_nil]
  generalize m.foldl zB (0,1,false)=z at *
  have e:((10 ^ (n+1):Nat):Int)=((10 ^ n:Nat):Int)*10:=by rw[Nat.pow_succ];push_cast;rfl
  rw[e]
  generalize ((10 ^ n:Nat):Int)=P at *
  unfold zB
  by_cases hc:c=46
  rw[if_pos hc]
  refine⟨h1,?_,h3,?_⟩<;>simp only<;>omega
  rw[if_neg hc]
  have hd:=(tz c).1 ((h c (by simp)).resolve_right hc)
  have:=hd.1
  have:=hd.2
  refine⟨by simp only;omega,by simp only;omega,?_,?_⟩
  simp only;split<;>omega
  simp only;split<;>omega
theorem B1 {F:Nat} (hFF:F=FF) {t:Token} {A B:Str} (hk:t.Kind=3) (hp:ik 3 t.S=true) (hA:∀ x∈A,ew x=true) (hB:∀ x∈B,ew x=true) (hl:A.length+B.length<=40) (hS:t.S=A/\B=[]∨t.S=A++46::B):cm F t=some ⟨valF A B,0⟩:=by
 have hF:1000000<F:=hFF▸FF3
 have ov:∀ {n:Int},-9223372036854775808<=n->n<=9223372036854775807->fu F n=some (dh n):=fun h h2=>by rw[hFF];exact rOf_v h h2
 have mv:∀ {a b:Int},vc a->vc b->jI F (dh a) (dh b)=some (dh (a*b)):=fun h h2=>by rw[hFF];exact rMul_v h h2
 have av2:∀ {a b:Int},vc a->vc b->mP F (dh a) (dh b)=some (dh (a+b)):=fun h h2=>by rw[hFF,rAdd_y FF2 (bM _) (bM _),po h h2];rfl
 have mk2:∀ {a b:bY},mD a->mD b->mA F a b=some (mkB a b):=fun h h2=>by rw[hFF];exact rMake_f h h2
 clear hFF
 have hsm:=jW hp
 have hlen:t.S.length<=41:=by
  rcases hS with ⟨h1,h2⟩|h1
  rw[h1];omega
  rw[h1];simp;omega
 have hch:∀ c∈t.S,ew c=true∨c=46:=by
  intro c hc
  rcases hS with ⟨h1,h2⟩|h1
  rw[h1] at hc;exact .inl (hA c hc)
  rw[h1] at hc
  rcases List.mem_append.1 hc with h|h
  exact .inl (hA c h)
  rcases List.mem_cons.1 h with h|h
  exact .inr h
  exact .inl (hB c h)
 unfold cm
 rw[ml (by omega),hk,hp,Option.bind_some,if_neg (by simp)]
 have o0:fu F 0=some (dh 0):=ov (by decide) (by decide)
 have o1:fu F 1=some (dh 1):=ov (by decide) (by decide)
 have o10:fu F 10=some (dh 10):=ov (by decide) (by decide)
 rw[o0,Option.bind_some,o1,Option.bind_some,o10,Option.bind_some]
 obtain⟨b,b2⟩:=stp_all hA hB hS
 refine ar.eq (ar.bind (kF (fun k:Nat=>(dh ((t.S.take k).foldl zB (0,1,false)).1,dh ((t.S.take k).foldl zB (0,1,false)).2.1,((t.S.take k).foldl zB (0,1,false)).2.2,(k:Int))) (fun k=>t.S.length-k) (fun k=>k<=t.S.length) (fun k o=>o=(dh (dv (A++B)),dh ((10 ^ B.length:Nat):Int))) ?_ F 0 (by omega) (by omega)) fun o ho=>?_)
 intro k hk2
 simp only[Ba]
 cases hd:t.S.drop k with
 | nil=>
  have b1:=drop_nil hd hk2
  rw[if_neg (by rw[b1];simp)]
  refine .inr ⟨_,rfl,?_⟩
  rw[b1,List.take_length,b2]
 | cons c r=>
  have hlt:=cr hd
  have hi:=dk hd
  have hc:=hch c (by
   have h1:c∈t.S.drop k:=by rw[hd];simp
   exact List.mem_of_mem_drop h1)
  have hrng:=stp_rng (t.S.take k) fun x hx=>hch x (List.mem_of_mem_take hx)
  have hkl:(t.S.take k).length<=41:=by rw[List.length_take];omega
  have hp10:((10 ^ (t.S.take k).length:Nat):Int)*10+100<MM:=by
   have h1:(10:Nat) ^ (t.S.take k).length<=10 ^ 41:=Nat.pow_le_pow_right (by decide) hkl
   have h2:((10 ^ 41:Nat):Int)*10+100<MM:=by rw[xW];decide +kernel
   omega
  have h46:decide ((c.toNat:Int)=46)=decide (c=46):=toNat_eq c 46 (by decide)
  refine .inl ⟨k+1,?_,by omega,by omega,fun o ho=>ho⟩
  rw[if_pos (decide_eq_true (by omega)),rV hd,List.foldl_append,List.foldl_cons,List.foldl_nil]
  simp only[hi,Option.bind_some,h46]
  generalize (t.S.take k).foldl zB (0,1,false)=z at *
  generalize ((10 ^ (t.S.take k).length:Nat):Int)=P at *
  have hMM:=BI
  by_cases b0:c=46
  rw[if_pos (by simpa using b0)]
  simp only[Option.bind_some,iJ]
  rw[wk k (by omega)]
  unfold zB
  rw[if_pos b0]
  have hdg:=(tz c).1 (hc.resolve_right b0)
  have hd1:=hdg.1
  have hd2:=hdg.2
  rw[if_neg (by simpa using b0)]
  have e1:i64.wrap (u8.wrap ((c.toNat:Int)-48))=(c.toNat:Int)-48:=by
   rw[wu8,jY (by omega) (by omega)];omega
  have e2:jI F (dh z.1) (dh 10)=some (dh (z.1*10)):=mv ⟨by omega,by omega⟩ ⟨by omega,by omega⟩
  have e3:fu F ((c.toNat:Int)-48)=some (dh ((c.toNat:Int)-48)):=ov (by omega) (by omega)
  have e4:mP F (dh (z.1*10)) (dh ((c.toNat:Int)-48))=some (dh (z.1*10+((c.toNat:Int)-48))):=av2 ⟨by omega,by omega⟩ ⟨by omega,by omega⟩
  have e5:jI F (dh z.2.1) (dh 10)=some (dh (z.2.1*10)):=mv ⟨by omega,by omega⟩ ⟨by omega,by omega⟩
  rw[e1,e2,Option.bind_some,e3,Option.bind_some,e4,Option.bind_some]
  unfold zB
  rw[if_neg b0]
  cases hb:z.2.2 with
  | true=>
   rw[if_pos rfl,e5]
   simp only[Option.bind_some,iJ,if_true]
   rw[wk k (by omega)]
  | false=>
   rw[if_neg (by simp)]
   simp only[Option.bind_some,iJ,Bool.false_eq_true,if_false]
   rw[wk k (by omega)]
 subst ho
 simp only[bQ]
 rw[mk2 (bM _) (bM _)]
 exact ar.some rfl
theorem D4:dC FF=some true:=by decide +kernel
theorem BR {F:Nat} (hFF:F=FF) {t:Token} (hs:t.S.length<=1048576):∃ v e,dZ F t=some (v,e)/\cm F t=some ⟨v,e⟩:=by
 have hF:2000000<F:=by rw[hFF];decide +kernel
 by_cases hk:t.Kind=3
 cases hp:ik 3 t.S with
 | true=>
  obtain⟨A,B,hA,hB,hl,hS⟩:=Ef hp
  exact⟨_,_,DI hFF hk hp hA hB hl hS,B1 hFF hk hp hA hB hl hS⟩
 | false=>
  clear hFF
  refine⟨⟨⟨false,false,aZ.zero⟩,⟨false,false,aZ.zero⟩⟩,1,?_,?_⟩
  unfold dZ
  rw[q7 (by omega) (by omega),hk,hp]
  rfl
  unfold cm
  rw[ml (by omega),hk,hp]
  rfl
 clear hFF
 refine⟨⟨⟨false,false,aZ.zero⟩,⟨false,false,aZ.zero⟩⟩,1,?_,?_⟩
 unfold dZ
 rw[show decide (t.Kind≠3)=true from decide_eq_true hk]
 rfl
 unfold cm
 rw[ml (by omega),show decide (t.Kind≠3)=true from decide_eq_true hk,Option.bind_some,Bool.or_true]
 rfl
theorem BK {F:Nat} (hF:2000000<F) (b0:dC F=some true) {l:List Token} (hs:∀ y∈l,y.S.length<=1048576)
 (hv:∀ y∈l,∃ v e,dZ F y=some (v,e)/\cm F y=some ⟨v,e⟩):bZ F l=some true:=by
 unfold bZ
 by_cases h100:100<l.length
 rw[if_pos (decide_eq_true (by omega)),b0];rfl
 rw[if_neg (by simp;omega)]
 rw[F6 (by omega) (fun t ht=>by have:=hs t ht;omega) (by omega) (fun t ht=>by have:=hs t ht;omega),Option.bind_some]
 simp only[bQ]
 rw[D6 (by omega) (by omega),Option.bind_some]
 rw[if_neg (by simp)]
 refine ar.eq (ar.bind (ar.ea1 (l:=l) (Q:=fun o:Unit⊕Bool=>o=.inl ()) (fun pre=>True) (by omega) (by omega) trivial (fun pre x post e hx hI=>?_) (fun _=>rfl)) (fun o ho=>?_))
 obtain⟨v,er,h1,h2⟩:=hv x (by rw[e];simp)
 rw[hx,Option.bind_some,h1,Option.bind_some]
 simp only[bQ]
 rw[h2,Option.bind_some]
 simp only[bA]
 rw[if_neg (by simp)]
 exact ar.some (.inl ⟨rfl,trivial⟩)
 subst ho
 simp only[cW]
 rw[b0]
 exact ar.some rfl
theorem BL (l:List Token) (hs:∀ y∈l,y.S.length<=1048576):bZ FF l=some true :=
 BK (by decide +kernel) D4 hs fun y hy=>BR rfl (hs y hy)
theorem uH {H:Type}:∀ {l:List (DataW H)} {d:DataW H},d∈l->Rows.uptoBulk d<=Rows.uptoBulkAll l
 | a::l,d,h=>by
  rw[Rows.uptoBulkAll]
  rcases List.mem_cons.1 h with rfl|h
  omega
  have:=uH h;omega
theorem yl {H:Type}:∀ (l:List (DataW H)),l.length<=Rows.uptoBulkAll l
 | []=>by simp
 | a::l=>by
  rw[Rows.uptoBulkAll,List.length_cons]
  have:=yl l
  have:1<=Rows.uptoBulk a:=by cases a with
   | lit x=>cases x<;>simp[Rows.uptoBulk]
   | _=>simp[Rows.uptoBulk]
  omega
theorem bulk_ok {H:Type}:EG (H:=H) Rows.uptoBulk where
 len els sp:=by rw[Rows.uptoBulk];have:=yl els;omega
 sl els sp d hd:=by rw[Rows.uptoBulk];have:=uH hd;omega
 agg ps d hd:=by rw[Rows.uptoBulk];have:=uH hd;omega
 str b:=by rw[Rows.uptoBulk];omega
theorem Co {H:Type} {ds:List (DataW H)} (h:Rows.uptoSmall H ds=true):Rows.uptoBulkAll ds<=1048576:=of_decide_eq_true h
theorem BM {mx:Int} (x0:List Token) (hx0:∀ y∈x0,y.S.length<=1048576):ax prog (bd mx) 3 [] [.one (.sl 3 (x0.map aC))] (Is [] (.b (.one (.bool true)))) :=
 iu (BL x0 hx0)
end Go.Proofs.YtbcdabflmkgkiaaGreatDoor
