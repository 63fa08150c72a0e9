/- the plain law -/
import Derived.Test.YtbcdabflmkgkiaaGreatDoorW3
set_option linter.unusedSimpArgs false
set_option linter.unusedVariables false
open Go.IntKind (i8 i16 i32 i64 u8 u16 u32 u64)
open Go.Proofs.Tryz (prog)
namespace Go.Proofs.YtbcdabflmkgkiaaGreatDoor
open Go Go.Sk
def ew (b:UInt8):Bool:=decide (48<=b)&&decide (b<=57)
def xR (b:UInt8):Bool:=(decide (97<=b)&&decide (b<=122))||(decide (65<=b)&&decide (b<=90))
def ur (b:UInt8):Bool:=xR b||ew b||decide (b=95)
def AY (b:UInt8):Bool:=decide (b=32)||decide (b=9)||decide (b=10)||decide (b=13)
def zC (b:UInt8):Bool:=decide (b≠10)
theorem jo {p:UInt8->Bool} (h:∀ i:Fin 256,p (UInt8.ofNat i.val)=true) (x:UInt8):p x=true:=by
 have:=h ⟨x.toNat,x.toNat_lt⟩
 simpa using this
theorem uT (F:Nat) (x:UInt8):eX F (x.toNat:Int)=some (xR x):=by
 have h:∀ x:UInt8,decide (((decide (97<=(lx .u8 (x.toNat:Int) 32))&&decide ((lx .u8 (x.toNat:Int) 32)<=122))&&decide ((x.toNat:Int)<128))=xR x)=true:=jo (by decide +kernel)
 have h:=of_decide_eq_true (h x)
 unfold eX bA
 show some (_&&_)=_
 rw[h]
theorem tU (F:Nat) (x:UInt8):gB F (x.toNat:Int)=some (ew x):=by
 have h:∀ x:UInt8,decide ((decide (48<=(x.toNat:Int))&&decide ((x.toNat:Int)<=57))=ew x)=true:=jo (by decide +kernel)
 have h:=of_decide_eq_true (h x)
 unfold gB
 rw[h]
theorem pH (F:Nat) (x:UInt8):cT F (x.toNat:Int)=some (xR x):=by
 have h:∀ x:UInt8,decide (((decide (97<=(x.toNat:Int))&&decide ((x.toNat:Int)<=122))||(decide (65<=(x.toNat:Int))&&decide ((x.toNat:Int)<=90)))=xR x)=true:=jo (by decide +kernel)
 have h:=of_decide_eq_true (h x)
 unfold cT bA
 rw[h]
theorem kX (F:Nat) (x:UInt8):df F (x.toNat:Int)=some (ew x):=tU F x
theorem toNat_eq (x:UInt8) (n:Nat) (hn:n<256):decide ((x.toNat:Int)=(n:Int))=decide (x=UInt8.ofNat n):=by
 apply decide_eq_decide.2
 constructor
 intro h
 have:x.toNat=n:=by omega
 rw[← this];simp
 rintro rfl
 simp;omega
theorem fn_name (F:Nat) (x:UInt8):gq F 94 (x.toNat:Int)=some (ur x):=by
 unfold gq fC
 rw[if_pos rfl,uT,tU]
 have h:=toNat_eq x 95 (by decide)
 simp only[Option.bind_some]
 cases hl:xR x<;>cases hd:ew x<;>simp[aT,ur,hl,hd]<;>simpa using h
theorem w6 (F:Nat) (x:UInt8):gq F 95 (x.toNat:Int)=some (ew x):=by
 unfold gq
 rw[if_neg (by decide),if_pos rfl,tU]
theorem GM (F:Nat) (x:UInt8):gq F 99 (x.toNat:Int)=some (AY x):=by
 unfold gq fB gF ll s4
 rw[if_neg (by decide),if_neg (by decide),if_pos rfl]
 have h:∀ x:UInt8,decide (decide (0<=Lib.indexByte [32,9,10,13] (x.toNat:Int).toNat.toUInt8)=AY x)=true:=jo (by decide +kernel)
 simpa using of_decide_eq_true (h x)
theorem Ck (F:Nat) (x:UInt8):gq F 101 (x.toNat:Int)=some (zC x):=by
 unfold gq fA zC
 rw[if_neg (by decide),if_neg (by decide),if_neg (by decide),if_pos rfl]
 have h:=toNat_eq x 10 (by decide)
 simpa using h
theorem cr {s:Str} {k:Nat} {b:UInt8} {r:Str} (h:s.drop k=b::r):k<s.length:=by
 have:=congrArg List.length h
 simp at this;omega
theorem iB {s:Str} {k:Nat} {b:UInt8} {r:Str} (h:s.drop k=b::r):s.drop (k+1)=r:=by
 have e:s.drop (k+1)=(s.drop k).drop 1:=by rw[List.drop_drop]
 rw[e,h];rfl
theorem drop_nil {s:Str} {k:Nat} (h:s.drop k=[]) (hk:k<=s.length):k=s.length:=by
 have:=congrArg List.length h
 simp at this;omega
theorem dk {s:Str} {k:Nat} {b:UInt8} {r:Str} (h:s.drop k=b::r):aS s (k:Int)=some b:=by
 have hk:=cr h
 rw[rI (by omega) (by omega),vX _ _ hk]
 have:=List.drop_eq_getElem_cons hk
 rw[h] at this
 injection this with h1 h2
 rw[h1]
theorem wr {z:Int} (h1:0<=z) (h2:z<=1000000000):i64.wrap z=z:=jY (by omega) (by omega)
theorem wk (k:Nat) (h:k<=100000000):i64.wrap ((k:Int)+1)=((k+1:Nat):Int):=by rw[wr (by omega) (by omega)];rfl
theorem tE {s:Str} {k:Nat} (p:UInt8->Bool):s.drop (k+((s.drop k).takeWhile p).length)=(s.drop k).dropWhile p:=by
 rw[← List.drop_drop]
 generalize s.drop k=r
 induction r with
 | nil=>rfl
 | cons b r ih=>
  by_cases hb:p b=true
  simp only[List.takeWhile_cons_of_pos hb,List.dropWhile_cons_of_pos hb,List.length_cons,List.drop_succ_cons];exact ih
  simp only[List.takeWhile_cons_of_neg hb,List.dropWhile_cons_of_neg hb];rfl
theorem Cu (p:UInt8->Bool) (r:Str):(r.takeWhile p).length<=r.length:=by
 induction r with
 | nil=>simp
 | cons b r ih=>
  by_cases hb:p b=true
  simp only[List.takeWhile_cons_of_pos hb,List.length_cons];omega
  simp only[List.takeWhile_cons_of_neg hb,List.length_nil];omega
theorem nW {s:Str} {k:Nat} (p:UInt8->Bool) (hk:k<=s.length):k+((s.drop k).takeWhile p).length<=s.length:=by
 have:=Cu p (s.drop k)
 rw[List.length_drop] at this;omega
theorem kF {ι σ τ:Type} {body:σ->Option (σ⊕τ)} (st:ι->σ) (μ:ι->Nat) (I:ι->Prop) (Q:ι->τ->Prop)
 (step:∀ k,I k->(∃ j,body (st k)=some (.inl (st j))/\I j/\μ j<μ k/\∀ t,Q j t->Q k t)∨∃ t,body (st k)=some (.inr t)/\Q k t) :
 ∀ (G:Nat) (k:ι),I k->μ k<G->ar (iter G body (st k)) (Q k):=by
 intro G
 induction G with
 | zero=>intro k _ h;omega
 | succ G ih=>
  intro k hk hG
  rw[eE]
  rcases step k hk with ⟨j,h,hI,hm,hq⟩|⟨t,h,hq⟩
  rw[h]
  exact (ih j hI (by omega)).mono hq
  rw[h];exact⟨t,rfl,hq⟩
theorem rY {σ τ:Type} {body:σ->Option (σ⊕τ)} {s:Str} (p:UInt8->Bool) (st:Nat->σ) (g:Nat->τ)
 (h1:∀ k b r,s.drop k=b::r->p b=true->body (st k)=some (.inl (st (k+1))))
 (h0:∀ k b r,s.drop k=b::r->p b=false->body (st k)=some (.inr (g k)))
 (he:body (st s.length)=some (.inr (g s.length))) :
 ∀ (F k:Nat),k<=s.length->s.length-k<F->iter F body (st k)=some (g (k+((s.drop k).takeWhile p).length)):=by
 intro F
 induction F with
 | zero=>intro k _ h;omega
 | succ F ih=>
  intro k hk hF
  rw[eE]
  cases hd:s.drop k with
  | nil=>
   have hk':=drop_nil hd hk
   subst hk'
   rw[he];rfl
  | cons b r=>
   have hlt:=cr hd
   by_cases hb:p b=true
   rw[h1 k b r hd hb]
   show iter F body (st (k+1))=_
   rw[ih (k+1) (by omega) (by omega),iB hd,List.takeWhile_cons_of_pos hb,List.length_cons]
   congr 2;omega
   rw[h0 k b r hd (by simpa using hb),List.takeWhile_cons_of_neg hb];rfl
theorem uB {F fn:Nat} {s:Str} {k:Nat} {p:UInt8->Bool} (hp:∀ x:UInt8,gq F fn (x.toNat:Int)=some (p x)) (hk:k<=s.length) (hF:s.length<F) (hs:s.length<=100000000) :
 cG F fn s (k:Int)=some (((((s.drop k).takeWhile p).length:Nat):Int),s,((k+((s.drop k).takeWhile p).length:Nat):Int)):=by
 unfold cG
 rw[rY (s:=s) p (fun k=>(⟨s,(k:Int)⟩:Scan)) (fun k=>(⟨s,(k:Int)⟩:Scan)) ?_ ?_ ?_ F k hk (by omega)]
 have:=nW p hk
 generalize ((s.drop k).takeWhile p).length=n at *
 show some (i64.wrap (((k+n:Nat):Int)-(k:Int)),s,((k+n:Nat):Int))=some ((n:Int),s,((k+n:Nat):Int))
 rw[show ((k+n:Nat):Int)-(k:Int)=(n:Int) by omega,wr (by omega) (by omega)]
 intro k b r hd hb
 have b0:=cr hd
 have e:decide ((k:Int)<(s.length:Int))=true:=by simpa using b0
 simp only[e,aT,if_true,dk hd,Option.bind_some,hp,hb,Bool.and_self]
 rw[wk k (by omega)]
 intro k b r hd hb
 have b0:=cr hd
 have e:decide ((k:Int)<(s.length:Int))=true:=by simpa using b0
 simp only[e,aT,if_true,dk hd,Option.bind_some,hp,hb,Bool.and_false]
 rfl
 simp[aT]
def pk:Str->Int
 | []=>0
 | b::_=>(b.toNat:Int)
theorem mc (F:Nat) {s:Str} {k:Nat} (hk:k<=s.length):bx F s (k:Int)=some (pk (s.drop k)):=by
 unfold bx
 cases hd:s.drop k with
 | nil=>
  have:=drop_nil hd hk
  rw[if_pos (by simp;omega)];rfl
 | cons b r=>
  have hlt:=cr hd
  rw[if_neg (by simp;omega),dk hd];rfl
def sk:Bool->Str->Str
 | _,[]=>[]
 | false,b::r=>if AY b then sk false r else if b=35 then sk true r else b::r
 | true,b::r=>if b=10 then sk false r else sk true r
theorem o5:∀ (r:Str) (c:Bool),(sk c r).length<=r.length
 | [],c=>by cases c<;>simp[sk]
 | b::r,false=>by
  unfold sk
  have h1:=o5 r false
  have h2:=o5 r true
  split
  simp;omega
  split
  simp;omega
  simp
 | b::r,true=>by
  unfold sk
  have h1:=o5 r false
  have h2:=o5 r true
  split<;>simp<;>omega
theorem sk_sp (r:Str):sk false (r.dropWhile AY)=sk false r:=by
 induction r with
 | nil=>rfl
 | cons b r ih=>
  by_cases hb:AY b=true
  rw[List.dropWhile_cons_of_pos hb,ih]
  show _=sk false (b::r)
  rw[sk,if_pos hb]
  rw[List.dropWhile_cons_of_neg hb]
theorem sk_cm (r:Str):sk false (r.dropWhile zC)=sk true r:=by
 induction r with
 | nil=>rfl
 | cons b r ih=>
  by_cases hb:b=10
  subst hb
  rw[List.dropWhile_cons_of_neg (by decide)]
  rw[sk,if_pos (by decide),sk,if_pos rfl]
  rw[List.dropWhile_cons_of_pos (by simpa[zC] using hb),ih]
  conv=>rhs;rw[sk,if_neg hb]
theorem EV (r:Str):sk false (35::r)=sk false ((35::r).dropWhile zC):=by
 rw[List.dropWhile_cons_of_pos (by decide),sk_cm,sk,if_neg (by decide),if_pos rfl]
theorem vS:∀ (r:Str) (c:Bool),sk c r=r.drop (r.length-(sk c r).length)
 | [],c=>by cases c<;>rfl
 | b::r,c=>by
  have h1:=vS r false
  have h2:=vS r true
  have l1:=o5 r false
  have l2:=o5 r true
  have key:∀ t:Str,t.length<=r.length->t=r.drop (r.length-t.length)->t=(b::r).drop ((b::r).length-t.length):=by
   intro t hl ht
   have e:(b::r).length-t.length=(r.length-t.length)+1:=by simp only[List.length_cons];omega
   rw[e,List.drop_succ_cons];exact ht
  cases c
  by_cases hb:AY b=true
  have e:sk false (b::r)=sk false r:=by rw[sk,if_pos hb]
  rw[e];exact key _ l1 h1
  by_cases hc:b=35
  have e:sk false (b::r)=sk true r:=by rw[sk,if_neg hb,if_pos hc]
  rw[e];exact key _ l2 h2
  have e:sk false (b::r)=b::r:=by rw[sk,if_neg hb,if_neg hc]
  rw[e];simp
  by_cases hb:b=10
  have e:sk true (b::r)=sk false r:=by rw[sk,if_pos hb]
  rw[e];exact key _ l1 h1
  have e:sk true (b::r)=sk true r:=by rw[sk,if_neg hb]
  rw[e];exact key _ l2 h2
def sp (s:Str) (k:Nat):Nat:=s.length-(sk false (s.drop k)).length
theorem yT {s:Str} {k:Nat} (hk:k<=s.length):s.drop (sp s k)=sk false (s.drop k):=by
 have h:=vS (s.drop k) false
 have hl:=o5 (s.drop k) false
 rw[List.length_drop] at h hl
 conv=>rhs;rw[h]
 rw[List.drop_drop]
 congr 1
 unfold sp;omega
theorem EH {s:Str} {k:Nat} (hk:k<=s.length):k<=sp s k:=by
 have hl:=o5 (s.drop k) false
 rw[List.length_drop] at hl
 unfold sp;omega
theorem Cv {s:Str} {k j:Nat} (h:sk false (s.drop j)=sk false (s.drop k)):sp s j=sp s k:=by unfold sp;rw[h]
theorem Bk {s:Str} {k:Nat} (hk:k<=s.length) (h:sk false (s.drop k)=s.drop k):sp s k=k:=by
 unfold sp;rw[h,List.length_drop];omega
theorem tC {p:UInt8->Bool}:∀ {r:Str} {b:UInt8} {q:Str},r.dropWhile p=b::q->p b=false
 | [],_,_,h=>by cases h
 | a::r,b,q,h=>by
  by_cases ha:p a=true
  rw[List.dropWhile_cons_of_pos ha] at h;exact tC h
  rw[List.dropWhile_cons_of_neg ha] at h
  injection h with h1 h2
  subst h1;simpa using ha
theorem pk_35 {r:Str}:(pk r=35)↔∃ q,r=35::q:=by
 cases r with
 | nil=>simp[pk]
 | cons b q=>
  constructor
  intro h
  have h':(b.toNat:Int)=35:=h
  refine⟨q,?_⟩
  have:b=35:=by
   have h2:b.toNat=35:=by omega
   have:=congrArg UInt8.ofNat h2
   simpa using this
  rw[this]
  rintro⟨q',h⟩
  injection h with h1 h2
  subst h1;rfl
theorem sk_stop {r:Str} (h1:∀ b q,r=b::q->AY b=false) (h2:∀ q,r≠35::q):sk false r=r:=by
 cases r with
 | nil=>rfl
 | cons b q=>
  rw[sk,if_neg (by rw[h1 b q rfl];simp),if_neg]
  rintro rfl
  exact h2 q rfl
theorem CN {F:Nat} {s:Str} {k:Nat} (hk:k<=s.length) (hF:s.length<F) (hs:s.length<=100000000) :
 dV F s (k:Int)=some (s,((sp s k:Nat):Int)):=by
 unfold dV
 refine ar.eq (ar.bind (kF (fun k:Nat=>(⟨s,(k:Int)⟩:Scan)) (fun k=>s.length-k) (fun k=>k<=s.length) (fun k t=>t=⟨s,((sp s k:Nat):Int)⟩) ?_ F k hk (by omega)) fun t ht=>?_)
 intro k hk
 have hr:=uB (F:=F) (GM F) hk hF hs
 have hd:=tE (s:=s) (k:=k) AY
 have hle:=nW (s:=s) AY hk
 have b0:=sk_sp (s.drop k)
 have hhd:=@tC AY (s.drop k)
 dsimp only
 rw[hr]
 generalize ((s.drop k).takeWhile AY).length=a at *
 generalize hr1:(s.drop k).dropWhile AY=r1 at *
 simp only[Option.bind_some,iJ]
 rw[mc F hle,hd]
 by_cases hc:pk r1=35
 have hd2:=tE (s:=s) (k:=k+a) zC
 have b1:=nW (s:=s) zC hle
 obtain⟨q,rfl⟩:=pk_35.1 hc
 have hpos:0<((s.drop (k+a)).takeWhile zC).length:=by
  rw[hd,List.takeWhile_cons_of_pos (by decide)];simp
 refine .inl ⟨(k+a)+((s.drop (k+a)).takeWhile zC).length,?_,b1,by omega,?_⟩
 rw[uB (Ck F) hle hF hs]
 cases h0:decide (0<(a:Int))<;>simp[aT,hc]
 intro t ht
 rw[show sp s (k+a+((s.drop (k+a)).takeWhile zC).length)=sp s k from Cv (by rw[hd2,hd,← EV,b0])] at ht
 exact ht
 have hc':∀ q,r1≠35::q:=fun q h=>hc (pk_35.2 ⟨q,h⟩)
 by_cases ha:0<a
 refine .inl ⟨k+a,?_,hle,by omega,?_⟩
 have e0:decide (0<(a:Int))=true:=by simpa using ha
 simp only[e0,aT,Bool.not_true,Bool.true_or,if_true,Option.bind_some,hc,decide_false,Bool.false_eq_true,if_false]
 intro t ht
 rw[show sp s (k+a)=sp s k from Cv (by rw[hd,b0])] at ht
 exact ht
 refine .inr ⟨⟨s,(((k+a:Nat)):Int)⟩,?_,?_⟩
 have e0:decide (0<(a:Int))=false:=by simpa using ha
 simp only[e0,aT,Bool.not_false,if_true,Option.bind_some,hc,decide_false,Bool.or_self,Bool.false_eq_true,if_false]
 have:a=0:=by omega
 subst this
 have hst:sk false r1=r1:=sk_stop (fun b q h=>hhd h) hc'
 rw[show sp s k=k+0 from Bk hk (by rw[← b0,hst,← hd];rfl)]
 subst ht;exact ar.some rfl
theorem DZ (x:UInt8):(if decide ((x.toNat:Int)=32)=true then some (decide ((x.toNat:Int)=32)) else if decide ((x.toNat:Int)=9)=true then some (decide ((x.toNat:Int)=9)) else if decide ((x.toNat:Int)=10)=true then some (decide ((x.toNat:Int)=10)) else some (decide ((x.toNat:Int)=13)))=some (AY x):=by
 rw[show decide ((x.toNat:Int)=32)=decide (x=32) from toNat_eq x 32 (by decide),show decide ((x.toNat:Int)=9)=decide (x=9) from toNat_eq x 9 (by decide),show decide ((x.toNat:Int)=10)=decide (x=10) from toNat_eq x 10 (by decide),show decide ((x.toNat:Int)=13)=decide (x=13) from toNat_eq x 13 (by decide)]
 unfold AY
 cases decide (x=32)<;>cases decide (x=9)<;>cases decide (x=10)<;>cases decide (x=13)<;>rfl
theorem b35 (x:UInt8):decide ((x.toNat:Int)=35)=decide (x=35):=toNat_eq x 35 (by decide)
theorem zW {F:Nat} {s:Str} {k:Nat} (hk:k<=s.length) (hF:s.length<F) (hs:s.length<=100000000) :
 dU F s (k:Int)=some ((sp s k:Nat):Int):=by
 unfold dU
 refine ar.eq (ar.bind (kF (fun k:Nat=>(k:Int)) (fun k=>s.length-k) (fun k=>k<=s.length) (fun k t=>cW (fun b1=>some b1) (fun y=>some y) t=some ((sp s k:Nat):Int)) ?_ F k hk (by omega)) fun t ht=>ht▸ar.some rfl)
 intro k hk
 cases hd:s.drop k with
 | nil=>
  have:=drop_nil hd hk
  subst this
  rw[if_neg (by simp)]
  refine .inr ⟨_,rfl,?_⟩
  rw[show sp s s.length=s.length from Bk (Nat.le_refl _) (by rw[hd];rfl)]
 | cons b r=>
  have b0:=cr hd
  rw[if_pos (by simpa using b0),dk hd,Option.bind_some,DZ,Option.bind_some]
  by_cases hb:AY b=true
  rw[if_pos hb,wk k (by omega)]
  refine .inl ⟨k+1,rfl,by omega,by omega,fun t ht=>?_⟩
  rw[show sp s (k+1)=sp s k from Cv (by rw[iB hd,hd];conv=>rhs;rw[sk,if_pos hb])] at ht
  exact ht
  rw[if_neg hb,b35]
  by_cases hc:b=35
  subst hc
  rw[if_pos (by decide)]
  rw[rY (s:=s) zC (fun k=>(k:Int)) (fun k=>(k:Int)) ?_ ?_ ?_ F k hk (by omega)]
  have hd2:=tE (s:=s) (k:=k) zC
  have b2:=nW (s:=s) zC hk
  have hpos:0<((s.drop k).takeWhile zC).length:=by
   rw[hd,List.takeWhile_cons_of_pos (by decide)];simp
  refine .inl ⟨_,rfl,b2,by omega,fun t ht=>?_⟩
  rw[show sp s (k+((s.drop k).takeWhile zC).length)=sp s k from Cv (by rw[hd2,hd,← EV])] at ht
  exact ht
  intro k b r hd hb
  have b0:=cr hd
  have e:decide ((k:Int)<(s.length:Int))=true:=by simpa using b0
  have e2:decide ((b.toNat:Int)≠10)=true:=by
   rw[decide_not,show decide ((b.toNat:Int)=10)=decide (b=10) from toNat_eq b 10 (by decide)]
   simpa[zC] using hb
  simp only[e,aT,if_true,dk hd,Option.bind_some,bA,e2,Bool.and_self]
  rw[wk k (by omega)]
  intro k b r hd hb
  have b0:=cr hd
  have e:decide ((k:Int)<(s.length:Int))=true:=by simpa using b0
  have e2:decide ((b.toNat:Int)≠10)=false:=by
   rw[decide_not,show decide ((b.toNat:Int)=10)=decide (b=10) from toNat_eq b 10 (by decide)]
   simpa[zC] using hb
  simp only[e,aT,if_true,dk hd,Option.bind_some,bA,e2,Bool.and_false]
  rfl
  simp[aT,bA]
  rw[if_neg (by simpa using hc)]
  refine .inr ⟨_,rfl,?_⟩
  rw[show sp s k=k from Bk hk (by rw[hd,sk,if_neg hb,if_neg hc])]
def isW (t:Str):Bool:=decide (t∈fJ)
theorem Eo {F:Nat} {l:List Str} {t:Str} (hF:l.length<F) (hl:l.length<=100000000) :
 Option.bind (iter F (fun b0:Int=>if (decide (b0<(l.length:Int)))=true then (Option.bind (aS l b0) (fun b1=>if (decide (b1=t))=true then (some (.inr (.inr true))) else (some (.inl (i64.wrap (b0+1)))))) else (some (.inr (.inl ())))) 0) (cW (fun _=>some false) (fun y=>some y))=some (decide (t∈l)):=by
 have key:ar (iter F (fun b0:Int=>if (decide (b0<(l.length:Int)))=true then (Option.bind (aS l b0) (fun b1=>if (decide (b1=t))=true then (some (.inr (.inr true))) else (some (.inl (i64.wrap (b0+1)))))) else (some (.inr (.inl ())))) 0) (fun o:Unit⊕Bool=>cW (fun _=>some false) (fun y=>some y) o=some (decide (t∈l))):=by
  refine ar.find (c:=fun x=>decide (x=t)) (r:=fun _=>true) hF (by omega) (fun h=>?_) (fun pre x post e h hx=>?_) fun i x hx=>?_
  have:t ∉ l:=fun hm=>by have:=h t hm;simp at this
  simp[this]
  have:t∈l:=by rw[e,← of_decide_eq_true hx];simp
  simp[this]
  rw[hx];rfl
 obtain⟨o,ho,h⟩:=key
 rw[ho];exact h
theorem Gb {F:Nat} (hF:100<F) (t:Str):fb F t=some (isW t):=by
 unfold fb fU
 rw[Option.bind_some]
 exact Eo (l:=fJ) (by show 36<F;omega) (by decide)
theorem bs_in (G:Nat):fJ.all (fun t=>decide (fw (G+100) t=some true))=true:=by kernel_rfl
theorem bs_out {F:Nat} (hF:100<F) {t:Str} (h:t ∉ fJ):fw F t=some false:=by
 unfold fw fT
 have hl:(fJ.length:Int)=36:=by decide
 rw[hl]
 refine ar.eq (ar.bind (P:=fun o:Int×Bool=>o.2=false) (ar.bind (P:=fun i:Int=>0<=i) (ar.loop (fun s:Int×Int=>0<=s.1/\s.1<=s.2/\s.2<=36) (fun s=>(s.2-s.1).toNat) (by decide) (by show (36:Int).toNat<F;have:(36:Int).toNat=36:=rfl;omega) ?_) fun i hi=>?_) ?_)
 rintro⟨i,j⟩ ⟨h0,h1,h2⟩
 simp only at h0 h1 h2
 simp only[bQ]
 refine ar.ite (fun hc=>?_) (fun hc=>ar.some (.inr ⟨_,rfl,h0⟩))
 have hc:=of_decide_eq_true hc
 have e1:i64.wrap (i+j)=i+j:=wr (by omega) (by omega)
 have e2:u64.wrap (i+j)=i+j:=by rw[gH];omega
 have e3:i64.wrap ((i+j)/2)=(i+j)/2:=wr (by omega) (by omega)
 rw[e1,e2]
 refine ar.ln ?_
 rw[e3]
 refine ar.idx (by omega) (by rw[hl];omega) ?_
 unfold pM lT
 rw[Option.bind_some]
 have e4:decide (idx fJ ((i+j)/2)≠idx fJ ((i+j)/2))=false:=by simp
 rw[e4]
 refine ar.aP (x:=Op.bytesLess (idx fJ ((i+j)/2)) t) (by simp[aT]) ?_
 refine ar.ite (fun _=>ar.ln (ar.some (.inl ⟨_,rfl,?_,?_⟩))) (fun _=>ar.some (.inl ⟨_,rfl,?_,?_⟩))
 rw[wr (by omega) (by omega)];simp only;omega
 rw[wr (by omega) (by omega)];simp only;omega
 simp only;omega
 simp only;omega
 by_cases hc:i<36
 have e0:decide (i<36)=true:=by simpa using hc
 have e1:decide (idx fJ i=t)=false:=by
  have hm:idx fJ i∈fJ:=by
   have:=idx_eq (xs:=fJ) hi (by rw[hl];exact hc)
   exact List.mem_of_getElem? this
  simp only[decide_eq_false_iff_not]
  intro e;exact h (e▸hm)
 rw[e0]
 refine ar.g1 rfl (ar.idx hi (by rw[hl];exact hc) ?_)
 rw[e1]
 refine ar.g1 rfl (ar.idx hi (by rw[hl];exact hc) ?_)
 unfold iZ
 simp only[Bool.not_false,Bool.and_self,aT,if_true,Option.bind_some,bA]
 have e4:decide (idx fJ i≠idx fJ i)=false:=by simp
 rw[e4]
 exact ar.some rfl
 have e0:decide (i<36)=false:=by simpa using hc
 rw[e0]
 simp only[Bool.false_and,aT,Bool.false_eq_true,if_false,Option.bind_some,bA]
 exact ar.some rfl
 rintro⟨i,b⟩ hb
 simp only at hb
 subst hb
 exact ar.some rfl
theorem word_ok {F:Nat} (hF:100<F) (t:Str):fw F t=some (isW t):=by
 by_cases h:t∈fJ
 obtain⟨G,rfl⟩:∃ G,F=G+100:=⟨F-100,by omega⟩
 have:=of_decide_eq_true (List.all_eq_true.1 (bs_in G) t h)
 rw[this,isW,decide_eq_true h]
 rw[bs_out hF h,isW,decide_eq_false h]
inductive Tk where
 | bad (e:Int)
 | rq (k:Int) (t:Str) (n:Nat)
def lI (r:Str):Tk:=if 32<(r.takeWhile ur).length then .bad 2 else .rq (if isW (r.takeWhile ur) then 1 else 2) (r.takeWhile ur) (r.takeWhile ur).length
def lU (r:Str):Nat×Nat:=match r.dropWhile ew with
 | 46::d::q=>if ew d then ((r.takeWhile ew).length+1+((d::q).takeWhile ew).length,(r.takeWhile ew).length+((d::q).takeWhile ew).length) else ((r.takeWhile ew).length,(r.takeWhile ew).length)
 | _=>((r.takeWhile ew).length,(r.takeWhile ew).length)
def hL:Str->Bool
 | []=>false
 | b::_=>xR b
def lu (r:Str):Bool:=hL r||decide (pk r=95)
def wu (r:Str):Bool:=decide (1<(r.takeWhile ew).length)&&decide (pk r=48)
def sE (r:Str):Tk:=if 40<(lU r).2 then .bad 2 else if wu r||lu (r.drop (lU r).1) then .bad 281 else .rq 3 (r.take (lU r).1) (lU r).1
def iF:Str->Option (Str×Nat)
 | []=>none
 | [b]=>if b=34 then some ([],1) else none
 | b::c::q=>if b=34 then some ([],1) else if b=92 then (if c=34∨c=92 then (iF q).map fun z=>(c::z.1,z.2+2) else none) else if 32<=b/\b<=126 then (iF (c::q)).map fun z=>(b::z.1,z.2+1) else none
def og (r:Str):Tk:=match iF (r.drop 1) with
 | none=>.bad 280
 | some z=>if 80<z.1.length then .bad 2 else .rq 4 z.1 (z.2+1)
def mE (r:Str):Tk:=match dr.find? (fun g=>g.isPrefixOf r) with
 | none=>.bad 280
 | some g=>.rq 5 g g.length
def tok (r:Str):Tk:=match r with
 | []=>.bad 280
 | b::_=>if xR b then lI r else if ew b then sE r else if b=34 then og r else mE r
def Tk.res (s:Str) (k:Nat):Tk->(Token×Bool×Str×Int)⊕Problem
 | .bad e=>.inr ⟨(k:Int),e⟩
 | .rq kd t n=>.inl (⟨kd,(k:Int),t⟩,true,s,((k+n:Nat):Int))
def Tk.ref (k:Nat):Tk->qk
 | .bad e=>⟨⟨0,0,[]⟩,0,e⟩
 | .rq kd t n=>⟨⟨kd,(k:Int),t⟩,((k+n:Nat):Int),0⟩
theorem sK {s:Str} {k n:Nat} (h:k+n<=s.length):vF s (k:Int) ((k+n:Nat):Int)=some ((s.drop k).take n):=by
 unfold vF
 rw[if_pos ⟨by omega,by omega,by omega⟩]
 congr 1
 simp only[Int.toNat_natCast]
 rw[List.drop_take]
 congr 1
 omega
theorem yR (p:UInt8->Bool) (r:Str):r.take (r.takeWhile p).length=r.takeWhile p:=by
 induction r with
 | nil=>rfl
 | cons b r ih=>
  by_cases hb:p b=true
  rw[List.takeWhile_cons_of_pos hb,List.length_cons,List.take_succ_cons,ih]
  rw[List.takeWhile_cons_of_neg hb];rfl
theorem tu (b:UInt8) (r:Str):pk (b::r)=(b.toNat:Int):=rfl
theorem uS (F:Nat) (r:Str):eX F (pk r)=some (hL r):=by
 cases r with
 | nil=>exact uT F 0
 | cons b r=>exact uT F b
theorem pk_95 (r:Str):decide (pk r=95)=match r with|[]=>false|b::_=>decide (b=95):=by
 cases r with
 | nil=>rfl
 | cons b r=>exact toNat_eq b 95 (by decide)
theorem EJ (r:Str):decide (pk r=34)=match r with|[]=>false|b::_=>decide (b=34):=by
 cases r with
 | nil=>rfl
 | cons b r=>exact toNat_eq b 34 (by decide)
theorem pk_46 (r:Str):decide (pk r=46)=match r with|[]=>false|b::_=>decide (b=46):=by
 cases r with
 | nil=>rfl
 | cons b r=>exact toNat_eq b 46 (by decide)
theorem name_no {F:Nat} {s:Str} {k:Nat} {b:UInt8} {q:Str} (hd:s.drop k=b::q) (hb:xR b=false):cC F s (k:Int)=some (.inl (⟨0,0,[]⟩,false,s,(k:Int))):=by
 have hk:=cr hd
 unfold cC
 rw[mc F (by omega),Option.bind_some,uS,hd,Option.bind_some]
 simp only[hL,hb,Bool.not_false,if_true]
theorem name_ok {F:Nat} {s:Str} {k:Nat} {b:UInt8} {q:Str} (hd:s.drop k=b::q) (hb:xR b=true) (hF:s.length<F) (hF2:100<F) (hs:s.length<=100000000):cC F s (k:Int)=some ((lI (s.drop k)).res s k):=by
 have hk:=cr hd
 unfold cC
 rw[mc F (by omega),Option.bind_some,uS,hd,Option.bind_some]
 simp only[hL,hb,Bool.not_true,Bool.false_eq_true,if_false]
 rw[uB (fn_name F) (by omega) hF hs,Option.bind_some]
 have hle:=nW (s:=s) ur (Nat.le_of_lt hk)
 have htk:=yR ur (s.drop k)
 rw[← hd]
 unfold lI
 generalize hn:((s.drop k).takeWhile ur).length=n at *
 simp only[iJ]
 by_cases h32:32<n
 rw[if_pos h32,if_pos (by simp;omega)];rfl
 rw[if_neg h32,if_neg (by simp;omega)]
 simp only[Option.bind_some,cW]
 rw[sK hle,Option.bind_some,htk,word_ok hF2,Option.bind_some]
 cases isW ((s.drop k).takeWhile ur)<;>rfl
theorem Gg {F:Nat} {s:Str} {k:Nat} (hk:k<=s.length) (hF:s.length<F) (hF2:100<F) (hs:s.length<=100000000):fa F s (k:Int)=some ((lI (s.drop k)).ref k):=by
 unfold fa
 rw[rY (s:=s) ur (fun k=>(k:Int)) (fun k=>(k:Int)) ?_ ?_ ?_ F k hk (by omega)]
 have hle:=nW (s:=s) ur hk
 have htk:=yR ur (s.drop k)
 unfold lI
 generalize hn:((s.drop k).takeWhile ur).length=n at *
 rw[Option.bind_some,show ((k+n:Nat):Int)-(k:Int)=(n:Int) by omega,wr (by omega) (by omega)]
 by_cases h32:32<n
 rw[if_pos h32,if_pos (by simp;omega)];rfl
 rw[if_neg h32,if_neg (by simp;omega)]
 rw[sK hle,Option.bind_some,htk,Gb hF2,Option.bind_some]
 cases isW ((s.drop k).takeWhile ur)<;>rfl
 intro k b r hd hb
 have b0:=cr hd
 have e:decide ((k:Int)<(s.length:Int))=true:=by simpa using b0
 have b1:((b.toNat:Int)=95)↔b=95:=decide_eq_decide.1 (toNat_eq b 95 (by decide))
 unfold ur at hb
 simp only[e,aT,if_true,dk hd,Option.bind_some,bA,pH,kX,Bool.true_and]
 cases hl:xR b<;>cases hg:ew b<;>simp[hl,hg,b1,wk k (by omega)]<;>simpa[hl,hg] using hb
 intro k b r hd hb
 have b0:=cr hd
 have e:decide ((k:Int)<(s.length:Int))=true:=by simpa using b0
 have b1:((b.toNat:Int)=95)↔b=95:=decide_eq_decide.1 (toNat_eq b 95 (by decide))
 unfold ur at hb
 simp only[e,aT,if_true,dk hd,Option.bind_some,bA,pH,kX,Bool.true_and]
 cases hl:xR b<;>cases hg:ew b<;>simp[hl,hg,b1] at hb ⊢<;>simpa[hl,hg] using hb
 simp[aT,bA]
theorem yw {F:Nat} {s:Str} {k:Nat} (hk:k<=s.length) (hF:s.length<F) (hs:s.length<=100000000):dB F s (k:Int)=some ((k+((s.drop k).takeWhile ew).length:Nat):Int):=by
 unfold dB
 rw[rY (s:=s) ew (fun k=>(k:Int)) (fun k=>(k:Int)) ?_ ?_ ?_ F k hk (by omega)]
 rfl
 intro k b r hd hb
 have b0:=cr hd
 have e:decide ((k:Int)<(s.length:Int))=true:=by simpa using b0
 simp only[e,aT,if_true,dk hd,Option.bind_some,kX,hb,Bool.and_self]
 rw[wk k (by omega)]
 intro k b r hd hb
 have b0:=cr hd
 have e:decide ((k:Int)<(s.length:Int))=true:=by simpa using b0
 simp only[e,aT,if_true,dk hd,Option.bind_some,kX,hb,Bool.and_false]
 rfl
 simp[aT]
theorem y4 (r:Str):(lU r).1<=r.length:=by
 have h1:=Cu ew r
 have h2:(r.takeWhile ew).length+(r.dropWhile ew).length=r.length:=by
  conv=>rhs;rw[← List.takeWhile_append_dropWhile (p:=ew) (l:=r),List.length_append]
 unfold lU
 split
 next d q h=>
  rw[h] at h2
  have h3:=Cu ew (d::q)
  split
  simp only[List.length_cons] at *;omega
  simp only;omega
 simp only;omega
theorem wZ {r:Str} {d:UInt8} {q:Str} (h:r.dropWhile ew=46::d::q) (hd:ew d=true):lU r=((r.takeWhile ew).length+1+((d::q).takeWhile ew).length,(r.takeWhile ew).length+((d::q).takeWhile ew).length):=by
 unfold lU
 rw[h]
 simp only[hd,if_true]
theorem yZ {r:Str} (h:∀ d q,r.dropWhile ew=46::d::q->ew d=false):lU r=((r.takeWhile ew).length,(r.takeWhile ew).length):=by
 unfold lU
 split
 next d q e=>rw[h d q e];rfl
 rfl
theorem Ee {F:Nat} {s:Str} {k:Nat} {b:UInt8} {q:Str} (hd:s.drop k=b::q) (hb:ew b=false) (hF:s.length<F) (hs:s.length<=100000000):cf F s (k:Int)=some (.inl (⟨0,0,[]⟩,false,s,(k:Int))):=by
 have hk:=cr hd
 unfold cf
 rw[uB (w6 F) (by omega) hF hs,Option.bind_some,hd,List.takeWhile_cons_of_neg (by simp[hb])]
 rfl
theorem Ed {F:Nat} {s:Str} {k:Nat} {b:UInt8} {q:Str} (hd:s.drop k=b::q) (hb:ew b=true) (hF:s.length<F) (hs:s.length<=100000000):cf F s (k:Int)=some ((sE (s.drop k)).res s k):=by
 have hk:=cr hd
 unfold cf
 rw[uB (w6 F) (by omega) hF hs,Option.bind_some]
 have hle:=nW (s:=s) ew (Nat.le_of_lt hk)
 have b3:=tE (s:=s) (k:=k) ew
 have hnl:=y4 (s.drop k)
 rw[List.length_drop] at hnl
 have ha:0<((s.drop k).takeWhile ew).length:=by rw[hd,List.takeWhile_cons_of_pos hb];simp
 have hz:wu (s.drop k)=(decide (1<((s.drop k).takeWhile ew).length)&&decide ((b.toNat:Int)=48)):=by unfold wu;rw[hd];rfl
 have b5:=@wZ (s.drop k)
 have b4:=@yZ (s.drop k)
 generalize hA:((s.drop k).takeWhile ew).length=a at *
 simp only[iJ]
 rw[if_neg (by simp;omega)]
 refine ar.eq (ar.bind (P:=fun o:Scan×Int=>o=(⟨s,((k+(lU (s.drop k)).1:Nat):Int)⟩,((lU (s.drop k)).2:Int)-(a:Int))/\(lU (s.drop k)).2<=s.length) ?_ ?_)
 rw[mc F hle,b3,Option.bind_some,pk_46]
 cases h1:(s.drop k).dropWhile ew with
 | nil=>
  rw[b4 (by rw[h1];intro d q h;cases h)]
  simp only[Bool.false_and,aT,Bool.false_eq_true,if_false,Option.bind_some]
  exact ar.some ⟨by simp,by show a<=s.length;omega⟩
 | cons c r1=>
  rw[h1] at b3
  have hlt:=cr b3
  have b0:=iB b3
  simp only
  by_cases hc:c=46
  subst hc
  cases r1 with
  | nil=>
   have hend:k+a+1=s.length:=drop_nil b0 (by omega)
   rw[b4 (by rw[h1];intro d q h;cases h)]
   have e1:decide (i64.wrap (((k+a:Nat):Int)+1)<(s.length:Int))=false:=by rw[wk (k+a) (by omega)];simp;omega
   simp only[e1,Bool.and_false,aT,Bool.false_eq_true,if_false,Option.bind_some]
   exact ar.some ⟨by simp,by show a<=s.length;omega⟩
  | cons d q1=>
   have hlt2:=cr b0
   have e1:decide (((k+a+1:Nat):Int)<(s.length:Int))=true:=decide_eq_true (by omega)
   have e2:=dk b0
   simp only[wk (k+a) (by omega),e1,e2,decide_true,Bool.and_self,aT,if_true,Option.bind_some,tU,Bool.true_and]
   by_cases hg:ew d=true
   rw[b5 (d:=d) (q:=q1) (by rw[h1]) hg,hg,if_pos rfl,uB (w6 F) (by omega) hF hs,Option.bind_some,b0]
   have h5:=nW (s:=s) (k:=k+a+1) ew (by omega)
   rw[b0] at h5
   generalize ((d::q1).takeWhile ew).length=m at *
   refine ar.some ⟨?_,by show a+m<=s.length;omega⟩
   show ((⟨s,((k+a+1+m:Nat):Int)⟩:Scan),(m:Int))=(⟨s,((k+(a+1+m):Nat):Int)⟩,((a+m:Nat):Int)-(a:Int))
   rw[show k+(a+1+m)=k+a+1+m by omega,show ((a+m:Nat):Int)-(a:Int)=(m:Int) by omega]
   have hg':ew d=false:=by simpa using hg
   rw[b4 (by rw[h1];intro d' q' h;injection h with _ h;injection h with h _;rw[← h];exact hg')]
   simp only[hg',Bool.and_false,Bool.false_eq_true,if_false]
   exact ar.some ⟨by simp,by show a<=s.length;omega⟩
  have e0:decide (c=46)=false:=by simpa using hc
  rw[b4 (by rw[h1];intro d q h;injection h with h _;exact absurd h hc)]
  simp only[e0,Bool.false_and,aT,Bool.false_eq_true,if_false,Option.bind_some]
  exact ar.some ⟨by simp,by show a<=s.length;omega⟩
 rintro o ⟨rfl,hc⟩
 simp only[bQ]
 unfold sE
 have b1:k+(lU (s.drop k)).1<=s.length:=by omega
 have hu:=uS F (s.drop (k+(lU (s.drop k)).1))
 rw[← List.drop_drop] at hu
 have hp:=mc F b1
 rw[← List.drop_drop] at hp
 have b2:=sK b1
 rw[hz]
 generalize lU (s.drop k)=nc at *
 obtain⟨n,c⟩:=nc
 simp only at *
 rw[show (a:Int)+((c:Int)-(a:Int))=(c:Int) by omega,wr (by omega) (by omega)]
 by_cases h40:40<c
 rw[if_pos h40,if_pos (by simp;omega)]
 exact ar.some rfl
 rw[if_neg h40,if_neg (by simp;omega)]
 have hi:=dk hd
 have e0:decide ((1:Int)<(a:Int))=decide (1<a):=by rw[decide_eq_decide];omega
 simp only[hi,hp,b2,e0,lu]
 rcases Bool.eq_false_or_eq_true (decide (1<a)) with hA|hA<;>rcases Bool.eq_false_or_eq_true (hL ((s.drop k).drop n)) with hl|hl<;>rcases Bool.eq_false_or_eq_true (decide (pk ((s.drop k).drop n)=95)) with hU|hU<;>rcases Bool.eq_false_or_eq_true (decide ((b.toNat:Int)=48)) with hB|hB<;>simp only[aT,hA,Bool.not_true,Bool.not_false,Bool.true_and,Bool.false_and,Bool.and_true,Bool.and_false,Bool.or_true,Bool.or_false,Bool.true_or,Bool.false_or,if_true,Bool.false_eq_true,if_false,Option.bind_some,hB,hu,hl,hU,bA,b2,cW,bz]<;>exact ar.some rfl
theorem B5 {F:Nat} {s:Str} {k:Nat} {b:UInt8} {q:Str} (hd:s.drop k=b::q) (hb:ew b=true) (hF:s.length<F) (hs:s.length<=100000000):ee F s (k:Int)=some ((sE (s.drop k)).ref k):=by
 have hk:=cr hd
 unfold ee
 rw[yw (by omega) hF hs,Option.bind_some]
 have hle:=nW (s:=s) ew (Nat.le_of_lt hk)
 have b0:=tE (s:=s) (k:=k) ew
 have hnl:=y4 (s.drop k)
 rw[List.length_drop] at hnl
 have ha:0<((s.drop k).takeWhile ew).length:=by rw[hd,List.takeWhile_cons_of_pos hb];simp
 have hz:wu (s.drop k)=(decide (1<((s.drop k).takeWhile ew).length)&&decide ((b.toNat:Int)=48)):=by unfold wu;rw[hd];rfl
 have b5:=@wZ (s.drop k)
 have b3:=@yZ (s.drop k)
 generalize hA:((s.drop k).takeWhile ew).length=a at *
 have hw:i64.wrap (((k+a:Nat):Int)-(k:Int))=(a:Int):=by rw[show ((k+a:Nat):Int)-(k:Int)=(a:Int) by omega,wr (by omega) (by omega)]
 rw[hw]
 refine ar.eq (ar.bind (P:=fun o:Int×Int=>o=(((k+(lU (s.drop k)).1:Nat):Int),((lU (s.drop k)).2:Int))/\(lU (s.drop k)).2<=s.length) ?_ ?_)
 rw[wk (k+a) (by omega)]
 cases h1:(s.drop k).dropWhile ew with
 | nil=>
  rw[h1] at b0
  have b1:=drop_nil b0 hle
  have e0:decide (((k+a+1:Nat):Int)<(s.length:Int))=false:=decide_eq_false (by omega)
  rw[b3 (by rw[h1];intro d q h;cases h)]
  simp only[e0,Bool.false_and,aT,Bool.false_eq_true,if_false,Option.bind_some,bA]
  exact ar.some ⟨rfl,by show a<=s.length;omega⟩
 | cons c r1=>
  rw[h1] at b0
  have hlt:=cr b0
  have b4:=iB b0
  have hi:=dk b0
  have h46:decide ((c.toNat:Int)=46)=decide (c=46):=toNat_eq c 46 (by decide)
  cases r1 with
  | nil=>
   have b1:k+a+1=s.length:=drop_nil b4 (by omega)
   have e0:decide (((k+a+1:Nat):Int)<(s.length:Int))=false:=decide_eq_false (by omega)
   rw[b3 (by rw[h1];intro d q h;cases h)]
   simp only[e0,Bool.false_and,aT,Bool.false_eq_true,if_false,Option.bind_some,bA]
   exact ar.some ⟨rfl,by show a<=s.length;omega⟩
  | cons d q1=>
   have hlt2:=cr b4
   have e0:decide (((k+a+1:Nat):Int)<(s.length:Int))=true:=decide_eq_true (by omega)
   have hi2:=dk b4
   by_cases hc:c=46
   subst hc
   have e1:decide (((46:UInt8).toNat:Int)=46)=true:=rfl
   by_cases hg:ew d=true
   have h5:=nW (s:=s) (k:=k+a+1) ew (by omega)
   have h6:=yw (F:=F) (s:=s) (k:=k+a+1) (by omega) hF hs
   rw[b4] at h5 h6
   rw[b5 (d:=d) (q:=q1) (by rw[h1]) hg]
   simp only[e0,e1,hi,hi2,Bool.and_self,aT,if_true,Option.bind_some,bA,kX,hg,h6]
   generalize ((d::q1).takeWhile ew).length=m at *
   refine ar.some ⟨?_,by show a+m<=s.length;omega⟩
   rw[show (a:Int)+((k+a+1+m:Nat):Int)=((a+(k+a+1+m):Nat):Int) by omega,wr (z:=((a+(k+a+1+m):Nat):Int)) (by omega) (by omega),show ((a+(k+a+1+m):Nat):Int)-((k+a:Nat):Int)=((a+m+1:Nat):Int) by omega,wr (z:=((a+m+1:Nat):Int)) (by omega) (by omega),show ((a+m+1:Nat):Int)-1=((a+m:Nat):Int) by omega,wr (by omega) (by omega)]
   rw[show k+(a+1+m)=k+a+1+m by omega]
   have hg':ew d=false:=by simpa using hg
   rw[b3 (by rw[h1];intro d' q' h;injection h with _ h;injection h with h _;rw[← h];exact hg')]
   simp only[e0,e1,hi,hi2,Bool.and_self,aT,if_true,Option.bind_some,bA,kX,hg',Bool.and_false,Bool.false_eq_true,if_false]
   exact ar.some ⟨rfl,by show a<=s.length;omega⟩
   have e1:decide (c=46)=false:=by simpa using hc
   rw[b3 (by rw[h1];intro d q h;injection h with h _;exact absurd h hc)]
   simp only[e0,h46,e1,hi,aT,if_true,Option.bind_some,bA,Bool.and_false,Bool.false_and,Bool.false_eq_true,if_false]
   exact ar.some ⟨rfl,by show a<=s.length;omega⟩
 rintro o ⟨rfl,hc⟩
 simp only[bQ]
 unfold sE
 have b2:k+(lU (s.drop k)).1<=s.length:=by omega
 have c0:=sK b2
 rw[hz]
 generalize lU (s.drop k)=nc at *
 obtain⟨n,c⟩:=nc
 simp only at *
 by_cases h40:40<c
 rw[if_pos h40,if_pos (by simp;omega)]
 exact ar.some rfl
 rw[if_neg h40,if_neg (by simp;omega)]
 have hi:=dk hd
 have e0:decide ((1:Int)<(a:Int))=decide (1<a):=by rw[decide_eq_decide];omega
 simp only[hi,c0,e0,lu]
 cases hr:s.drop (k+n) with
 | nil=>
  have b1:=drop_nil hr b2
  rw[← List.drop_drop] at hr
  have e1:decide (((k+n:Nat):Int)<(s.length:Int))=false:=decide_eq_false (by omega)
  have e2:decide (pk (List.drop n (List.drop k s))=95)=false:=by rw[hr];rfl
  have e3:hL (List.drop n (List.drop k s))=false:=by rw[hr];rfl
  rcases Bool.eq_false_or_eq_true (decide (1<a)) with hA|hA<;>rcases Bool.eq_false_or_eq_true (decide ((b.toNat:Int)=48)) with hB|hB<;>simp only[aT,hA,e1,e2,e3,Bool.not_true,Bool.not_false,Bool.true_and,Bool.false_and,Bool.and_true,Bool.and_false,Bool.or_true,Bool.or_false,Bool.true_or,Bool.false_or,if_true,Bool.false_eq_true,if_false,Option.bind_some,hB,bA]<;>exact ar.some rfl
 | cons c1 r1=>
  have hlt:=cr hr
  have hi3:=dk hr
  rw[← List.drop_drop] at hr
  have e1:decide (((k+n:Nat):Int)<(s.length:Int))=true:=decide_eq_true (by omega)
  have e2:decide (pk (List.drop n (List.drop k s))=95)=decide ((c1.toNat:Int)=95):=by rw[hr];rfl
  have e3:hL (List.drop n (List.drop k s))=xR c1:=by rw[hr];rfl
  have e4:=pH F c1
  rcases Bool.eq_false_or_eq_true (decide (1<a)) with hA|hA<;>rcases Bool.eq_false_or_eq_true (decide ((b.toNat:Int)=48)) with hB|hB<;>rcases Bool.eq_false_or_eq_true (xR c1) with hl|hl<;>rcases Bool.eq_false_or_eq_true (decide ((c1.toNat:Int)=95)) with hU|hU<;>simp only[aT,hA,e1,e2,e3,e4,hi3,hl,hU,Bool.not_true,Bool.not_false,Bool.true_and,Bool.false_and,Bool.and_true,Bool.and_false,Bool.or_true,Bool.or_false,Bool.true_or,Bool.false_or,if_true,Bool.false_eq_true,if_false,Option.bind_some,hB,bA]<;>exact ar.some rfl
def Ey (b:UInt8):Bool:=decide (32<=b)&&decide (b<=126)
theorem yI (b:UInt8):(decide ((b.toNat:Int)<32)||decide (126<(b.toNat:Int))) = !Ey b:=by
 have h:∀ b:UInt8,decide ((decide ((b.toNat:Int)<32)||decide (126<(b.toNat:Int))) = !Ey b)=true:=jo (by decide +kernel)
 exact of_decide_eq_true (h b)
theorem du (b:UInt8) (r:Str):iF (b::r)=if b=34 then some ([],1) else if b=92 then (match r with|[]=>none|c::q=>if c=34∨c=92 then (iF q).map fun z=>(c::z.1,z.2+2) else none) else if Ey b=true then (iF r).map fun z=>(b::z.1,z.2+1) else none:=by
 cases r with
 | nil=>
  by_cases h1:b=34
  simp[iF,h1]
  by_cases h2:b=92
  simp[iF,h2]
  by_cases h3:Ey b=true<;>simp[iF,h1,h2,h3]
 | cons c q=>
  rw[iF]
  simp only[Ey,Bool.and_eq_true,decide_eq_true_eq]
theorem rU:∀ (r:Str) (z:Str×Nat),iF r=some z->1<=z.2/\z.2<=r.length/\z.1.length<z.2
 | [],z,h=>by cases h
 | [b],z,h=>by
  rw[iF] at h
  split at h
  cases h;simp
  cases h
 | b::c::q,z,h=>by
  rw[du] at h
  have h1:=rU q
  have h2:=rU (c::q)
  split at h
  cases h;simp
  split at h
  simp only at h
  split at h
  obtain⟨y,hy,rfl⟩:=Option.map_eq_some_iff.1 h
  have:=h1 y hy
  simp only[List.length_cons] at *
  omega
  cases h
  split at h
  obtain⟨y,hy,rfl⟩:=Option.map_eq_some_iff.1 h
  have:=h2 y hy
  simp only[List.length_cons] at *
  omega
  cases h
theorem wQ (t:Str):toStr (ofStr t)=t:=by
 unfold toStr ofStr
 rw[List.map_map]
 conv=>rhs;rw[← List.map_id t]
 congr 1
 funext c
 show UInt8.ofNat (c.toNat:Int).toNat=c
 simp
theorem text_no {F:Nat} {s:Str} {k:Nat} {b:UInt8} {q:Str} (hd:s.drop k=b::q) (hb:b≠34):cB F s (k:Int)=some (.inl (⟨0,0,[]⟩,false,s,(k:Int))):=by
 have hk:=cr hd
 unfold cB
 rw[mc F (by omega),Option.bind_some,hd]
 have h34:decide (pk (b::q)=34)=decide (b=34):=EJ (b::q)
 rw[if_pos]
 rw[decide_not,h34];simp[hb]
theorem text_ok {F:Nat} {s:Str} {k:Nat} {q:Str} (hd:s.drop k=34::q) (hF:s.length<F) (hs:s.length<=100000000):cB F s (k:Int)=some ((og (s.drop k)).res s k):=by
 have hk:=cr hd
 unfold cB
 rw[mc F (by omega),Option.bind_some,hd]
 rw[if_neg (by simp[pk]),wk k (by omega)]
 have hds:=iB hd
 refine ar.eq (ar.bind (kF (ι:=Nat×List Int) (fun j=>((⟨s,(j.1:Int)⟩:Scan),j.2)) (fun j=>s.length-j.1) (fun j=>j.1<=s.length/\j.2.length<=j.1)
  (fun j t=>match iF (s.drop j.1) with|none=>t=.inr (.inr (⟨(k:Int),280⟩:Problem))|some z=>∃ i:Nat,i+1=j.1+z.2/\t=.inl (⟨s,(i:Int)⟩,j.2++ofStr z.1)) ?_ F (k+1,[]) ⟨by simp only;omega,by simp⟩ (by simp only;omega)) fun t ht=>?_)
 rintro⟨j,out⟩ ⟨hj,ho⟩
 simp only at hj ho
 simp only[bQ]
 rw[mc F hj,Option.bind_some]
 cases hr:s.drop j with
 | nil=>
  rw[if_pos (by decide)]
  refine .inr ⟨_,?_,rfl⟩
  simp only[Option.bind_some,pk,bz,cW]
  rfl
 | cons b r=>
  have hlt:=cr hr
  have b4:=iB hr
  have h34:decide (pk (b::r)=34)=decide (b=34):=EJ (b::r)
  have h92:decide (pk (b::r)=92)=decide (b=92):=toNat_eq b 92 (by decide)
  by_cases hb:b=34
  subst hb
  rw[if_neg (by simp[pk])]
  refine .inr ⟨_,rfl,?_⟩
  rw[du,if_pos rfl]
  exact⟨j,rfl,by simp[ofStr]⟩
  rw[if_pos (by rw[decide_not,h34];simp[hb])]
  simp only[Option.bind_some]
  by_cases hc:b=92
  subst hc
  rw[if_pos (by simp[pk]),wk j (by omega),mc F (by omega),b4,Option.bind_some]
  cases hq:r with
  | nil=>
   refine .inr ⟨.inr (.inr (⟨(k:Int),280⟩:Problem)),?_,?_⟩
   rw[if_pos (by decide)]
   simp only[Option.bind_some,bz,cW]
   rw[du,if_neg (by decide),if_pos rfl]
  | cons c q1=>
   have b0:=b4
   rw[hq] at b0
   have hlt2:=cr b0
   have c34:decide (pk (c::q1)=34)=decide (c=34):=EJ (c::q1)
   have c92:decide (pk (c::q1)=92)=decide (c=92):=toNat_eq c 92 (by decide)
   by_cases b3:c=34∨c=92
   have b2:(decide ((pk (c::q1))<32)||decide (126<(pk (c::q1))))=false:=by
    rw[tu,yI]
    rcases b3 with rfl|rfl<;>rfl
   refine .inl ⟨(j+2,out++[(c.toNat:Int)]),?_,⟨by simp only;omega,by simp;omega⟩,by simp only;omega,?_⟩
   rw[if_neg]
   simp only[Option.bind_some,cW,bQ,b2]
   rw[if_neg (by decide)]
   simp only[Option.bind_some]
   rw[ff (by simp only[List.length_cons,List.length_nil];omega)]
   simp only[Option.bind_some,tu,cW,bQ]
   rw[wk (j+1) (by omega)]
   rw[decide_not,decide_not,c34,c92]
   rcases b3 with rfl|rfl<;>decide
   intro t ht
   simp only at ht ⊢
   rw[show j+2=j+1+1 from rfl,iB b0] at ht
   rw[du,if_neg (by decide),if_pos rfl]
   simp only[if_pos b3]
   cases hg:iF q1 with
   | none=>rw[hg] at ht;exact ht
   | some z=>
    rw[hg] at ht
    obtain⟨i,hi,ht⟩:=ht
    exact⟨i,by simp only;omega,by rw[ht];simp[ofStr]⟩
   refine .inr ⟨.inr (.inr (⟨(k:Int),280⟩:Problem)),?_,?_⟩
   rw[if_pos]
   simp only[Option.bind_some,bz,cW]
   rw[decide_not,decide_not,c34,c92]
   simpa using b3
   rw[du,if_neg (by decide),if_pos rfl]
   simp only[if_neg b3]
  rw[if_neg (by rw[h92];simpa using hc)]
  simp only[Option.bind_some,cW,bQ]
  by_cases b2:Ey b=true
  have b1:(decide ((pk (b::r))<32)||decide (126<(pk (b::r))))=false:=by
   rw[tu,yI,b2];rfl
  refine .inl ⟨(j+1,out++[(b.toNat:Int)]),?_,⟨by simp only;omega,by simp;omega⟩,by simp only;omega,?_⟩
  rw[b1,if_neg (by decide)]
  simp only[Option.bind_some]
  rw[ff (by simp only[List.length_cons,List.length_nil];omega)]
  simp only[Option.bind_some,tu,cW,bQ]
  rw[wk j (by omega)]
  intro t ht
  simp only at ht ⊢
  rw[b4] at ht
  rw[du,if_neg hb,if_neg hc,if_pos b2]
  cases hg:iF r with
  | none=>rw[hg] at ht;exact ht
  | some z=>
   rw[hg] at ht
   obtain⟨i,hi,ht⟩:=ht
   exact⟨i,by simp only;omega,by rw[ht];simp[ofStr]⟩
  have b1:(decide ((pk (b::r))<32)||decide (126<(pk (b::r))))=true:=by
   rw[tu,yI];simpa using b2
  refine .inr ⟨.inr (.inr (⟨(k:Int),280⟩:Problem)),?_,?_⟩
  rw[b1,if_pos rfl]
  simp only[Option.bind_some,bz,cW]
  rw[du,if_neg hb,if_neg hc,if_neg b2]
 simp only at ht
 rw[hds] at ht
 unfold og
 simp only[List.drop_succ_cons,List.drop_zero]
 cases hg:iF q with
 | none=>
  rw[hg] at ht
  subst ht
  exact ar.some rfl
 | some z=>
  rw[hg] at ht
  obtain⟨i,hi,rfl⟩:=ht
  have hp:=rU q z hg
  have hql:q.length+(k+1)=s.length:=by
   have:=congrArg List.length hds
   rw[List.length_drop] at this;omega
  have e0:(([]:List Int)++ofStr z.1)=ofStr z.1:=rfl
  have e1:(ofStr z.1).length=z.1.length:=by simp[ofStr]
  simp only[cW,bQ]
  rw[e0,e1]
  by_cases h80:80<z.1.length
  rw[if_pos h80,if_pos (decide_eq_true (by omega))]
  exact ar.some rfl
  rw[if_neg h80,if_neg (by simp;omega)]
  simp only[Option.bind_some]
  rw[wQ,wk i (by omega)]
  refine ar.some ?_
  show _=Sum.inl _
  rw[show i+1=k+(z.2+1) by omega]
theorem x8 (b:UInt8):toStr [(b.toNat:Int)]=[b]:=by
 have:=wQ [b]
 exact this
theorem Gc {F:Nat} {s:Str} {k:Nat} {q:Str} (hd:s.drop k=34::q) (hF:s.length<F) (hs:s.length<=100000000):eY F s (k:Int)=some ((og (s.drop k)).ref k):=by
 have hk:=cr hd
 unfold eY
 rw[wk k (by omega)]
 have hds:=iB hd
 refine ar.eq (ar.bind (kF (ι:=Nat×Str) (fun j=>(j.2,(j.1:Int))) (fun j=>s.length-j.1) (fun j=>j.1<=s.length/\j.2.length<=j.1)
  (fun j t=>cW (fun _=>some (⟨(⟨0,0,[]⟩:Token),0,280⟩:qk)) (fun y=>some y) t=some (match iF (s.drop j.1) with|none=>(⟨(⟨0,0,[]⟩:Token),0,280⟩:qk)|some z=>if 80<(j.2++z.1).length then (⟨(⟨0,0,[]⟩:Token),0,2⟩:qk) else ⟨⟨4,(k:Int),j.2++z.1⟩,((j.1+z.2:Nat):Int),0⟩)) ?_ F (k+1,[]) ⟨by simp only;omega,by simp⟩ (by simp only;omega)) fun t ht=>?_)
 rintro⟨j,out⟩ ⟨hj,ho⟩
 simp only at hj ho
 simp only[bQ]
 cases hr:s.drop j with
 | nil=>
  have c0:=drop_nil hr hj
  rw[if_neg (by simp;omega)]
  exact .inr ⟨_,rfl,rfl⟩
 | cons b r=>
  have hlt:=cr hr
  have c1:=iB hr
  have hi:=dk hr
  have h34:decide ((b.toNat:Int)=34)=decide (b=34):=toNat_eq b 34 (by decide)
  have h92:decide ((b.toNat:Int)=92)=decide (b=92):=toNat_eq b 92 (by decide)
  rw[if_pos (decide_eq_true (by omega)),hi,Option.bind_some]
  by_cases hb:b=34
  subst hb
  rw[if_pos (by decide)]
  rw[du,if_pos rfl]
  simp only[List.append_nil]
  by_cases b1:80<out.length
  rw[if_pos (decide_eq_true (by omega)),if_pos b1]
  exact .inr ⟨.inr (⟨(⟨0,0,[]⟩:Token),0,2⟩:qk),rfl,rfl⟩
  rw[if_neg (by simp;omega),if_neg b1,wk j (by omega)]
  exact .inr ⟨.inr (⟨⟨4,(k:Int),out⟩,((j+1:Nat):Int),0⟩:qk),rfl,rfl⟩
  rw[if_neg (by rw[h34];simp[hb])]
  simp only[bA,yI]
  by_cases b3:Ey b=true
  rw[b3,if_neg (by simp)]
  by_cases hc:b=92
  subst hc
  rw[if_pos (by decide),wk j (by omega)]
  cases hq:r with
  | nil=>
   have c0:j+1=s.length:=drop_nil (by rw[c1,hq]) (by omega)
   have e0:decide ((s.length:Int)<=((j+1:Nat):Int))=true:=decide_eq_true (by omega)
   refine .inr ⟨.inr (⟨(⟨0,0,[]⟩:Token),0,280⟩:qk),?_,?_⟩
   simp only[e0,Bool.not_true,Bool.false_and,aT,Bool.false_eq_true,if_false,Option.bind_some,Bool.true_or,if_true,cW]
   rw[du,if_neg (by decide),if_pos rfl]
  | cons c q1=>
   have b0:=c1
   rw[hq] at b0
   have hlt2:=cr b0
   have hi2:=dk b0
   have e0:decide ((s.length:Int)<=((j+1:Nat):Int))=false:=decide_eq_false (by omega)
   have c34:decide ((c.toNat:Int)≠34) = !decide (c=34):=by rw[decide_not];congr 1;exact toNat_eq c 34 (by decide)
   have c92:decide ((c.toNat:Int)≠92) = !decide (c=92):=by rw[decide_not];congr 1;exact toNat_eq c 92 (by decide)
   by_cases b2:c=34∨c=92
   refine .inl ⟨(j+2,out++[c]),?_,⟨by simp only;omega,by simp;omega⟩,by simp only;omega,?_⟩
   have e5:(Option.bind (aT (!decide ((s.length:Int)<=((j+1:Nat):Int))) (aS s ((j+1:Nat):Int))) fun b4=>Option.bind (aT (!decide ((s.length:Int)<=((j+1:Nat):Int))&&decide ((b4.toNat:Int)≠34)) (aS s ((j+1:Nat):Int))) fun c2=>if (decide ((s.length:Int)<=((j+1:Nat):Int))||(decide ((b4.toNat:Int)≠34)&&decide ((c2.toNat:Int)≠92)))=true then (some (.inr (⟨(⟨0,0,[]⟩:Token),0,280⟩:qk)):Option ((Int×Int)⊕qk)) else Option.bind (aS s ((j+1:Nat):Int)) fun c3=>some (.inl (((j+1:Nat):Int),(c3.toNat:Int))))=some (.inl (((j+1:Nat):Int),(c.toNat:Int))):=by
    rw[hi2,e0]
    rcases b2 with rfl|rfl<;>rfl
   rw[e5]
   simp only[Option.bind_some,cW,bQ]
   rw[x8,ff (by simp only[List.length_cons,List.length_nil];omega)]
   simp only[Option.bind_some,cW,bQ]
   rw[wk (j+1) (by omega)]
   intro t ht
   simp only at ht ⊢
   rw[show j+2=j+1+1 from rfl,iB b0] at ht
   rw[du,if_neg (by decide),if_pos rfl]
   simp only[if_pos b2]
   rw[ht]
   cases hg:iF q1 with
   | none=>rfl
   | some z=>
    simp only[Option.map_some,List.append_assoc,List.singleton_append]
    rw[show j+1+1+z.2=j+(z.2+2) by omega]
   have b5:decide ((c.toNat:Int)≠34)=true/\decide ((c.toNat:Int)≠92)=true:=by
    rw[c34,c92]
    simp only[not_or] at b2
    simp[b2.1,b2.2]
   refine .inr ⟨.inr (⟨(⟨0,0,[]⟩:Token),0,280⟩:qk),?_,?_⟩
   simp only[hi2,e0,b5.1,b5.2,Bool.not_false,Bool.true_and,Bool.and_self,aT,if_true,Option.bind_some,Bool.or_true,cW]
   rw[du,if_neg (by decide),if_pos rfl]
   simp only[if_neg b2]
  rw[if_neg (by rw[h92];simpa using hc)]
  refine .inl ⟨(j+1,out++[b]),?_,⟨by simp only;omega,by simp;omega⟩,by simp only;omega,?_⟩
  simp only[Option.bind_some,cW,bQ]
  rw[x8,ff (by simp only[List.length_cons,List.length_nil];omega)]
  simp only[Option.bind_some,cW,bQ]
  rw[wk j (by omega)]
  intro t ht
  simp only at ht ⊢
  rw[c1] at ht
  rw[du,if_neg hb,if_neg hc,if_pos b3,ht]
  cases hg:iF r with
  | none=>rfl
  | some z=>
   simp only[Option.map_some,List.append_assoc,List.singleton_append]
   rw[show j+1+z.2=j+(z.2+1) by omega]
  have c4:(!Ey b)=true:=by simpa using b3
  rw[c4,if_pos rfl]
  refine .inr ⟨.inr (⟨(⟨0,0,[]⟩:Token),0,280⟩:qk),rfl,?_⟩
  have hc:b≠92:=by rintro rfl;exact b3 rfl
  rw[du,if_neg hb,if_neg hc,if_neg b3]
 refine⟨_,ht,?_⟩
 simp only
 rw[hds,hd]
 unfold og
 simp only[List.drop_succ_cons,List.drop_zero,List.nil_append]
 cases hg:iF q with
 | none=>rfl
 | some z=>
  simp only
  by_cases b1:80<z.1.length
  rw[if_pos b1,if_pos b1];rfl
  rw[if_neg b1,if_neg b1]
  show _=qk.mk _ _ _
  rw[show k+1+z.2=k+(z.2+1) by omega]
theorem yu {l:List Str} {c:Str->Bool} {υ:Type} {Q:Unit⊕υ->Prop} {F:Nat} {A:Int->Option (Int⊕(Unit⊕υ))} (hF:l.length<F) (hL:l.length<=100000000)
 (h1:l.find? c=none->Q (.inl ())) (h0:∀ (i:Int) x,aS l i=some x->c x=false->A i=some (.inl (i64.wrap (i+1))))
 (h2:∀ (i:Int) x,aS l i=some x->0<=i->c x=true->l.find? c=some x->ar (A i) fun o=>∃ t,o=.inr t/\Q t) :
 ar (iter F (fun i=>if decide (i<(l.length:Int))=true then A i else some (.inr (.inl ()))) 0) Q:=by
 refine ar.ea1 (fun pre=>pre.find? c=none) hF (by omega) rfl (fun pre x post e hx hI=>?_) (fun h=>h1 h)
 by_cases hc:c x=true
 refine (h2 _ x hx (by omega) hc ?_).mono fun o ho=>.inr ho
 rw[e,List.find?_append,hI,List.find?_cons,hc];rfl
 have hc':c x=false:=by simpa using hc
 rw[h0 _ x hx hc']
 refine ar.some (.inl ⟨rfl,?_⟩)
 rw[List.find?_append,hI,List.find?_cons,hc'];rfl
theorem sign_ok {F:Nat} {s:Str} {k:Nat} (hk:k<=s.length) (hF:100<F) (hs:s.length<=100000000):dx F s (k:Int)=some (match mE (s.drop k) with|.bad e=>.inr ⟨(k:Int),e⟩|.rq kd t n=>.inl (⟨kd,(k:Int),t⟩,true,((k+n:Nat):Int))):=by
 unfold dx ig
 have hl:dr.length=25:=rfl
 have hs2:∀ g∈dr,g.length<=2:=by decide
 refine ar.eq (ar.bind (P:=fun i:Int=>(dr.find? (fun g=>g.isPrefixOf (s.drop k))=none/\i = -1)∨∃ g,dr.find? (fun g=>g.isPrefixOf (s.drop k))=some g/\0<=i/\aS dr i=some g) (ar.bind (yu (c:=fun g=>g.isPrefixOf (s.drop k)) (Q:=fun t=>(dr.find? (fun g=>g.isPrefixOf (s.drop k))=none/\t=.inl ())∨∃ g i,dr.find? (fun g=>g.isPrefixOf (s.drop k))=some g/\0<=i/\aS dr i=some g/\t=.inr i) (by omega) (by omega) (fun h=>.inl ⟨h,rfl⟩) (fun i x hx hc=>?_) (fun i x hx h0 hc hf=>?_)) (fun t ht=>?_)) (fun i hi=>?_))
 rw[hx,Option.bind_some]
 unfold eg gG qt
 rw[if_pos ⟨by omega,by omega⟩]
 simp only[Option.bind_some,Int.toNat_natCast,Lib.hasPrefix,hc,Bool.false_eq_true,if_false]
 rw[hx,Option.bind_some]
 unfold eg gG qt
 rw[if_pos ⟨by omega,by omega⟩]
 simp only[Option.bind_some,Int.toNat_natCast,Lib.hasPrefix,hc,if_true]
 exact ar.some ⟨_,rfl,.inr ⟨x,i,hf,h0,hx,rfl⟩⟩
 rcases ht with ⟨h,rfl⟩|⟨g,i,h,h0,hi,rfl⟩
 exact ar.some (.inl ⟨h,rfl⟩)
 exact ar.some (.inr ⟨g,h,h0,hi⟩)
 unfold mE
 rcases hi with ⟨h,rfl⟩|⟨g,h,h0,hi⟩
 rw[h,if_pos (by decide)]
 exact ar.some rfl
 rw[h,if_neg (by simp;omega)]
 simp only[Option.bind_some,cW,hi]
 have hg:=hs2 g (List.mem_of_find?_eq_some h)
 rw[show (k:Int)+(g.length:Int)=((k+g.length:Nat):Int) by omega,wr (by omega) (by omega)]
 exact ar.some rfl
theorem tN {g r:Str}:g.isPrefixOf r=true↔g.length<=r.length/\r.take g.length=g:=by
 rw[List.isPrefixOf_iff_prefix]
 constructor
 rintro⟨t,rfl⟩
 exact⟨by simp,by simp⟩
 rintro⟨h1,h2⟩
 exact⟨r.drop g.length,by conv=>lhs;lhs;rw[← h2]
                          exact List.take_append_drop _ _⟩
theorem Gd {F:Nat} {s:Str} {k:Nat} (hk:k<=s.length) (hF:100<F) (hs:s.length<=100000000):eZ F s (k:Int)=some ((mE (s.drop k)).ref k):=by
 unfold eZ
 have hl:dr.length=25:=rfl
 have hs2:∀ g∈dr,g.length<=2:=by decide
 rw[show fV F=some dr from rfl,Option.bind_some]
 have hm:∀ (i:Int) x,aS dr i=some x->x∈dr:=fun i x hx=>List.mem_of_getElem? (cF hx)
 have hw:∀ x:Str,x.length<=2->i64.wrap ((k:Int)+(x.length:Int))=((k+x.length:Nat):Int):=fun x h=>by
  rw[show (k:Int)+(x.length:Int)=((k+x.length:Nat):Int) by omega,wr (by omega) (by omega)]
 refine ar.eq (ar.bind (yu (l:=dr) (c:=fun g=>g.isPrefixOf (s.drop k)) (Q:=fun t=>(dr.find? (fun g=>g.isPrefixOf (s.drop k))=none/\t=.inl ())∨∃ g,dr.find? (fun g=>g.isPrefixOf (s.drop k))=some g/\t=.inr (⟨⟨5,(k:Int),g⟩,((k+g.length:Nat):Int),0⟩:qk)) (by omega) (by omega) (fun h=>.inl ⟨h,rfl⟩) (fun i x hx hc=>?_) (fun i x hx h0 hc hf=>?_)) (fun t ht=>?_))
 have b0:=hs2 x (hm i x hx)
 rw[hx,Option.bind_some,hw x b0]
 by_cases hlen:k+x.length<=s.length
 have e0:decide (((k+x.length:Nat):Int)<=(s.length:Int))=true:=decide_eq_true (by omega)
 have e1:decide ((s.drop k).take x.length=x)=false:=by
  simp only[decide_eq_false_iff_not]
  intro h
  have:x.isPrefixOf (s.drop k)=true:=tN.2 ⟨by rw[List.length_drop];omega,h⟩
  rw[hc] at this;cases this
 simp only[e0,aT,if_true,sK hlen,Option.bind_some,e1,Bool.and_false,Bool.false_eq_true,if_false]
 have e0:decide (((k+x.length:Nat):Int)<=(s.length:Int))=false:=decide_eq_false (by omega)
 simp only[e0,aT,Option.bind_some,Bool.false_and,Bool.false_eq_true,if_false]
 have b0:=hs2 x (hm i x hx)
 rw[hx,Option.bind_some,hw x b0]
 obtain⟨h1,h2⟩:=tN.1 hc
 rw[List.length_drop] at h1
 have hlen:k+x.length<=s.length:=by omega
 have e0:decide (((k+x.length:Nat):Int)<=(s.length:Int))=true:=decide_eq_true (by omega)
 simp only[e0,aT,if_true,sK hlen,Option.bind_some,h2,decide_true,Bool.and_self,bA]
 exact ar.some ⟨_,rfl,.inr ⟨x,hf,rfl⟩⟩
 unfold mE
 rcases ht with ⟨h,rfl⟩|⟨g,h,rfl⟩
 rw[h];exact ar.some rfl
 rw[h];exact ar.some rfl
theorem D5 {F:Nat} {s:Str} {k:Nat} (hk:k<s.length) (hF:s.length<F) (hF2:100<F) (hs:s.length<=100000000):eC F s (k:Int)=some ((tok (s.drop k)).ref k):=by
 unfold eC
 cases hd:s.drop k with
 | nil=>have:=drop_nil hd (by omega);omega
 | cons b q=>
  have h34:decide ((b.toNat:Int)=34)=decide (b=34):=toNat_eq b 34 (by decide)
  unfold tok
  simp only[dk hd,Option.bind_some,pH,kX]
  by_cases hl:xR b=true
  rw[if_pos hl,if_pos hl,Gg (by omega) hF hF2 hs,hd];rfl
  rw[if_neg hl,if_neg hl]
  by_cases hg:ew b=true
  rw[if_pos hg,if_pos hg,B5 hd hg hF hs,hd];rfl
  rw[if_neg hg,if_neg hg]
  by_cases hb:b=34
  subst hb
  rw[if_pos (by decide),if_pos rfl,Gc hd hF hs,hd];rfl
  rw[if_neg (by rw[h34];simpa using hb),if_neg hb,Gd (by omega) hF2 hs,hd];rfl
inductive Lx:Nat->Str->List Token⊕Problem->Prop
 | done {k:Nat} {r:Str} (h:sk false r=[]):Lx k r (.inl [])
 | bad {k j:Nat} {r q:Str} {b:UInt8} {e:Int} (h:sk false r=b::q) (hj:k+r.length=j+(q.length+1)) (ht:tok (b::q)=.bad e):Lx k r (.inr ⟨(j:Int),e⟩)
 | err {k j:Nat} {r q:Str} {b:UInt8} {kd:Int} {t:Str} {m:Nat} {p:Problem} (h:sk false r=b::q) (hj:k+r.length=j+(q.length+1)) (ht:tok (b::q)=.rq kd t m) (hl:Lx (j+m) ((b::q).drop m) (.inr p)):Lx k r (.inr p)
 | one {k j:Nat} {r q:Str} {b:UInt8} {kd:Int} {t:Str} {m:Nat} {l:List Token} (h:sk false r=b::q) (hj:k+r.length=j+(q.length+1)) (ht:tok (b::q)=.rq kd t m) (hl:Lx (j+m) ((b::q).drop m) (.inl l)):Lx k r (.inl (⟨kd,(j:Int),t⟩::l))
theorem qH {r:Str} {kd:Int} {t:Str} {m:Nat} (h:mE r=.rq kd t m):t∈dr/\m=t.length/\kd=5/\t.isPrefixOf r=true:=by
 unfold mE at h
 cases hf:dr.find? (fun g=>g.isPrefixOf r) with
 | none=>rw[hf] at h;cases h
 | some g=>
  rw[hf] at h
  cases h
  exact⟨List.mem_of_find?_eq_some hf,rfl,rfl,by simpa using List.find?_some hf⟩
theorem Gu {b:UInt8} {q:Str} (h:ew b=true):1<=(lU (b::q)).1:=by
 have h0:1<=((b::q).takeWhile ew).length:=by rw[List.takeWhile_cons_of_pos h];simp
 unfold lU
 split
 split<;>simp only<;>omega
 exact h0
theorem pq {b:UInt8} {q:Str} {kd:Int} {t:Str} {m:Nat} (h:tok (b::q)=.rq kd t m):1<=m/\m<=q.length+1:=by
 unfold tok at h
 simp only at h
 split at h
 next hb=>
  unfold lI at h
  split at h
  cases h
  cases h
  have hn:ur b=true:=by unfold ur;rw[hb];rfl
  have:=Cu ur (b::q)
  rw[List.takeWhile_cons_of_pos hn] at this ⊢
  simp only[List.length_cons] at *
  omega
 split at h
 next hb=>
  unfold sE at h
  split at h
  cases h
  split at h
  cases h
  cases h
  have h1:=Gu (q:=q) hb
  have h2:=y4 (b::q)
  simp only[List.length_cons] at h2
  omega
 split at h
 unfold og at h
 simp only[List.drop_succ_cons,List.drop_zero] at h
 cases hg:iF q with
 | none=>rw[hg] at h;cases h
 | some z=>
  rw[hg] at h
  simp only at h
  split at h
  cases h
  cases h
  have:=rU q z hg
  omega
 obtain⟨h1,h2,h3,h4⟩:=qH h
 have hs:∀ g∈dr,1<=g.length:=by decide
 have:=hs t h1
 have:=(tN.1 h4).1
 simp only[List.length_cons] at this
 omega
theorem tok_bad {r:Str} {e:Int} (h:tok r=.bad e):e=2∨e=280∨e=281:=by
 unfold tok at h
 split at h
 cases h;simp
 split at h
 unfold lI at h
 split at h
 cases h;simp
 cases h
 split at h
 unfold sE at h
 split at h
 cases h;simp
 split at h
 cases h;simp
 cases h
 split at h
 unfold og at h
 split at h
 cases h;simp
 split at h
 cases h;simp
 cases h
 unfold mE at h
 split at h
 cases h;simp
 cases h
theorem Lx.total:∀ (n k:Nat) (r:Str),r.length<=n->∃ res,Lx k r res:=by
 intro n
 induction n with
 | zero=>
  intro k r h
  have:r=[]:=List.eq_nil_of_length_eq_zero (by omega)
  subst this
  exact⟨_,.done rfl⟩
 | succ n ih=>
  intro k r h
  have hl:=o5 r false
  cases hs:sk false r with
  | nil=>exact⟨_,.done hs⟩
  | cons b q=>
   rw[hs] at hl
   simp only[List.length_cons] at hl
   have hj:k+r.length=(k+r.length-(q.length+1))+(q.length+1):=by omega
   cases ht:tok (b::q) with
   | bad e=>exact⟨_,.bad hs hj ht⟩
   | rq kd t m=>
    have hp:=pq ht
    obtain⟨res,hr⟩:=ih ((k+r.length-(q.length+1))+m) ((b::q).drop m) (by rw[List.length_drop,List.length_cons];omega)
    cases res with
    | inl l=>exact⟨_,.one hs hj ht hr⟩
    | inr p=>exact⟨_,.err hs hj ht hr⟩
theorem Lx.det {k:Nat} {r:Str} {a b:List Token⊕Problem} (h:Lx k r a):Lx k r b->a=b:=by
 induction h generalizing b with
 | done h=>
  intro h'
  cases h' with
  | done h2=>rfl
  | bad h2=>rw[h] at h2;cases h2
  | err h2=>rw[h] at h2;cases h2
  | one h2=>rw[h] at h2;cases h2
 | @bad k j r q b e h hj ht=>
  intro h'
  cases h' with
  | done h2=>rw[h] at h2;cases h2
  | @bad _ j2 _ q2 b2 e2 h2 b1 b0=>
   rw[h] at h2;cases h2
   rw[ht] at b0;cases b0
   rw[show j=j2 by omega]
  | err h2 b1 b0=>
   rw[h] at h2;cases h2
   rw[ht] at b0;cases b0
  | one h2 b1 b0=>
   rw[h] at h2;cases h2
   rw[ht] at b0;cases b0
 | @err k j r q b kd t m p h hj ht hl ih=>
  intro h'
  cases h' with
  | done h2=>rw[h] at h2;cases h2
  | bad h2 b1 b0=>
   rw[h] at h2;cases h2
   rw[ht] at b0;cases b0
  | @err _ j2 _ q2 b2 b4 t2 m2 p2 h2 b1 b0 b3=>
   rw[h] at h2;cases h2
   rw[ht] at b0;cases b0
   have e:j=j2:=by omega
   subst e
   exact ih b3
  | @one _ j2 _ q2 b2 b4 t2 m2 l2 h2 b1 b0 b3=>
   rw[h] at h2;cases h2
   rw[ht] at b0;cases b0
   have e:j=j2:=by omega
   subst e
   cases ih b3
 | @one k j r q b kd t m l h hj ht hl ih=>
  intro h'
  cases h' with
  | done h2=>rw[h] at h2;cases h2
  | bad h2 b1 b0=>
   rw[h] at h2;cases h2
   rw[ht] at b0;cases b0
  | @err _ j2 _ q2 b2 b4 t2 m2 p2 h2 b1 b0 b3=>
   rw[h] at h2;cases h2
   rw[ht] at b0;cases b0
   have e:j=j2:=by omega
   subst e
   cases ih b3
  | @one _ j2 _ q2 b2 b4 t2 m2 l2 h2 b1 b0 b3=>
   rw[h] at h2;cases h2
   rw[ht] at b0;cases b0
   have e:j=j2:=by omega
   subst e
   have:=ih b3
   injection this with this
   rw[this]
theorem yj {σ τ:Type} {s:Str} {body:σ->Option (σ⊕τ)} (st:List Token->Nat->σ) (fin:List Token->τ) (fail:Problem->τ)
 (h0:∀ out,body (st out s.length)=some (.inr (fin out)))
 (h1:∀ out k b q,s.drop k=b::q->out.length<=k->ar (body (st out k)) fun o=>match tok (b::q) with|.bad e=>o=.inr (fail ⟨(k:Int),e⟩)|.rq kd t m=>o=.inl (st (out++[⟨kd,(k:Int),t⟩]) (sp s (k+m))))
 {k:Nat} {r:Str} {res:List Token⊕Problem} (h:Lx k r res):∀ (out:List Token) (G:Nat),s.drop k=r->k<=s.length->out.length<=k->s.length-k<G ->
 iter G body (st out (sp s k))=some (match res with|.inl l=>fin (out++l)|.inr p=>fail p):=by
 induction h with
 | @done k r h=>
  intro out G hr hk ho hG
  obtain⟨G,rfl⟩:∃ g,G=g+1:=⟨G-1,by omega⟩
  have:sp s k=s.length:=by unfold sp;rw[hr,h];simp
  rw[this,eE,h0]
  simp[cW]
 | @bad k j r q b e h hj ht=>
  intro out G hr hk ho hG
  obtain⟨G,rfl⟩:∃ g,G=g+1:=⟨G-1,by omega⟩
  have hl:r.length=s.length-k:=by rw[← hr,List.length_drop]
  have e1:sp s k=j:=by unfold sp;rw[hr,h];simp only[List.length_cons];omega
  have e2:=yT hk
  rw[e1,hr,h] at e2
  have b0:=EH hk
  rw[e1] at b0
  obtain⟨o,b1,hq⟩:=h1 out j b q e2 (by omega)
  rw[ht] at hq
  rw[e1,eE,b1,hq]
  rfl
 | @err k j r q b kd t m p h hj ht hl ih=>
  intro out G hr hk ho hG
  obtain⟨G,rfl⟩:∃ g,G=g+1:=⟨G-1,by omega⟩
  have hl:r.length=s.length-k:=by rw[← hr,List.length_drop]
  have e1:sp s k=j:=by unfold sp;rw[hr,h];simp only[List.length_cons];omega
  have e2:=yT hk
  rw[e1,hr,h] at e2
  have b0:=EH hk
  rw[e1] at b0
  obtain⟨o,b1,hq⟩:=h1 out j b q e2 (by omega)
  rw[ht] at hq
  have hp:=pq ht
  rw[e1,eE,b1,hq]
  exact ih _ _ (by rw[← List.drop_drop,e2]) (by omega) (by simp;omega) (by omega)
 | @one k j r q b kd t m l h hj ht hl ih=>
  intro out G hr hk ho hG
  obtain⟨G,rfl⟩:∃ g,G=g+1:=⟨G-1,by omega⟩
  have hl:r.length=s.length-k:=by rw[← hr,List.length_drop]
  have e1:sp s k=j:=by unfold sp;rw[hr,h];simp only[List.length_cons];omega
  have e2:=yT hk
  rw[e1,hr,h] at e2
  have b0:=EH hk
  rw[e1] at b0
  obtain⟨o,b1,hq⟩:=h1 out j b q e2 (by omega)
  rw[ht] at hq
  have hp:=pq ht
  rw[e1,eE,b1,hq]
  have:=ih (out++[⟨kd,(j:Int),t⟩]) G (by rw[← List.drop_drop,e2]) (by omega) (by simp;omega) (by omega)
  simp only[cW,Option.bind_some]
  rw[this]
  simp
theorem k7 {σ τ:Type} {body:σ->Option (σ⊕τ)} {F:Nat} {s:σ} (h:0<F):iter F body s=(body s).bind (cW (iter (F-1) body) some):=by
 obtain⟨G,rfl⟩:∃ g,F=g+1:=⟨F-1,by omega⟩
 rfl
def outP:List Token⊕Problem->List Token×Problem
 | .inl l=>(l,⟨0,0⟩)
 | .inr p=>([],p)
def outR:List Token⊕Problem->ti
 | .inl l=>⟨l,⟨0,0⟩⟩
 | .inr p=>⟨[],p⟩
theorem DU {F:Nat} {s:Str} {res:List Token⊕Problem} (hs:s.length<=100000) (hF:s.length+1000<F) (h:Lx 0 s res):cI F s=some (outP res):=by
 unfold cI
 rw[if_neg (by simp;omega)]
 have hsk:=CN (F:=F) (s:=s) (k:=0) (by omega) (by omega) (by omega)
 rw[show (((0:Nat):Int))=0 from rfl] at hsk
 rw[hsk]
 simp only[Option.bind_some,bQ]
 rw[yj (s:=s) (fun out k=>(out,(⟨s,(k:Int)⟩:Scan))) (fun l=>.inl l) (fun p=>.inr ([],p)) ?_ ?_ h [] F rfl (by omega) (by simp) (by omega)]
 cases res<;>rfl
 intro out
 simp only[bQ]
 rw[if_neg (by simp)]
 intro out k b q hd ho
 have hk:=cr hd
 simp only[bQ]
 rw[if_pos (decide_eq_true (by omega))]
 refine ar.bind (P:=fun o=>match tok (b::q) with|.bad e=>o=.inr ([],⟨(k:Int),e⟩)|.rq kd t m=>o=.inl (out++[⟨kd,(k:Int),t⟩],⟨s,((k+m:Nat):Int)⟩)) (ar.bind (P:=fun o=>match tok (b::q) with|.bad e=>o=.inr ([],⟨(k:Int),e⟩)|.rq kd t m=>o=.inl (out++[⟨kd,(k:Int),t⟩],⟨s,((k+m:Nat):Int)⟩)) ?_ ?_) ?_
 have b0:∀ x:Token,gU out [x]=some (out++[x]):=fun x=>ff (by simp only[List.length_cons,List.length_nil];omega)
 rw[k7 (by omega)]
 try simp only[bQ]
 rw[if_pos (by simp),if_pos (by simp)]
 by_cases hl:xR b=true
 have e:tok (b::q)=lI (b::q):=by simp only[tok,if_pos hl]
 rw[e,name_ok hd hl (by omega) (by omega) (by omega),hd,Option.bind_some]
 cases lI (b::q) with
 | bad e=>exact ar.some rfl
 | rq kd t m=>
  simp only[Tk.res,vH,Ba,if_true,b0,Option.bind_some]
  exact ar.some rfl
 have hl':xR b=false:=by simpa using hl
 rw[name_no hd hl']
 simp only[Option.bind_some,vH,Ba,Bool.false_eq_true,if_false,cW]
 rw[show i64.wrap (0+1)=1 from rfl,k7 (by omega)]
 try simp only[bQ]
 rw[if_pos (by simp),if_neg (by simp),if_pos (by simp)]
 by_cases hg:ew b=true
 have e:tok (b::q)=sE (b::q):=by simp only[tok,if_neg hl,if_pos hg]
 rw[e,Ed hd hg (by omega) (by omega),hd,Option.bind_some]
 cases sE (b::q) with
 | bad e=>exact ar.some rfl
 | rq kd t m=>
  simp only[Tk.res,vH,Ba,if_true,b0,Option.bind_some]
  exact ar.some rfl
 have hg':ew b=false:=by simpa using hg
 rw[Ee hd hg' (by omega) (by omega)]
 simp only[Option.bind_some,vH,Ba,Bool.false_eq_true,if_false,cW]
 rw[show i64.wrap (1+1)=2 from rfl,k7 (by omega)]
 try simp only[bQ]
 rw[if_pos (by simp),if_neg (by simp),if_neg (by simp),if_pos (by simp)]
 by_cases hb:b=34
 subst hb
 have e:tok (34::q)=og (34::q):=by simp only[tok,if_neg hl,if_neg hg,if_true]
 rw[e,text_ok hd (by omega) (by omega),hd,Option.bind_some]
 cases og (34::q) with
 | bad e=>exact ar.some rfl
 | rq kd t m=>
  simp only[Tk.res,vH,Ba,if_true,b0,Option.bind_some]
  exact ar.some rfl
 rw[text_no hd hb]
 simp only[Option.bind_some,vH,Ba,Bool.false_eq_true,if_false,cW]
 rw[show i64.wrap (2+1)=3 from rfl,k7 (by omega)]
 try simp only[bQ]
 rw[if_pos (by simp),if_neg (by simp),if_neg (by simp),if_neg (by simp),if_pos (by simp)]
 have e:tok (b::q)=mE (b::q):=by simp only[tok,if_neg hl,if_neg hg,if_neg hb]
 rw[e,sign_ok (by omega) (by omega) (by omega),hd,Option.bind_some]
 cases mE (b::q) with
 | bad e=>exact ar.some rfl
 | rq kd t m=>
  simp only[vH,iJ,if_true,b0,Option.bind_some]
  exact ar.some rfl
 intro o b1
 cases ht:tok (b::q) with
 | bad e=>rw[ht] at b1;subst b1;exact ar.some rfl
 | rq kd t m=>rw[ht] at b1;subst b1;exact ar.some rfl
 intro o b1
 cases ht:tok (b::q) with
 | bad e=>rw[ht] at b1;subst b1;exact ar.some rfl
 | rq kd t m=>
  rw[ht] at b1
  subst b1
  have hp:=pq ht
  have hlen:q.length+1=s.length-k:=by
   have:=congrArg List.length hd
   rw[List.length_drop,List.length_cons] at this;omega
  simp only[cW,bQ]
  rw[CN (by omega) (by omega) (by omega),Option.bind_some]
  exact ar.some rfl
theorem B2 {F:Nat} {s:Str} {res:List Token⊕Problem} (hs:s.length<=100000) (hF:s.length+1000<F) (h:Lx 0 s res):ef F s=some (outR res):=by
 unfold ef
 rw[if_neg (by simp;omega)]
 have hsk:=zW (F:=F) (s:=s) (k:=0) (by omega) (by omega) (by omega)
 rw[show (((0:Nat):Int))=0 from rfl] at hsk
 rw[hsk]
 simp only[Option.bind_some]
 rw[yj (s:=s) (fun out k=>(out,(k:Int))) (fun l=>.inl l) (fun p=>.inr (⟨[],p⟩:ti)) ?_ ?_ h [] F rfl (by omega) (by simp) (by omega)]
 cases res<;>rfl
 intro out
 simp only[bQ]
 rw[if_neg (by simp)]
 intro out k b q hd ho
 have hk:=cr hd
 simp only[bQ]
 rw[if_pos (decide_eq_true (by omega)),D5 hk (by omega) (by omega) (by omega),Option.bind_some,hd]
 cases ht:tok (b::q) with
 | bad e=>
  have he:=tok_bad ht
  rw[if_pos (decide_eq_true (by show e≠0;omega))]
  exact ar.some rfl
 | rq kd t m=>
  have hp:=pq ht
  have hlen:q.length+1=s.length-k:=by
   have:=congrArg List.length hd
   rw[List.length_drop,List.length_cons] at this;omega
  rw[if_neg (by show ¬ decide ((0:Int)≠0)=true;decide)]
  simp only[Tk.ref]
  rw[ff (by simp only[List.length_cons,List.length_nil];omega),Option.bind_some,zW (by omega) (by omega) (by omega),Option.bind_some]
  exact ar.some rfl
def yz (b:UInt8):Bool:=decide (b=34)||decide (b=92)
def lV (b:UInt8):Str:=if yz b then [92,b] else [b]
def oY (s:Str):Str:=s.flatMap lV
def qs (s:Str):Nat:=s.countP yz
theorem zb:oY []=[]:=rfl
theorem kG (b:UInt8) (s:Str):oY (b::s)=lV b++oY s:=rfl
theorem Dm (a b:Str):oY (a++b)=oY a++oY b:=List.flatMap_append
theorem rL (s:Str):(oY s).length=s.length+qs s:=by
 induction s with
 | nil=>rfl
 | cons b s ih=>
  rw[kG,List.length_append,ih]
  unfold qs lV
  by_cases h:yz b=true
  rw[if_pos h,List.countP_cons_of_pos h];simp;omega
  rw[if_neg h,List.countP_cons_of_neg h];simp;omega
theorem xT (s:Str):qs s<=s.length:=List.countP_le_length
theorem GN {s:Str} (h:qs s=0):oY s=s:=by
 induction s with
 | nil=>rfl
 | cons b s ih=>
  unfold qs at h ih
  by_cases hb:yz b=true
  rw[List.countP_cons_of_pos hb] at h;omega
  rw[List.countP_cons_of_neg hb] at h
  rw[kG,ih h]
  unfold lV
  rw[if_neg hb];rfl
theorem qs_two (s:Str):qs s=s.count 34+s.count 92:=by
 induction s with
 | nil=>rfl
 | cons b s ih=>
  unfold qs at ih ⊢
  by_cases h1:b=34
  subst h1
  rw[List.countP_cons_of_pos (by decide),ih,List.count_cons_self,List.count_cons_of_ne (by decide)];omega
  by_cases h2:b=92
  subst h2
  rw[List.countP_cons_of_pos (by decide),ih,List.count_cons_self,List.count_cons_of_ne (by decide)];omega
  rw[List.countP_cons_of_neg (by simp[yz,h1,h2]),ih,List.count_cons_of_ne (by simpa using fun h=>h1 h),List.count_cons_of_ne (by simpa using fun h=>h2 h)]
theorem Dn (b:UInt8):c6 ((b.toNat:Int):Int).toNat=if yz b then ofStr (lV b) else []:=by
 have h:∀ b:UInt8,decide (c6 ((b.toNat:Int):Int).toNat=if yz b then ofStr (lV b) else [])=true:=jo (by decide +kernel)
 exact of_decide_eq_true (h b)
theorem oK (s:Str):(ofStr s).length=s.length:=by simp[ofStr]
theorem Ec (a b:Str):ofStr (a++b)=ofStr a++ofStr b:=List.map_append
theorem rV {s:Str} {k:Nat} {b:UInt8} {r:Str} (h:s.drop k=b::r):s.take (k+1)=s.take k++[b]:=by
 have hk:=cr h
 rw[List.take_succ_eq_append_getElem hk]
 have:=List.drop_eq_getElem_cons hk
 rw[h] at this
 injection this with h1 h2
 rw[h1]
theorem CU {s:Str} {k:Nat} {b:UInt8} {r:Str} (h:s.drop k=b::r):qs (s.take (k+1))=qs (s.take k)+if yz b then 1 else 0:=by
 rw[rV h]
 unfold qs
 rw[List.countP_append]
 by_cases hb:yz b=true
 rw[List.countP_cons_of_pos hb,if_pos hb];rfl
 rw[List.countP_cons_of_neg hb,if_neg hb];rfl
theorem Gk (s:Str) (k:Nat):qs s=qs (s.take k)+qs (s.drop k):=by
 conv=>lhs;rw[← List.take_append_drop k s]
 exact List.countP_append
theorem BY {A ys:List Int} {n:Nat} (h:ys.length<=n):bj (A++List.replicate n 0) A.length ys=(A++ys)++List.replicate (n-ys.length) 0:=by
 unfold bj
 rw[List.take_left,← List.drop_drop,List.drop_left,List.drop_replicate]
theorem set_rep {A:List Int} {x:Int} {n:Nat} (h:1<=n):(A++List.replicate n 0).set A.length x=(A++[x])++List.replicate (n-1) 0:=by
 obtain⟨m,rfl⟩:∃ m,n=m+1:=⟨n-1,by omega⟩
 rw[List.replicate_succ,List.set_append_right _ _ (Nat.le_refl _),Nat.sub_self]
 simp
theorem bsr_ok {F:Nat} {s:Str} (hF:s.length+10<F) (hs:s.length<=100000000):gC F s=some (oY s):=by
 unfold gC
 have hq:=xT s
 have h1:ar (bA (i64.wrap (([[34],[92]].length:Int)*8)) fun x_3=>if (decide (x_3<=(s.length:Int)))=true then (iter F (iJ fun b3 b2 e6=>if (decide (e6<([[34],[92]].length:Int)))=true then (Option.bind (Option.bind (aS [[34],[92]] e6) (fun e0=>Option.bind (gj F s e0) (fun e4=>if (decide (e4≠0))=true then (Option.bind (aS e0 0) (fun c2=>some (i64.wrap (b3+(i64.wrap (e4*(i64.wrap (((c6 ((c2.toNat:Int):Int).toNat).length:Int)-1))))),true))) else (some (b3,b2))))) (bQ fun c1 b4=>some (.inl (c1,b4,i64.wrap (e6+1))))) else (some (.inr (b3,b2)))) ((s.length:Int),false,0)) else (iter F (iJ fun b1 b0 c3=>if (decide (c3<(s.length:Int)))=true then (Option.bind (Option.bind (aS s c3) (fun e5=>if (decide (c6 ((e5.toNat:Int):Int).toNat≠[]))=true then (bA ((c6 ((e5.toNat:Int):Int).toNat).length:Int) fun e7=>bA (i64.wrap (b1+(i64.wrap (e7-1)))) fun e8=>some (e8,true)) else (some (b1,b0)))) (bQ fun c0 b5=>some (.inl (c0,b5,i64.wrap (c3+1))))) else (some (.inr (b1,b0)))) ((s.length:Int),false,0))) (fun o:Int×Bool=>o=(((s.length+qs s:Nat):Int),decide (0<qs s))):=by
  refine ar.ln (ar.ite (fun _=>?_) (fun _=>?_))
  have hc1:gj F s [34]=some ((s.count 34:Nat):Int):=rfl
  have hc2:gj F s [92]=some ((s.count 92:Nat):Int):=rfl
  have l1:s.count 34<=s.length:=List.count_le_length
  have l2:s.count 92<=s.length:=List.count_le_length
  rw[qs_two]
  rw[k7 (by omega)]
  simp only[iJ]
  rw[if_pos (by simp),show aS [([34]:Str),[92]] 0=some [34] from rfl,Option.bind_some,hc1,Option.bind_some]
  have e1:(if decide (((s.count 34:Nat):Int)≠0)=true then Option.bind (aS ([34]:Str) 0) (fun c2=>some (i64.wrap ((s.length:Int)+(i64.wrap (((s.count 34:Nat):Int)*(i64.wrap (((c6 ((c2.toNat:Int):Int).toNat).length:Int)-1))))),true)) else some ((s.length:Int),false))=some (((s.length+s.count 34:Nat):Int),decide (0<s.count 34)):=by
   by_cases h0:s.count 34=0
   rw[if_neg (by simp[h0]),h0];rfl
   rw[if_pos (decide_eq_true (by omega)),show aS ([34]:Str) 0=some 34 from rfl,Option.bind_some]
   have e2:i64.wrap (((c6 (((34:UInt8).toNat:Int):Int).toNat).length:Int)-1)=1:=by decide
   rw[e2,Int.mul_one,wr (z:=((s.count 34:Nat):Int)) (by omega) (by omega),wr (by omega) (by omega),decide_eq_true (show 0<s.count 34 by omega)]
   rfl
  rw[e1]
  simp only[Option.bind_some,bQ,cW]
  rw[show i64.wrap (0+1)=1 from rfl,k7 (by omega)]
  simp only[iJ]
  rw[if_pos (by simp),show aS [([34]:Str),[92]] 1=some [92] from rfl,Option.bind_some,hc2,Option.bind_some]
  have e3:(if decide (((s.count 92:Nat):Int)≠0)=true then Option.bind (aS ([92]:Str) 0) (fun c2=>some (i64.wrap (((s.length+s.count 34:Nat):Int)+(i64.wrap (((s.count 92:Nat):Int)*(i64.wrap (((c6 ((c2.toNat:Int):Int).toNat).length:Int)-1))))),true)) else some (((s.length+s.count 34:Nat):Int),decide (0<s.count 34)))=some (((s.length+(s.count 34+s.count 92):Nat):Int),decide (0<s.count 34+s.count 92)):=by
   by_cases h0:s.count 92=0
   rw[if_neg (by simp[h0]),h0];rfl
   rw[if_pos (decide_eq_true (by omega)),show aS ([92]:Str) 0=some 92 from rfl,Option.bind_some]
   have e2:i64.wrap (((c6 (((92:UInt8).toNat:Int):Int).toNat).length:Int)-1)=1:=by decide
   rw[e2,Int.mul_one,wr (z:=((s.count 92:Nat):Int)) (by omega) (by omega),wr (by omega) (by omega),decide_eq_true (show 0<s.count 34+s.count 92 by omega)]
   congr 2;omega
  rw[e3]
  simp only[Option.bind_some,bQ,cW]
  rw[show i64.wrap (1+1)=2 from rfl,k7 (by omega)]
  simp only[iJ]
  rw[if_neg (by simp)]
  exact ar.some rfl
  refine (kF (fun k:Nat=>(((s.length+qs (s.take k):Nat):Int),decide (0<qs (s.take k)),(k:Int))) (fun k=>s.length-k) (fun k=>k<=s.length) (fun k t=>t=(((s.length+qs s:Nat):Int),decide (0<qs s))) ?_ F 0 (by omega) (by omega))
  intro k hk
  simp only[iJ]
  have hqk:qs (s.take k)<=s.length:=Nat.le_trans (xT _) (by rw[List.length_take];omega)
  cases hd:s.drop k with
  | nil=>
   have c4:=drop_nil hd hk
   rw[if_neg (by simp;omega)]
   refine .inr ⟨_,rfl,?_⟩
   rw[c4,List.take_length]
  | cons b r=>
   have hlt:=cr hd
   refine .inl ⟨k+1,?_,by omega,by omega,fun t ht=>ht⟩
   rw[if_pos (decide_eq_true (by omega)),dk hd,Option.bind_some,Dn,CU hd]
   by_cases hb:yz b=true
   have e1:lV b=[92,b]:=by unfold lV;rw[if_pos hb]
   rw[if_pos hb,if_pos hb,e1,if_pos (decide_eq_true (by simp[ofStr]))]
   simp only[bA,Option.bind_some,bQ]
   rw[wk k (by omega)]
   have e2:i64.wrap (((ofStr [92,b]).length:Int)-1)=1:=rfl
   rw[e2,show ((s.length+qs (s.take k):Nat):Int)+1=((s.length+(qs (s.take k)+1):Nat):Int) by omega,wr (by omega) (by omega)]
   rw[decide_eq_true (show 0<qs (s.take k)+1 by omega)]
   rw[if_neg hb,if_neg hb,if_neg (by simp)]
   simp only[Option.bind_some,bQ,Nat.add_zero]
   rw[wk k (by omega)]
 refine ar.eq (ar.bind h1 fun o ho=>?_)
 subst ho
 simp only[bQ]
 by_cases h0:qs s=0
 rw[if_pos (by simp[h0]),GN h0]
 exact ar.some rfl
 rw[if_neg (by simp;omega)]
 have hmk:mk? (0:Int) ((s.length+qs s:Nat):Int) ((s.length+qs s:Nat):Int)=some (List.replicate (s.length+qs s) 0):=by
  unfold mk?
  rw[if_pos ⟨by omega,by omega,by omega⟩,Int.toNat_natCast]
 rw[hmk,Option.bind_some]
 refine ar.bind (P:=fun b=>b=ofStr (oY s)) (kF (fun k:Nat=>(ofStr (oY (s.take k))++List.replicate (s.length+qs s-(oY (s.take k)).length) 0,(((oY (s.take k)).length:Nat):Int),(k:Int))) (fun k=>s.length-k) (fun k=>k<=s.length) (fun k t=>t=ofStr (oY s)) ?_ F 0 (by omega) (by omega)) ?_
 intro k hk
 simp only[iJ]
 have hl:(oY (s.take k)).length=k+qs (s.take k):=by rw[rL,List.length_take];congr 1;omega
 cases hd:s.drop k with
 | nil=>
  have c4:=drop_nil hd hk
  rw[if_neg (by simp;omega)]
  refine .inr ⟨_,rfl,?_⟩
  rw[c4,List.take_length,rL]
  simp
 | cons b r=>
  have hlt:=cr hd
  have hsp:=Gk s (k+1)
  have hsn:=CU hd
  refine .inl ⟨k+1,?_,by omega,by omega,fun t ht=>ht⟩
  rw[if_pos (decide_eq_true (by omega)),dk hd,Option.bind_some,Dn,rV hd,Dm,Ec,wk k (by omega)]
  have e9:oY [b]=lV b:=by rw[kG,zb,List.append_nil]
  rw[e9,List.length_append]
  by_cases hb:yz b=true
  have e1:lV b=[92,b]:=by unfold lV;rw[if_pos hb]
  rw[if_pos hb] at hsn
  rw[if_pos hb,e1,if_pos (decide_eq_true (by simp[ofStr]))]
  have hc:xM (ofStr (oY (s.take k))++List.replicate (s.length+qs s-(oY (s.take k)).length) 0) (ofStr [92,b]) (((oY (s.take k)).length:Nat):Int)=some ((ofStr (oY (s.take k))++ofStr [92,b])++List.replicate (s.length+qs s-(oY (s.take k)).length-2) 0):=by
   unfold xM
   rw[if_pos]
   congr 1
   have:=BY (A:=ofStr (oY (s.take k))) (ys:=ofStr [92,b]) (n:=s.length+qs s-(oY (s.take k)).length) (by show 2<=_;omega)
   rw[oK] at this
   rw[Int.toNat_natCast]
   exact this
   refine⟨by omega,by simp[ofStr],?_,?_⟩
   show _+2<=_
   simp only[Int.toNat_natCast,List.length_append,oK,List.length_replicate];omega
   simp only[List.length_append,oK,List.length_replicate];omega
  rw[hc]
  simp only[Option.bind_some,bQ]
  have e2:((ofStr [92,b]).length:Int)=2:=rfl
  rw[e2,wr (by omega) (by omega)]
  have e3:([92,b]:Str).length=2:=rfl
  rw[e3,Nat.sub_sub]
  rfl
  have e1:lV b=[b]:=by unfold lV;rw[if_neg hb]
  rw[if_neg hb] at hsn
  rw[if_neg hb,e1,if_neg (by simp)]
  have hi:∃ x,aS (ofStr (oY (s.take k))++List.replicate (s.length+qs s-(oY (s.take k)).length) 0) (((oY (s.take k)).length:Nat):Int)=some x:=by
   refine⟨_,rI (by omega) ?_⟩
   simp only[List.length_append,oK,List.length_replicate];omega
  obtain⟨x,hx⟩:=hi
  rw[hx]
  simp only[Option.bind_some,bQ,Int.toNat_natCast]
  have:=set_rep (A:=ofStr (oY (s.take k))) (x:=(b.toNat:Int)) (n:=s.length+qs s-(oY (s.take k)).length) (by omega)
  rw[oK] at this
  rw[this,wr (by omega) (by omega)]
  have e3:([b]:Str).length=1:=rfl
  rw[e3,Nat.sub_sub]
  rfl
 rintro b rfl
 rw[wQ]
 exact ar.some rfl
def s7 (k:Int) (t:Str):Str:=if k=4 then 34::(oY t++[34]) else t
theorem tk (k:Int) (t:Str):(s7 k t).length<=2*t.length+2:=by
 unfold s7
 have:=rL t
 have:=xT t
 split
 simp;omega
 omega
theorem xb {F:Nat} {t:Token} (hF:t.S.length+10<F) (hs:t.S.length<=100000000):gk F t=some (s7 t.Kind t.S):=by
 unfold gk s7
 by_cases h4:t.Kind=4
 rw[if_neg (by simp[h4]),if_pos h4]
 have e1:lF F=some ():=rfl
 have e2:fS F t.S 0=gC F t.S:=by
  unfold fS
  rw[show r6 F 0=some () from rfl]
  cases gC F t.S<;>rfl
 have:=rL t.S
 have:=xT t.S
 rw[e1,Option.bind_some,e2,bsr_ok hF hs,Option.bind_some]
 rw[ff (by simp;omega),Option.bind_some,ff (by simp;omega)]
 rfl
 rw[if_pos (by simpa using h4),if_neg h4]
theorem vi {F:Nat} {t:Token} (hF:t.S.length+10<F) (hs:t.S.length<=100000000):dq F t=some (s7 t.Kind t.S):=by
 unfold dq s7
 by_cases h4:t.Kind=4
 rw[if_neg (by simp[h4]),if_pos h4]
 refine ar.eq (ar.bind (P:=fun o=>o=34::oY t.S) (kF (fun k:Nat=>(34::oY (t.S.take k),(k:Int))) (fun k=>t.S.length-k) (fun k=>k<=t.S.length) (fun k o=>o=34::oY t.S) ?_ F 0 (by omega) (by omega)) ?_)
 intro k hk
 simp only[bQ]
 have hl:(oY (t.S.take k)).length=k+qs (t.S.take k):=by rw[rL,List.length_take];congr 1;omega
 have hqk:qs (t.S.take k)<=t.S.length:=Nat.le_trans (xT _) (by rw[List.length_take];omega)
 cases hd:t.S.drop k with
 | nil=>
  have b1:=drop_nil hd hk
  rw[if_neg (by simp;omega)]
  refine .inr ⟨_,rfl,?_⟩
  rw[b1,List.take_length]
 | cons b r=>
  have hlt:=cr hd
  have hi:=dk hd
  refine .inl ⟨k+1,?_,by omega,by omega,fun o ho=>ho⟩
  have e34:decide ((b.toNat:Int)=34)=decide (b=34):=toNat_eq b 34 (by decide)
  have e92:decide ((b.toNat:Int)=92)=decide (b=92):=toNat_eq b 92 (by decide)
  have b0:=sK (s:=t.S) (k:=k) (n:=1) (by omega)
  rw[hd] at b0
  rw[if_pos (decide_eq_true (by omega)),hi,Option.bind_some,e34,rV hd,Dm,wk k (by omega)]
  have e9:oY [b]=lV b:=by rw[kG,zb,List.append_nil]
  rw[e9,b0]
  by_cases h1:b=34
  subst h1
  simp only[decide_true,Bool.not_true,aT,Bool.false_eq_true,if_false,Option.bind_some,bA,Bool.true_or,if_true]
  rw[ff (by simp;omega)]
  simp only[Option.bind_some]
  rw[ff (by simp;omega)]
  simp[bQ,lV,yz]
  rw[decide_eq_false h1]
  simp only[Bool.not_false,aT,if_true,Option.bind_some,bA,Bool.false_or,e92]
  by_cases h2:b=92
  subst h2
  rw[if_pos (by decide),ff (by simp;omega)]
  simp only[Option.bind_some]
  rw[ff (by simp;omega)]
  simp[bQ,lV,yz]
  rw[if_neg (by simpa using h2)]
  simp only[Option.bind_some]
  rw[ff (by simp;omega)]
  simp[bQ,lV,yz,h1,h2]
 rintro o rfl
 have:=rL t.S
 have:=xT t.S
 rw[ff (by simp;omega)]
 exact ar.some rfl
 rw[if_pos (by simpa using h4),if_neg h4]
def EB (c:UInt8):Bool:=AY c||decide (c=35)
def Sep (r:Str):Prop:=∀ c q,r=c::q->EB c=true
theorem sep_nil:Sep []:=fun c q h=>by cases h
theorem wL (c:UInt8) (h:EB c=true):ur c=false/\ew c=false/\xR c=false/\c≠46/\c≠95/\c≠34:=by
 have h2:∀ c:UInt8,decide (EB c=true->ur c=false/\ew c=false/\xR c=false/\c≠46/\c≠95/\c≠34)=true:=jo (by decide +kernel)
 exact of_decide_eq_true (h2 c) h
theorem wE {p:UInt8->Bool}:∀ {t rest:Str},(∀ x∈t,p x=true)->(∀ c q,rest=c::q->p c=false)->(t++rest).takeWhile p=t/\(t++rest).dropWhile p=rest
 | [],rest,_,h=>by
  cases rest with
  | nil=>exact⟨rfl,rfl⟩
  | cons c q=>
   have:=h c q rfl
   exact⟨List.takeWhile_cons_of_neg (by simp[this]),List.dropWhile_cons_of_neg (by simp[this])⟩
 | b::t,rest,ht,h=>by
  have hb:=ht b (by simp)
  obtain⟨h1,h2⟩:=wE (t:=t) (rest:=rest) (fun x hx=>ht x (by simp[hx])) h
  rw[List.cons_append,List.takeWhile_cons_of_pos hb,List.dropWhile_cons_of_pos hb,h1,h2]
  exact⟨rfl,rfl⟩
theorem Bi {p:UInt8->Bool} (r:Str):∀ x∈r.takeWhile p,p x=true:=by
 intro x hx
 exact List.all_eq_true.1 (List.all_takeWhile (p:=p) (l:=r)) x hx
theorem tw_dw (p:UInt8->Bool) (r:Str):r.takeWhile p++r.dropWhile p=r:=List.takeWhile_append_dropWhile
theorem Eh {t rest:Str} (ht:∀ x∈t,ur x=true) (h:∀ c q,rest=c::q->ur c=false):lI (t++rest)=if 32<t.length then .bad 2 else .rq (if isW t then 1 else 2) t t.length:=by
 unfold lI
 rw[(wE ht h).1]
def Ct (A:Str):Bool:=decide (1<A.length)&&decide (pk A=48)
theorem EY {A r:Str} (h:A≠[]):pk (A++r)=pk A:=by
 cases A with
 | nil=>exact absurd rfl h
 | cons a A=>rfl
theorem vV {A D:Str} (hA:∀ x∈A,ew x=true) (h0:A≠[]) (hD:∀ c q,D=c::q->ew c=false) (hd:∀ d q,D=46::d::q->ew d=false) :
 sE (A++D)=if 40<A.length then .bad 2 else if Ct A||lu D then .bad 281 else .rq 3 A A.length:=by
 obtain⟨h1,h2⟩:=wE hA hD
 have hn:lU (A++D)=(A.length,A.length):=by
  rw[yZ (by rw[h2];exact hd),h1]
 unfold sE wu Ct
 rw[hn,h1,EY h0]
 simp only[List.drop_left,List.take_left]
theorem vU {A B D:Str} (hA:∀ x∈A,ew x=true) (h0:A≠[]) (hB:∀ x∈B,ew x=true) (h1:B≠[]) (hD:∀ c q,D=c::q->ew c=false) :
 sE (A++46::(B++D))=if 40<A.length+B.length then .bad 2 else if Ct A||lu D then .bad 281 else .rq 3 (A++46::B) (A.length+1+B.length):=by
 obtain⟨e1,e2⟩:=wE (p:=ew) (rest:=46::(B++D)) hA (by intro c q h;injection h with h _;rw[← h];rfl)
 obtain⟨e3,e4⟩:=wE hB hD
 have hn:lU (A++46::(B++D))=(A.length+1+B.length,A.length+B.length):=by
  cases B with
  | nil=>exact absurd rfl h1
  | cons d B'=>
   rw[wZ (d:=d) (q:=B'++D) (by rw[e2];rfl) (hB d (by simp)),e1]
   rw[show d::(B'++D)=(d::B')++D from rfl,e3]
 unfold sE wu Ct
 rw[hn,e1,EY h0]
 have el:A++46::(B++D)=(A++46::B)++D:=by simp
 have en:A.length+1+B.length=(A++46::B).length:=by simp;omega
 simp only
 rw[el,en,List.drop_left,List.take_left]
theorem uL {b:UInt8} {q:Str} (hb:ew b=true):(∃ A D,b::q=A++D/\(∀ x∈A,ew x=true)/\A≠[]/\(∀ c q,D=c::q->ew c=false)/\∀ d q,D=46::d::q->ew d=false) ∨
 ∃ A B D,b::q=A++46::(B++D)/\(∀ x∈A,ew x=true)/\A≠[]/\(∀ x∈B,ew x=true)/\B≠[]/\∀ c q,D=c::q->ew c=false:=by
 have h1:=tw_dw ew (b::q)
 have h2:=Bi (p:=ew) (b::q)
 have h3:(b::q).takeWhile ew≠[]:=by rw[List.takeWhile_cons_of_pos hb];simp
 have h4:=@tC ew (b::q)
 by_cases b0:∃ d q1,(b::q).dropWhile ew=46::d::q1/\ew d=true
 obtain⟨d,q1,hd,hg⟩:=b0
 refine .inr ⟨(b::q).takeWhile ew,(d::q1).takeWhile ew,(d::q1).dropWhile ew,?_,h2,h3,Bi _,?_,fun c q h=>tC h⟩
 rw[tw_dw,← hd,h1]
 rw[List.takeWhile_cons_of_pos hg];simp
 refine .inl ⟨_,_,h1.symm,h2,h3,fun c q h=>h4 h,fun d q1 h=>?_⟩
 cases hg:ew d with
 | false=>rfl
 | true=>exact absurd ⟨d,q1,h,hg⟩ b0
theorem E5 {r:Str} (h:Sep r):lu r=false:=by
 cases r with
 | nil=>rfl
 | cons c q=>
  have:=wL c (h c q rfl)
  unfold lu
  rw[pk_95]
  simp[hL,this]
theorem yx {r:Str} (h:Sep r):∀ c q,r=c::q->ew c=false:=fun c q e=>(wL c (h c q e)).2.1
theorem dot_sep {r:Str} (h:Sep r):∀ d q,r=46::d::q->ew d=false:=fun d q e=>absurd rfl (wL 46 (h 46 _ e)).2.2.2.1
theorem Gx {r:Str} (h:Sep r):∀ c q,r=c::q->ur c=false:=fun c q e=>(wL c (h c q e)).1
theorem DX {S:Str} (h:∀ x∈S,Ey x=true) (r:Str):iF (oY S++34::r)=some (S,(oY S).length+1):=by
 induction S with
 | nil=>rw[zb,List.nil_append,du,if_pos rfl];rfl
 | cons b S ih=>
  have hb:=h b (by simp)
  have ih:=ih fun x hx=>h x (by simp[hx])
  rw[kG,List.append_assoc]
  by_cases hq:yz b=true
  have e1:lV b=[92,b]:=by unfold lV;rw[if_pos hq]
  have b0:b=34∨b=92:=by simpa[yz] using hq
  rw[e1,List.cons_append,du,if_neg (by decide),if_pos rfl]
  simp only[List.cons_append,List.nil_append,if_pos b0,ih,Option.map_some,List.length_cons,List.length_append]
  have e1:lV b=[b]:=by unfold lV;rw[if_neg hq]
  have b0:b≠34/\b≠92:=by simpa[yz] using hq
  rw[e1,List.cons_append,du,if_neg b0.1,if_neg b0.2,if_pos hb]
  simp only[List.nil_append,ih,Option.map_some,List.length_cons,List.cons_append]
theorem uG:∀ (r:Str) (z:Str×Nat),iF r=some z->(∀ x∈z.1,Ey x=true)/\r.take z.2=oY z.1++[34]/\z.2=(oY z.1).length+1
 | [],z,h=>by cases h
 | b::r,z,h=>by
  rw[du] at h
  by_cases hb:b=34
  rw[if_pos hb] at h
  cases h
  subst hb
  exact⟨by simp,rfl,rfl⟩
  rw[if_neg hb] at h
  by_cases hc:b=92
  rw[if_pos hc] at h
  subst hc
  cases r with
  | nil=>cases h
  | cons c q=>
   simp only at h
   by_cases b1:c=34∨c=92
   rw[if_pos b1] at h
   obtain⟨y,hy,rfl⟩:=Option.map_eq_some_iff.1 h
   obtain⟨h1,h2,h3⟩:=uG q y hy
   have e1:lV c=[92,c]:=by unfold lV;rw[if_pos (by simpa[yz] using b1)]
   have b0:Ey c=true:=by rcases b1 with rfl|rfl<;>rfl
   refine⟨?_,?_,?_⟩
   intro x hx
   rcases List.mem_cons.1 hx with rfl|hx
   exact b0
   exact h1 x hx
   simp only[List.take_succ_cons,h2,kG,e1];rfl
   simp only[kG,e1,List.length_append,h3,List.length_cons,List.length_nil];omega
   rw[if_neg b1] at h;cases h
  rw[if_neg hc] at h
  by_cases b0:Ey b=true
  rw[if_pos b0] at h
  obtain⟨y,hy,rfl⟩:=Option.map_eq_some_iff.1 h
  obtain⟨h1,h2,h3⟩:=uG r y hy
  have e1:lV b=[b]:=by unfold lV;rw[if_neg (by simp[yz,hb,hc])]
  refine⟨?_,?_,?_⟩
  intro x hx
  rcases List.mem_cons.1 hx with rfl|hx
  exact b0
  exact h1 x hx
  simp only[List.take_succ_cons,h2,kG,e1];rfl
  simp only[kG,e1,List.length_append,h3,List.length_cons,List.length_nil];omega
  rw[if_neg b0] at h;cases h
theorem CX:∀ {g w rest:Str},(∀ x∈g,EB x=false)->Sep rest->g.isPrefixOf (w++rest)=g.isPrefixOf w
 | [],w,rest,_,_=>by simp
 | x::g,[],rest,hg,hs=>by
  cases rest with
  | nil=>rfl
  | cons c q=>
   have h1:=hg x (by simp)
   have h2:=hs c q rfl
   have:(x==c)=false:=by
    simp only[beq_eq_false_iff_ne]
    rintro rfl;rw[h1] at h2;cases h2
   simp[List.isPrefixOf,this]
 | x::g,y::w,rest,hg,hs=>by
  have ih:=CX (g:=g) (w:=w) (rest:=rest) (fun z hz=>hg z (by simp[hz])) hs
  simp only[List.cons_append,List.isPrefixOf,ih]
theorem ya:∀ g∈dr,∀ x∈g,EB x=false:=by decide
theorem Ga {w rest:Str} (hs:Sep rest):mE (w++rest)=mE w:=by
 unfold mE
 have:∀ l:List Str,(∀ g∈l,∀ x∈g,EB x=false)->l.find? (fun g=>g.isPrefixOf (w++rest))=l.find? (fun g=>g.isPrefixOf w):=by
  intro l
  induction l with
  | nil=>intro _;rfl
  | cons g l ih=>
   intro h
   rw[List.find?_cons,List.find?_cons,CX (h g (by simp)) hs,ih fun g hg=>h g (by simp[hg])]
 rw[this dr ya]
theorem D2:∀ g∈dr,dr.find? (fun x=>x.isPrefixOf g)=some g:=by decide
theorem DW {x:UInt8} {q:Str} {k:Int} {t:Str} {m:Nat} (h:tok (x::q)=.rq k t m):EB x=false:=by
 cases hp:EB x with
 | false=>rfl
 | true=>
  have hn:=wL x hp
  unfold tok at h
  simp only[hn.2.2.1,hn.2.1,hn.2.2.2.2.2,Bool.false_eq_true,if_false] at h
  obtain⟨h1,_,_,h4⟩:=qH h
  cases t with
  | nil=>exact absurd h1 (by decide)
  | cons c t=>
   have h5:=ya _ h1 c (by simp)
   have h6:(c::t).isPrefixOf (x::q)=true:=h4
   simp only[List.isPrefixOf,Bool.and_eq_true,beq_iff_eq] at h6
   rw[h6.1,hp] at h5;cases h5
theorem DV {r:Str} {k:Int} {t:Str} {m:Nat} (h:tok r=.rq k t m):t.length<=80:=by
 unfold tok at h
 split at h
 cases h
 next x q=>
  split at h
  unfold lI at h
  split at h
  cases h
  cases h;omega
  split at h
  next hg=>
   rcases uL (q:=q) hg with ⟨A,D,e,hA,h0,hD,b0⟩|⟨A,B,D,e,hA,h0,hB,h1,hD⟩
   rw[e,vV hA h0 hD b0] at h
   split at h
   cases h
   split at h
   cases h
   cases h;omega
   rw[e,vU hA h0 hB h1 hD] at h
   split at h
   cases h
   split at h
   cases h
   cases h;simp;omega
  split at h
  unfold og at h
  split at h
  cases h
  split at h
  cases h
  cases h;omega
  obtain⟨h1,_,_,_⟩:=qH h
  have:∀ g∈dr,g.length<=80:=by decide
  exact this t h1
theorem tok_sep {x:UInt8} {q:Str} {k:Int} {t:Str} {m:Nat} (h:tok (x::q)=.rq k t m):s7 k t=(x::q).take m/\∀ rest,Sep rest->tok ((x::q).take m++rest)=.rq k t m:=by
 have hm:=pq h
 have key:∀ w:Str,w=(x::q).take m->∃ w',w=x::w':=by
  intro w hw
  obtain⟨n,rfl⟩:∃ n,m=n+1:=⟨m-1,by omega⟩
  exact⟨_,hw⟩
 unfold tok at h
 simp only at h
 by_cases hl:xR x=true
 rw[if_pos hl] at h
 have ht:t=(x::q).take m/\m=t.length/\(k=1∨k=2)/\t=(x::q).takeWhile ur/\lI (x::q)=.rq k t m:=by
  refine (fun h'=>?_) h
  unfold lI at h
  split at h
  cases h
  cases h
  refine⟨(yR ur _).symm,rfl,?_,rfl,h'⟩
  split<;>simp
 obtain⟨h1,h2,h3,h4,h5⟩:=ht
 refine⟨?_,fun rest hr=>?_⟩
 unfold s7
 rw[if_neg (by omega)];exact h1
 rw[← h1]
 obtain⟨w',hw⟩:=key t h1
 have e1:tok (t++rest)=lI (t++rest):=by
  rw[hw,List.cons_append,tok];rw[if_pos hl]
 have ha:∀ y∈t,ur y=true:=by rw[h4];exact Bi _
 rw[e1,Eh ha (Gx hr)]
 rw[lI,← h4] at h5
 exact h5
 rw[if_neg hl] at h
 by_cases hg:ew x=true
 rw[if_pos hg] at h
 rcases uL (q:=q) hg with ⟨A,D,e,hA,h0,hD,b0⟩|⟨A,B,D,e,hA,h0,hB,h1,hD⟩
 rw[e,vV hA h0 hD b0] at h
 split at h
 cases h
 next b1=>
  split at h
  cases h
  next hz=>
   cases h
   have et:(x::q).take t.length=t:=by rw[e,List.take_left]
   rw[et]
   refine⟨rfl,fun rest hr=>?_⟩
   obtain⟨w',hw⟩:=key t et.symm
   have e1:tok (t++rest)=sE (t++rest):=by
    rw[hw,List.cons_append,tok];rw[if_neg hl,if_pos hg]
   rw[e1,vV hA h0 (yx hr) (dot_sep hr),if_neg b1,if_neg]
   rw[E5 hr]
   simp only[Bool.or_eq_true,not_or] at hz
   simp[hz.1]
 rw[e,vU hA h0 hB h1 hD] at h
 split at h
 cases h
 next b1=>
  split at h
  cases h
  next hz=>
   cases h
   have et:(x::q).take (A.length+1+B.length)=A++46::B:=by
    have el:A++46::(B++D)=(A++46::B)++D:=by simp
    have en:A.length+1+B.length=(A++46::B).length:=by simp;omega
    rw[e,el,en,List.take_left]
   rw[et]
   refine⟨rfl,fun rest hr=>?_⟩
   obtain⟨w',hw⟩:=key _ et.symm
   have e1:tok (A++46::B++rest)=sE (A++46::B++rest):=by
    rw[hw,List.cons_append,tok];rw[if_neg hl,if_pos hg]
   have e2:A++46::B++rest=A++46::(B++rest):=by simp
   rw[e1,e2,vU hA h0 hB h1 (yx hr),if_neg b1,if_neg]
   rw[E5 hr]
   simp only[Bool.or_eq_true,not_or] at hz
   simp[hz.1]
 rw[if_neg hg] at h
 by_cases hb:x=34
 rw[if_pos hb] at h
 subst hb
 unfold og at h
 simp only[List.drop_succ_cons,List.drop_zero] at h
 cases hz:iF q with
 | none=>rw[hz] at h;cases h
 | some z=>
  rw[hz] at h
  simp only at h
  obtain⟨h1,h2,h3⟩:=uG q z hz
  split at h
  cases h
  next h80=>
   cases h
   have et:(34::q).take (z.2+1)=34::(oY z.1++[34]):=by rw[List.take_succ_cons,h2]
   rw[et]
   refine⟨rfl,fun rest hr=>?_⟩
   rw[List.cons_append,tok]
   simp only
   rw[if_neg hl,if_neg hg,if_pos trivial]
   unfold og
   simp only[List.drop_succ_cons,List.drop_zero]
   rw[List.append_assoc,List.singleton_append,DX h1,← h3]
   simp only
   rw[if_neg h80]
 rw[if_neg hb] at h
 obtain⟨h1,h2,h3,h4⟩:=qH h
 have et:=(tN.1 h4).2
 rw[← h2] at et
 rw[et]
 refine⟨by unfold s7;rw[if_neg (by omega)],fun rest hr=>?_⟩
 obtain⟨w',hw⟩:=key t et.symm
 have e1:tok (t++rest)=mE (t++rest):=by
  rw[hw,List.cons_append,tok];rw[if_neg hl,if_neg hg,if_neg hb]
 rw[e1,Ga hr,mE,D2 t h1,h3,h2]
def ik (K:Int) (S:Str):Bool:=match tok (s7 K S) with
 | .bad _=>false
 | .rq k t n=>decide (k=K)&&decide (t=S)&&decide (n=(s7 K S).length)
theorem oI {K:Int} {S:Str}:ik K S=true↔tok (s7 K S)=.rq K S (s7 K S).length:=by
 unfold ik
 cases h:tok (s7 K S) with
 | bad e=>simp
 | rq k t n=>
  constructor
  intro h2
  simp only[Bool.and_eq_true,decide_eq_true_eq] at h2
  rw[h2.1.1,h2.1.2,h2.2]
  intro h2
  injection h2 with h1 h2 h3
  simp[h1,h2,h3]
theorem F5 {x:UInt8} {q:Str} {k:Int} {t:Str} {m:Nat} (h:tok (x::q)=.rq k t m):ik k t=true:=by
 obtain⟨h1,h2⟩:=tok_sep h
 have h3:=h2 [] sep_nil
 have hm:=pq h
 rw[List.append_nil,← h1] at h3
 rw[oI,h3]
 congr 1
 rw[h1,List.length_take,List.length_cons];omega
theorem yb {K:Int} {S:Str} (h:ik K S=true):∃ x q,s7 K S=x::q/\EB x=false:=by
 have h:=oI.1 h
 cases hw:s7 K S with
 | nil=>rw[hw] at h;cases h
 | cons x q=>
  rw[hw] at h
  exact⟨x,q,rfl,DW h⟩
theorem jW {K:Int} {S:Str} (h:ik K S=true):S.length<=80:=DV (oI.1 h)
theorem sk_tok {x:UInt8} {q:Str} (h:EB x=false):sk false (x::q)=x::q:=by
 unfold EB at h
 simp only[Bool.or_eq_false_iff,decide_eq_false_iff_not] at h
 rw[sk,if_neg (by simp[h.1]),if_neg h.2]
theorem CY {K:Int} {S:Str} (h:ik K S=true):Lx 0 (s7 K S) (.inl [⟨K,0,S⟩]):=by
 obtain⟨x,q,hw,hx⟩:=yb h
 have h2:=oI.1 h
 rw[hw] at h2 ⊢
 have hd:Lx (0+(x::q).length) ((x::q).drop (x::q).length) (.inl []):=by
  rw[List.drop_length];exact .done rfl
 exact Lx.one (k:=0) (j:=0) (sk_tok hx) (by simp) h2 hd
theorem D1 {r:Str} {c:Bool} (h:(sk c r).length=r.length):sk c r=r:=by
 have:=vS r c
 rw[h,Nat.sub_self] at this
 rw[this];rfl
theorem C2 {K:Int} {S w:Str} (hw:w=s7 K S) (h:Lx 0 w (.inl [⟨K,0,S⟩])):ik K S=true:=by
 generalize hr:(Sum.inl [⟨K,0,S⟩]:List Token⊕Problem)=res at h
 cases h with
 | done=>cases hr
 | bad=>cases hr
 | err=>cases hr
 | @one _ j _ q b kd t m l h1 hj ht hl=>
  injection hr with hr
  injection hr with hr1 hr2
  injection hr1 with e1 e2 e3
  have hj0:j=0:=by omega
  subst hj0
  have e:sk false w=w:=D1 (by rw[h1];simp only[List.length_cons];omega)
  rw[h1] at e
  rw[← e1,← e3] at ht
  exact F5 ht
theorem q7 {F:Nat} {t:Token} (hF:t.S.length+200000<F) (hs:t.S.length<=40000000):eG F t=some (ik t.Kind t.S):=by
 unfold eG
 rw[xb (by omega) (by omega),Option.bind_some]
 have hwl:=tk t.Kind t.S
 by_cases hlen:(s7 t.Kind t.S).length<=100000
 obtain⟨res,b0⟩:=Lx.total _ 0 (s7 t.Kind t.S) (Nat.le_refl _)
 rw[DU hlen (by omega) b0,Option.bind_some]
 cases hp:ik t.Kind t.S with
 | true=>
  have:=Lx.det b0 (CY hp)
  subst this
  simp only[outP,bQ]
  rw[show aS [(⟨t.Kind,0,t.S⟩:Token)] 0=some ⟨t.Kind,0,t.S⟩ from rfl]
  simp[aT]
 | false=>
  have hne:¬ (outP res=([⟨t.Kind,0,t.S⟩],⟨0,0⟩)):=by
   intro h
   cases res with
   | inl l=>
    have h1:l=[⟨t.Kind,0,t.S⟩]:=congrArg Prod.fst h
    rw[h1] at b0
    rw[C2 rfl b0] at hp;cases hp
   | inr p=>
    have h1:([]:List Token)=[⟨t.Kind,0,t.S⟩]:=congrArg Prod.fst h
    cases h1
  generalize outP res=o at hne
  obtain⟨l,p⟩:=o
  simp only[bQ]
  by_cases hc:p=⟨0,0⟩/\(l.length:Int)=1
  have e0:(decide (p=(⟨0,0⟩:Problem))&&decide ((l.length:Int)=1))=true:=by simp[hc]
  obtain⟨x,hl⟩:∃ x,l=[x]:=List.length_eq_one_iff.1 (by omega)
  subst hl
  rw[e0,show aS [x] 0=some x from rfl]
  simp only[aT,if_true,Option.bind_some,Bool.true_and]
  congr 1
  simp only[decide_eq_false_iff_not]
  intro hx
  exact hne (by rw[hx,hc.1])
  have e0:(decide (p=(⟨0,0⟩:Problem))&&decide ((l.length:Int)=1))=false:=by
   simp only[Bool.and_eq_false_iff,decide_eq_false_iff_not]
   by_cases h1:p=⟨0,0⟩
   exact .inr fun h2=>hc ⟨h1,h2⟩
   exact .inl h1
  rw[e0]
  simp[aT]
 have hp:ik t.Kind t.S=false:=by
  cases hp:ik t.Kind t.S with
  | false=>rfl
  | true=>have:=jW hp;omega
 rw[hp]
 have e1:cI F (s7 t.Kind t.S)=some ([],⟨0,2⟩):=by
  unfold cI
  rw[if_pos (decide_eq_true (by omega))]
 rw[e1,Option.bind_some]
 rfl
theorem B3 (x:ti) (T:Token):Option.bind (aT ((decide (x.P.E=0))&&(decide ((x.L.length:Int)=1))) (aS x.L (min 0 (i64.wrap ((x.L.length:Int)-1))))) (fun x_3=>some (((decide (x.P.E=0))&&(decide ((x.L.length:Int)=1)))&&(decide (x_3=T))))=some (decide (x.P.E=0)&&decide (x.L=[T])):=by
 obtain⟨L,P⟩:=x
 cases L with
 | nil=>
  have e:(decide (P.E=0)&&decide ((([]:List Token).length:Int)=1))=false:=by cases decide (P.E=0)<;>rfl
  simp only
  rw[e]
  simp[aT]
 | cons y l=>
  cases l with
  | nil=>
   have e1:decide ((([y]:List Token).length:Int)=1)=true:=rfl
   have e2:aS [y] (min 0 (i64.wrap ((([y]:List Token).length:Int)-1)))=some y:=rfl
   have e3:decide ([y]=[T])=decide (y=T):=by simp
   simp only
   rw[e1,e2,e3,Bool.and_true]
   by_cases h:P.E=0
   simp[aT,h]
   simp[aT,h]
  | cons z l=>
   have e1:decide (((y::z::l).length:Int)=1)=false:=decide_eq_false (by simp only[List.length_cons];omega)
   have e3:decide (y::z::l=[T])=false:=by simp
   simp only
   rw[e1,e3,Bool.and_false]
   simp[aT]
theorem ml {F:Nat} {t:Token} (hF:200000<F):c8 F t=some (ik t.Kind t.S):=by
 unfold c8
 by_cases h200:200<t.S.length
 have hp:ik t.Kind t.S=false:=by
  cases hp:ik t.Kind t.S with
  | false=>rfl
  | true=>have:=jW hp;omega
 rw[if_pos (decide_eq_true (by omega)),hp]
 rw[if_neg (by simp;omega),vi (by omega) (by omega),Option.bind_some]
 have hwl:=tk t.Kind t.S
 obtain⟨res,b0⟩:=Lx.total _ 0 (s7 t.Kind t.S) (Nat.le_refl _)
 rw[B2 (by omega) (by omega) b0,Option.bind_some,B3]
 congr 1
 cases hp:ik t.Kind t.S with
 | true=>
  have:=Lx.det b0 (CY hp)
  subst this
  simp[outR]
 | false=>
  cases res with
  | inr p=>simp[outR]
  | inl l=>
   have:decide (l=[(⟨t.Kind,0,t.S⟩:Token)])=false:=by
    simp only[decide_eq_false_iff_not]
    intro hx
    rw[hx] at b0
    rw[C2 rfl b0] at hp;cases hp
   show (_&&decide (l=[(⟨t.Kind,0,t.S⟩:Token)]))=false
   rw[this,Bool.and_false]
def wt (t:Token):Str:=s7 t.Kind t.S
def nX (l:List Token):Str:=(l.map fun t=>32::wt t).flatten
def fK:List Token->Str
 | []=>[]
 | t::l=>wt t++nX l
def sz (l:List Token):Nat:=(l.map fun t=>(wt t).length+1).sum
theorem Bj (a b:List Token):sz (a++b)=sz a+sz b:=by unfold sz;rw[List.map_append,List.sum_append]
theorem yS (t:Token) (l:List Token):sz (t::l)=(wt t).length+1+sz l:=rfl
theorem F7 (l:List Token):(nX l).length=sz l:=by
 induction l with
 | nil=>rfl
 | cons t l ih=>
  unfold nX sz at *
  simp only[List.map_cons,List.flatten_cons,List.length_append,List.length_cons,List.sum_cons,ih]
theorem tP (t:Token) (l:List Token):(fK (t::l)).length+1=sz (t::l):=by
 unfold fK
 rw[List.length_append,F7,yS];omega
theorem F8 (a b:List Token):nX (a++b)=nX a++nX b:=by unfold nX;rw[List.map_append,List.flatten_append]
theorem El (a:List Token) (t:Token):fK (a++[t])=(if a=[] then [] else fK a++[32])++wt t:=by
 cases a with
 | nil=>simp[fK,nX]
 | cons x a=>
  rw[if_neg (by simp)]
  simp only[List.cons_append,fK,F8]
  simp[nX]
theorem GH (l:List Token):Lib.join (l.map wt) [32]=fK l:=by
 cases l with
 | nil=>rfl
 | cons t l=>
  rw[List.map_cons,Lib.join_cons]
  unfold fK nX Lib.joinTail
  rw[List.map_map]
  rfl
def uw (l:List Token):Bool:=l.all fun t=>ik t.Kind t.S
theorem F9 {l:List Token} (h:uw l=true):sz l<=163*l.length:=by
 induction l with
 | nil=>exact Nat.le_refl 0
 | cons t l ih=>
  unfold uw at h ih
  rw[List.all_cons,Bool.and_eq_true] at h
  have h1:=jW h.1
  have h2:=tk t.Kind t.S
  have:=ih h.2
  rw[yS,List.length_cons]
  unfold wt;omega
def zJ (l:List Token):Str×Int:=if uw l=true then (if 100001<sz l then ([],2) else (fK l,0)) else ([],1)
theorem qT (a b:List Token):uw (a++b)=(uw a&&uw b):=List.all_append
theorem w8 (t:Token):uw [t]=ik t.Kind t.S:=by simp[uw]
theorem F6 {F:Nat} {l:List Token} (hl:l.length<=100000) (hF:∀ t∈l,t.S.length+200000<F) (hF2:200000<F) (hs:∀ t∈l,t.S.length<=40000000):jt F l=some (zJ l):=by
 unfold jt
 refine ar.eq (ar.bind (ar.ea3 (l:=l) (Q:=fun o:(List Str×Int)⊕(Str×Int)=>(uw l=true/\o=.inl (l.map wt,(sz l:Int)-1))∨(uw l=false/\o=.inr ([],1))) (fun pre a b=>uw pre=true/\a=pre.map wt/\b=(sz pre:Int)-1) (by omega) (by omega) ⟨rfl,rfl,rfl⟩ (fun pre x post a b e hx hI=>?_) (fun a b hI=>.inl ⟨hI.1,by rw[hI.2.1,hI.2.2]⟩)) (fun o ho=>?_))
 obtain⟨h1,rfl,rfl⟩:=hI
 have hm:x∈l:=by rw[e];simp
 have hlen:pre.length+post.length+1=l.length:=by rw[e];simp;omega
 rw[hx,Option.bind_some,q7 (hF x hm) (hs x hm),Option.bind_some]
 cases hp:ik x.Kind x.S with
 | false=>
  rw[if_pos (by rfl)]
  refine ar.some (.inr ⟨_,rfl,.inr ⟨?_,rfl⟩⟩)
  rw[e,qT,show x::post=[x]++post from rfl,qT,w8,hp];simp
 | true=>
  have h2:=F9 h1
  have h3:=jW hp
  have h4:=tk x.Kind x.S
  have hF3:=hF x hm
  rw[if_neg (by simp),xb (by omega) (by omega),Option.bind_some,ff (by simp;omega),Option.bind_some]
  have e1:((pre.map wt++[s7 x.Kind x.S]).length:Int)-1=(pre.length:Int):=by simp
  have e2:aS (pre.map wt++[s7 x.Kind x.S]) (pre.length:Int)=some (s7 x.Kind x.S):=by
   have:=idx?_at (pre.map wt) [] (s7 x.Kind x.S)
   rw[List.length_map] at this
   exact this
  simp only[bA]
  rw[e1,wr (z:=(pre.length:Int)) (by omega) (by omega),e2,Option.bind_some,wr (z:=((s7 x.Kind x.S).length:Int)+1) (by omega) (by omega)]
  refine ar.some (.inl ⟨_,_,rfl,?_,?_,?_⟩)
  rw[qT,w8,h1,hp];rfl
  rw[List.map_append];rfl
  rw[Bj,show sz [x]=(wt x).length+1 from rfl]
  unfold wt
  rw[jY (by omega) (by omega)]
  omega
 unfold zJ
 rcases ho with ⟨h,rfl⟩|⟨h,rfl⟩
 rw[if_pos h]
 simp only[cW,bQ]
 by_cases h2:100001<sz l
 rw[if_pos h2,if_pos (decide_eq_true (by omega))]
 exact ar.some rfl
 rw[if_neg h2,if_neg (by simp;omega)]
 have hj:kO F (l.map wt) [32]=some (fK l):=by
  unfold kO CB
  rw[GH,if_pos]
  refine⟨by simp;omega,?_⟩
  cases l with
  | nil=>simp[fK]
  | cons t l=>have:=tP t l;omega
 rw[hj]
 exact ar.some rfl
 rw[h,if_neg (by simp)]
 exact ar.some rfl
theorem D6 {F:Nat} {l:List Token} (hl:l.length<=100000) (hF2:200000<F):fc F l=some ⟨(zJ l).1,(zJ l).2⟩:=by
 unfold fc
 refine ar.eq (ar.bind (ar.find (l:=l) (c:=fun t=>!ik t.Kind t.S) (r:=fun _=>(⟨[],1⟩:mi)) (Q:=fun o:Unit⊕mi=>(uw l=true/\o=.inl ())∨(uw l=false/\o=.inr ⟨[],1⟩)) (by omega) (by omega) (fun h=>.inl ⟨?_,rfl⟩) (fun pre x post e h hx=>.inr ⟨?_,rfl⟩) (fun i x hx=>?_)) (fun o ho=>?_))
 exact List.all_eq_true.2 fun t ht=>by have:=h t ht;simpa using this
 rw[e,qT,show x::post=[x]++post from rfl,qT,w8]
 have:ik x.Kind x.S=false:=by simpa using hx
 rw[this];simp
 rw[hx,Option.bind_some,ml hF2,Option.bind_some]
 unfold zJ
 rcases ho with ⟨h,rfl⟩|⟨h,rfl⟩
 rw[if_pos h]
 simp only[cW]
 refine ar.bind (ar.ea2 (l:=l) (Q:=fun o:Str⊕mi=>(¬ 100001<sz l/\o=.inl (fK l))∨(100001<sz l/\o=.inr ⟨[],2⟩)) (fun pre out=>out=fK pre/\sz pre<=100001) (by omega) (by omega) ⟨rfl,by decide⟩ (fun pre x post out e hx hI=>?_) (fun out hI=>.inl ⟨by omega,by rw[hI.1]⟩)) (fun o ho=>?_)
 obtain⟨rfl,h1⟩:=hI
 have hm:x∈l:=by rw[e];simp
 have hp:ik x.Kind x.S=true:=by
  have:=List.all_eq_true.1 h x hm
  exact this
 have h3:=jW hp
 have h4:=tk x.Kind x.S
 have hjl:(fK pre).length<=sz pre:=by
  cases pre with
  | nil=>simp[fK]
  | cons t pre=>have:=tP t pre;omega
 have hsz:sz l=sz pre+((wt x).length+1+sz post):=by rw[e,Bj,yS]
 have e1:(if decide (0<(pre.length:Int))=true then (Option.bind (gU (fK pre) [32]) fun b0=>some b0) else some (fK pre))=some (if pre=[] then [] else fK pre++[32]):=by
  cases pre with
  | nil=>rfl
  | cons t pre=>
   rw[if_pos (decide_eq_true (by simp only[List.length_cons];omega)),ff (by simp only[List.length_cons,List.length_nil] at *;omega),Option.bind_some,if_neg (by simp)]
 rw[e1,Option.bind_some,hx,Option.bind_some,vi (by omega) (by omega),Option.bind_some]
 have e2:(if pre=[] then [] else fK pre++[32]).length<=100003:=by
  split
  simp
  simp;omega
 rw[ff (by omega),Option.bind_some]
 have e3:(if pre=[] then [] else fK pre++[32])++s7 x.Kind x.S=fK (pre++[x]):=(El pre x).symm
 rw[e3]
 have e4:(fK (pre++[x])).length+1=sz (pre++[x]):=by
  cases pre with
  | nil=>exact tP x []
  | cons t pre=>exact tP t (pre++[x])
 have e5:sz (pre++[x])=sz pre+((wt x).length+1):=by rw[Bj];rfl
 by_cases h100:100000<(fK (pre++[x])).length
 rw[if_pos (decide_eq_true (by omega))]
 refine ar.some (.inr ⟨_,rfl,.inr ⟨by omega,rfl⟩⟩)
 rw[if_neg (by simp;omega)]
 refine ar.some (.inl ⟨_,rfl,rfl,by omega⟩)
 rcases ho with ⟨h2,rfl⟩|⟨h2,rfl⟩
 rw[if_neg h2];exact ar.some rfl
 rw[if_pos h2];exact ar.some rfl
 rw[h,if_neg (by simp)]
 exact ar.some rfl
end Go.Proofs.YtbcdabflmkgkiaaGreatDoor
namespace Go.Proofs.YtbcdabflmkgkiaaGreatDoor
open Go.Sk
end Go.Proofs.YtbcdabflmkgkiaaGreatDoor
namespace Go.Sk
theorem Ax {n d g:Nat} (hg:g=Nat.gcd n d) (h0:0<g):Nat.gcd (n/g) (d/g)=1:=by
 obtain⟨a,ha⟩:g ∣ n:=hg▸Nat.gcd_dvd_left n d
 obtain⟨b,hb⟩:g ∣ d:=hg▸Nat.gcd_dvd_right n d
 have e1:n/g=a:=by rw[ha,Nat.mul_div_cancel_left _ h0]
 have e2:d/g=b:=by rw[hb,Nat.mul_div_cancel_left _ h0]
 rw[e1,e2]
 have e3:=Nat.gcd_mul_left g a b
 rw[← ha,← hb,← hg] at e3
 have e4:g*1=g*Nat.gcd a b:=by omega
 exact (Nat.eq_of_mul_eq_mul_left h0 e4).symm
theorem Cl {n d:Int} (h0:0<d) (hc:Nat.gcd n.natAbs d.natAbs=1):(Rat.divInt n d).num=n/\((Rat.divInt n d).den:Int)=d:=by
 have key:=Rat.num_divInt_den ⟨n,d.natAbs,by omega,hc⟩
 have e:((d.natAbs:Nat):Int)=d:=by omega
 dsimp only at key
 rw[e] at key
 rw[key]
 exact⟨rfl,e⟩
def nV (n d:Int):Int:=if d<0 then -(Nat.gcd n.natAbs d.natAbs:Nat) else (Nat.gcd n.natAbs d.natAbs:Nat)
theorem red {n d:Int} (hd:d≠0):nV n d≠0/\(Rat.divInt n d).num*nV n d=n/\((Rat.divInt n d).den:Int)*nV n d=d:=by
 have g0:0<Nat.gcd n.natAbs d.natAbs:=Nat.gcd_pos_of_pos_right _ (by omega)
 have hc:=Ax (n:=n.natAbs) (d:=d.natAbs) rfl g0
 have d1:=Nat.div_mul_cancel (Nat.gcd_dvd_left n.natAbs d.natAbs)
 have d2:=Nat.div_mul_cancel (Nat.gcd_dvd_right n.natAbs d.natAbs)
 generalize hg:Nat.gcd n.natAbs d.natAbs=g at *
 generalize n.natAbs/g=a at *
 generalize hb:d.natAbs/g=b at *
 have b0:0<b:=by
  rcases Nat.eq_zero_or_pos b with e|e
  subst e;omega
  exact e
 have e0:nV n d=if d<0 then -(g:Int) else g:=by unfold nV;rw[hg]
 have b2:(a:Int)*g=n.natAbs:=by rw[← d1];simp
 have d2':(b:Int)*g=d.natAbs:=by rw[← d2];simp
 obtain⟨x,hx,hn⟩:∃ x:Int,x.natAbs=a/\x*nV n d=n:=by
  rw[e0]
  by_cases h1:d<0
  by_cases h2:n<0
  exact⟨a,by omega,by rw[if_pos h1,Int.mul_neg,b2];omega⟩
  exact⟨-a,by omega,by rw[if_pos h1,Int.mul_neg,Int.neg_mul,b2];omega⟩
  by_cases h2:n<0
  exact⟨-a,by omega,by rw[if_neg h1,Int.neg_mul,b2];omega⟩
  exact⟨a,by omega,by rw[if_neg h1,b2];omega⟩
 have hdd:(b:Int)*nV n d=d:=by
  rw[e0]
  by_cases h1:d<0
  rw[if_pos h1,Int.mul_neg,d2'];omega
  rw[if_neg h1,d2'];omega
 have hgs:nV n d≠0:=by rw[e0];split<;>omega
 have hq:Rat.divInt n d=Rat.divInt x b:=by
  rw[Rat.divInt_eq_divInt_iff hd (by omega)]
  generalize nV n d=G at *
  subst hn;subst hdd
  rw[Int.mul_assoc,Int.mul_comm G]
 have b1:=Cl (n:=x) (d:=b) (by omega) (by rw[hx];exact hc)
 rw[hq,b1.1,b1.2]
 exact⟨hgs,hn,hdd⟩
def cV (b:Int) (l:List Int):Prop:=∀ i,0<=dg l i/\dg l i<b
def MM:Int:=4294967296 ^ 16
theorem xW:MM=13407807929942597099574024998205846127479365820592393377723561443721764030073546976801874298166903427690031858186486050853753882811946569946433649006084096:=by decide +kernel
theorem BI:0<MM:=by rw[xW];decide
def av (w:aZ):Int:=ds 4294967296 (dg w.l) 16
def u7 (z:Int):aZ:=.of ((List.range 16).map fun i=>nd 4294967296 z i)
theorem toA_l (z:Int):(u7 z).l=(List.range 16).map fun i=>nd 4294967296 z i:=aZ.Be (by simp)
theorem EU (z:Int) {i:Nat} (h:i<16):dg (u7 z).l i=nd 4294967296 z i:=by
 rw[toA_l]
 unfold dg
 rw[List.getD_eq_getElem?_getD,List.getElem?_map,List.getElem?_range h]
 rfl
theorem z6 (b z:Int) (hb:0<b) (i:Nat):0<=nd b z i/\nd b z i<b:=⟨Int.emod_nonneg _ (by omega),Int.emod_lt_of_pos _ hb⟩
theorem mG (z:Int):cV 4294967296 (u7 z).l:=fun i=>by
 by_cases h:i<16
 rw[EU z h];exact z6 _ _ (by decide) i
 rw[sn (by rw[aZ.cj];omega)];decide
theorem kz (z:Int):av (u7 z)=z%MM:=by
 unfold av
 rw[dR (g:=nd 4294967296 z) fun i hi=>EU z hi,EM (by decide)]
 rfl
theorem gr {w:aZ} (h:cV 4294967296 w.l):0<=av w/\av w<MM:=⟨eo (by decide) fun i _=>(h i).1,qp (by decide) fun i _=>h i⟩
theorem BG {v w:aZ} (hv:cV 4294967296 v.l) (hw:cV 4294967296 w.l) (h:av v=av w):v=w:=by
 rw[← aZ.zL]
 refine FN rfl fun i hi=>?_
 exact Bz (by decide) (fun i _=>hv i) (fun i _=>hw i) h i hi
theorem qv {w:aZ} (h:cV 4294967296 w.l):u7 (av w)=w:=by
 refine BG (mG _) h ?_
 rw[kz]
 exact Int.emod_eq_of_lt (gr h).1 (gr h).2
theorem yM {w:aZ} {z:Int} (h:cV 4294967296 w.l) (hz:av w=z):w=u7 z:=by rw[← hz,qv h]
theorem Dp {w:aZ} {z:Int} (h:cV 4294967296 w.l) (hz:av w=z%MM):w=u7 z:=BG h (mG z) (by rw[hz,kz])
theorem kC:cV 4294967296 aZ.zero.l:=fun i=>by
 have:aZ.zero.l=List.replicate 16 0:=rfl
 rw[this,dO];decide
theorem tF:av aZ.zero=0:=nK fun i _=>by
 have:aZ.zero.l=List.replicate 16 0:=rfl
 rw[this,dO]
theorem zero_eq:aZ.zero=u7 0:=yM kC tF
theorem mM {w:aZ} (h:cV 4294967296 w.l):w=aZ.zero↔av w=0:=⟨fun e=>by rw[e,tF],fun e=>BG h kC (by rw[e,tF])⟩
theorem jS {w:aZ} {i x:Int} (h:cV 4294967296 w.l) (h0:0<=i) (h1:i<16) (hx:0<=x/\x<4294967296):cV 4294967296 (w.set i x).l:=fun j=>by
 rw[aZ.jZ,jD (by rw[aZ.cj];omega)]
 split
 exact hx
 exact h j
theorem fp {w:aZ} {i x:Int} (h0:0<=i) (h1:i<16) (j:Nat):dg (w.set i x).l j=if j=i.toNat then x else dg w.l j:=by
 rw[aZ.jZ,jD (by rw[aZ.cj];omega)]
theorem yN {b x:Int} {f g:Nat->Int} {k:Nat} (h:∀ i,g i=if i=k then x else f i):ds b g (k+1)=ds b f k+x*b ^ k:=by
 show ds b g k+g k*b ^ k=_
 rw[dR (g:=f) fun i hi=>by rw[h i,if_neg (by omega)],h k,if_pos rfl]
theorem aZ.sP {b:Int} {w:aZ} {k:Nat} {x:Int} (h:k<16):ds b (dg (w.set (k:Int) x).l) (k+1)=ds b (dg w.l) k+x*b ^ k:=yN fun i=>by rw[fp (by omega) (by omega),Int.toNat_natCast]
theorem xz {b A Bb O c x c' ak bk:Int} {k:Nat} (h:A+Bb=O+c*b ^ k) (e:c+ak+bk=x+c'*b):(A+ak*b ^ k)+(Bb+bk*b ^ k)=(O+x*b ^ k)+c'*b ^ (k+1):=by
 rw[Int.pow_succ]
 grind
theorem vB {b A Bb O c x c' ak bk:Int} {k:Nat} (h:A+c*b ^ k=Bb+O) (e:ak-bk-c=x-c'*b):(A+ak*b ^ k)+c'*b ^ (k+1)=(Bb+bk*b ^ k)+(O+x*b ^ k):=by
 rw[Int.pow_succ]
 grind
theorem EN {b:Int} (hb:0<b) {f:Nat->Int} {n m:Nat} (hf:∀ i,0<=f i/\f i<b):ds b f (n+m)/b ^ n=ds b (fun i=>f (n+i)) m:=by
 have h1:=eo hb (f:=f) (n:=n) fun i _=>(hf i).1
 have h2:=qp hb (f:=f) (n:=n) fun i _=>hf i
 rw[gp,Int.add_mul_ediv_left _ _ (by have hp:0<b ^ n:=Int.pow_pos hb;omega),Int.ediv_eq_zero_of_lt h1 h2,Int.zero_add]
theorem FM {b:Int} (hb:0<b) {f:Nat->Int} {n i:Nat} (hi:i<n) (hf:∀ i,0<=f i/\f i<b):nd b (ds b f n) i=f i:=by
 obtain⟨m,rfl⟩:∃ m,n=i+(m+1):=⟨n-i-1,by omega⟩
 unfold nd
 rw[EN hb hf,lP]
 have h0:=hf (i+0)
 rw[Int.add_mul_emod_self_left,Int.emod_eq_of_lt h0.1 h0.2]
 rfl
theorem qN {b:Int} (hb:1<=b) {i j:Nat} (h:i<=j):b ^ i<=b ^ j:=by
 obtain⟨d,rfl⟩:∃ d,j=i+d:=⟨j-i,by omega⟩
 have h1:0<b ^ d:=Int.pow_pos (by omega)
 have h2:0<b ^ i:=Int.pow_pos (by omega)
 rw[Int.pow_add]
 have h3:b ^ i*1<=b ^ i*b ^ d:=Int.mul_le_mul_of_nonneg_left (by omega) (by omega)
 omega
end Go.Sk
namespace Go.Proofs.YtbcdabflmkgkiaaGreatDoor
open Go Go.Sk
theorem plus_y {F:Nat} (hF:100<F) {a b:aZ} (ha:cV 4294967296 a.l) (hb:cV 4294967296 b.l):qD F a b=some (u7 (av a+av b),decide (av a+av b<MM)):=by
 refine ar.eq ?_
 unfold qD
 refine ar.bind (P:=fun r=>cV 4294967296 r.1.l/\0<=r.2/\r.2<=1/\av a+av b=av r.1+r.2*MM) (ar.rounds 16 (fun k s=>s.2.2=(k:Int)/\cV 4294967296 s.1.l/\0<=s.2.1/\s.2.1<=1/\ds 4294967296 (dg a.l) k+ds 4294967296 (dg b.l) k=ds 4294967296 (dg s.1.l) k+s.2.1*4294967296 ^ k) (by omega) ⟨rfl,kC,by decide,by decide,rfl⟩ ?_) ?_
 rintro k ⟨out,c,i⟩ hk ⟨rfl,b0,b1,b2,hs⟩
 dsimp only at b0 b1 b2 hs
 dsimp only[iJ]
 refine ar.ite (fun h=>?_) (fun h=>?_)
 have b3:k<16:=by have:=of_decide_eq_true h;omega
 refine ar.idx (by omega) (by rw[aZ.cj];omega) (ar.idx (by omega) (by rw[aZ.cj];omega) (ar.ln (ar.idx (by omega) (by rw[aZ.cj];omega) (ar.ln (ar.some (.inl ⟨_,rfl,?_,b3⟩))))))
 have h1:=ha k
 have h2:=hb k
 simp only[dY,Int.toNat_natCast,gH,l9,cM]
 refine⟨by omega,jS b0 (by omega) (by omega) (by constructor<;>omega),by omega,by omega,?_⟩
 rw[dG,dG,aZ.sP b3]
 exact xz hs (by omega)
 have b3:k=16:=by have:=of_decide_eq_false h;omega
 subst b3
 exact ar.some (.inr ⟨_,rfl,b0,b1,b2,hs⟩)
 rintro⟨out,c⟩ ⟨b0,b1,b2,hs⟩
 dsimp only at b0 b1 b2 hs
 have hr:=gr b0
 refine ar.some ?_
 have e1:out=u7 (av a+av b):=Dp b0 (by rw[hs,Int.add_mul_emod_self_right,Int.emod_eq_of_lt hr.1 hr.2])
 rw[← e1]
 congr 1
 rw[decide_eq_decide]
 rw[xW] at *
 omega
theorem y5 {F:Nat} (hF:100<F) {a b:aZ} (ha:cV 4294967296 a.l) (hb:cV 4294967296 b.l) (hle:av b<=av a):j5 F a b=some (u7 (av a-av b)):=by
 refine ar.eq ?_
 unfold j5
 refine ar.bind (P:=fun r=>cV 4294967296 r.l/\∃ c:Int,0<=c/\c<=1/\av a+c*MM=av b+av r) (ar.rounds 16 (fun k s=>s.2.2=(k:Int)/\cV 4294967296 s.1.l/\0<=s.2.1/\s.2.1<=1/\ds 4294967296 (dg a.l) k+s.2.1*4294967296 ^ k=ds 4294967296 (dg b.l) k+ds 4294967296 (dg s.1.l) k) (by omega) ⟨rfl,kC,by decide,by decide,rfl⟩ ?_) ?_
 rintro k ⟨out,c,i⟩ hk ⟨rfl,b0,b2,b3,hs⟩
 dsimp only at b0 b2 b3 hs
 dsimp only[iJ]
 refine ar.ite (fun h=>?_) (fun h=>?_)
 have b1:k<16:=by have:=of_decide_eq_true h;omega
 refine ar.idx (by omega) (by rw[aZ.cj];omega) (ar.idx (by omega) (by rw[aZ.cj];omega) (ar.ln (ar.idx (by omega) (by rw[aZ.cj];omega) (ar.ln (ar.some (.inl ⟨_,rfl,?_,b1⟩))))))
 have h1:=ha k
 have h2:=hb k
 simp only[dY,Int.toNat_natCast,gH,l9,cM]
 refine⟨by omega,jS b0 (by omega) (by omega) (by constructor<;>omega),by omega,by omega,?_⟩
 rw[dG,dG,aZ.sP b1]
 exact vB hs (by omega)
 have b1:k=16:=by have:=of_decide_eq_false h;omega
 subst b1
 exact ar.some (.inr ⟨_,rfl,b0,_,b2,b3,hs⟩)
 rintro out ⟨b0,c,b2,b3,hs⟩
 have hr:=gr b0
 have ra:=gr ha
 have rb:=gr hb
 refine ar.some (yM b0 ?_)
 have:c=0:=by
  rcases (by omega:c=0∨c=1) with h|h
  exact h
  subst h;omega
 subst this
 omega
theorem tT {b:Int} (hb:0<b) {f g:Nat->Int} {n k:Nat} (hk:k<n) (hf:∀ i,0<=f i/\f i<b) (hg:∀ i,0<=g i/\g i<b) (he:∀ i,k<i->i<n->f i=g i) (hl:f k<g k):ds b f n<ds b g n:=by
 have e:n=(k+1)+(n-(k+1)):=by omega
 rw[e,gp,gp b g]
 have h1:ds b (fun i=>f (k+1+i)) (n-(k+1))=ds b (fun i=>g (k+1+i)) (n-(k+1)):=dR fun i hi=>he _ (by omega) (by omega)
 rw[h1]
 have h2:ds b f (k+1)<ds b g (k+1):=by
  rw[dG,dG]
  have h3:=qp hb (n:=k) fun i _=>hf i
  have h4:=eo hb (n:=k) fun i _=>(hg i).1
  have h5:(f k+1)*b ^ k<=g k*b ^ k:=Int.mul_le_mul_of_nonneg_right hl (Int.le_of_lt (Int.pow_pos hb))
  rw[Int.add_mul,Int.one_mul] at h5
  omega
 omega
theorem Et (F:Nat) (x y:Int):jL F x y=some (if x<y then -1 else if y<x then 1 else 0):=by
 unfold jL ja
 simp
 split
 rfl
 split<;>rfl
theorem CZ {F:Nat} (hF:100<F) {a b:aZ} (ha:cV 4294967296 a.l) (hb:cV 4294967296 b.l):mo F a b=some (if av a<av b then -1 else if av b<av a then 1 else 0):=by
 refine ar.eq ?_
 unfold mo
 refine ar.bind (P:=fun r=>match r with|.inl _=>a=b|.inr y=>y=if av a<av b then -1 else if av b<av a then 1 else 0) (ar.rounds 16 (fun k s=>s=15-(k:Int)/\∀ i,15<i+k->i<16->dg a.l i=dg b.l i) (by omega) ⟨rfl,fun i h1 h2=>by omega⟩ ?_) ?_
 rintro k i hk ⟨rfl,he⟩
 refine ar.ite (fun h=>?_) (fun h=>?_)
 have b2:k<16:=by have:=of_decide_eq_true h;omega
 have et:(15-(k:Int)).toNat=15-k:=by omega
 refine ar.idx (by omega) (by rw[aZ.cj];omega) (ar.idx (by omega) (by rw[aZ.cj];omega) (ar.ite (fun hne=>?_) (fun heq=>?_)))
 refine ar.idx (by omega) (by rw[aZ.cj];omega) (ar.idx (by omega) (by rw[aZ.cj];omega) (ar.aP (Et _ _ _) (ar.some (.inr ⟨_,rfl,?_⟩))))
 have b0:=of_decide_eq_true hne
 simp only[dY,et] at b0 ⊢
 rcases Int.lt_trichotomy (dg a.l (15-k)) (dg b.l (15-k)) with h1|h1|h1
 have:=tT (b:=4294967296) (n:=16) (k:=15-k) (by decide) (by omega) ha hb (fun i h2 h3=>he i (by omega) h3) h1
 have h':av a<av b:=this
 rw[if_pos h1,if_pos h']
 exact absurd h1 b0
 have:=tT (b:=4294967296) (n:=16) (k:=15-k) (by decide) (by omega) hb ha (fun i h2 h3=>(he i (by omega) h3).symm) h1
 have h':av b<av a:=this
 rw[if_neg (by omega),if_pos h1,if_neg (by omega),if_pos h']
 have b1:idx a.l (15-(k:Int))=idx b.l (15-(k:Int)):=by simpa using heq
 simp only[dY,et] at b1
 refine ar.some (.inl ⟨_,rfl,⟨by rw[cM];omega,fun i h1 h2=>?_⟩,b2⟩)
 by_cases e:i=15-k
 rw[e];exact b1
 exact he i (by omega) h2
 have b2:k=16:=by have:=of_decide_eq_false h;omega
 subst b2
 refine ar.some (.inr ⟨_,rfl,?_⟩)
 show a=b
 rw[← aZ.zL]
 exact FN rfl fun i hi=>he i (by omega) hi
 rintro (u|y) h
 have h':a=b:=h
 subst h'
 exact ar.some (by simp)
 exact ar.some h
theorem sL {F:Nat} (hF:100<F) {w:aZ}:ar (iP F w) fun n=>0<=n/\n<=16/\(∀ i,n.toNat<=i->i<16->dg w.l i=0)/\(0<n->dg w.l (n.toNat-1)≠0):=by
 unfold iP
 refine ar.bind (P:=fun n=>0<=n/\n<=16/\(∀ i,n.toNat<=i->i<16->dg w.l i=0)/\(0<n->dg w.l (n.toNat-1)≠0)) (ar.rounds 16 (fun k s=>s=16-(k:Int)/\∀ i,16-k<=i->i<16->dg w.l i=0) (by omega) ⟨rfl,fun i h1 h2=>by omega⟩ ?_) (fun x h=>ar.some h)
 rintro k n hk ⟨rfl,he⟩
 by_cases hk':k<16
 have hw:i64.wrap (16-(k:Int)-1)=15-(k:Int):=by rw[cM];omega
 have et:(15-(k:Int)).toNat=15-k:=by omega
 have hd:decide (0<16-(k:Int))=true:=decide_eq_true (by omega)
 refine ar.g1 hd (ar.idx (by rw[hw];omega) (by rw[hw,aZ.cj];omega) ?_)
 rw[hw,hd]
 simp only[dY,et,Bool.true_and]
 refine ar.ite (fun h=>?_) (fun h=>?_)
 have h':=of_decide_eq_true h
 refine ar.some (.inl ⟨_,rfl,⟨by omega,fun i h1 h2=>?_⟩,hk'⟩)
 by_cases e:i=15-k
 rw[e];exact h'
 exact he i (by omega) h2
 have h':=of_decide_eq_false h
 refine ar.some (.inr ⟨_,rfl,by omega,by omega,fun i h1 h2=>he i (by omega) h2,fun _=>?_⟩)
 have:(16-(k:Int)).toNat-1=15-k:=by omega
 rw[this];exact h'
 have hk2:k=16:=by omega
 subst hk2
 refine ar.g0 (by decide) ?_
 refine ar.iff (by simp) (ar.some (.inr ⟨_,rfl,by decide,by decide,fun i _ h2=>he i (by omega) h2,fun h=>by simp at h⟩))
end Go.Proofs.YtbcdabflmkgkiaaGreatDoor
namespace Go.Sk
def bad:bY:=⟨true,false,aZ.zero⟩
def dh (z:Int):bY:=if -MM<z/\z<MM then ⟨false,decide (z<0),u7 (if z<0 then -z else z)⟩ else bad
def vD:Option Int->bY
 | some z=>dh z
 | none=>bad
def mD (x:bY):Prop:=cV 4294967296 x.W.l
def gJ (x:bY):Bool:=!x.Bad&&(!decide (x.W=aZ.zero) || !x.Neg)
def sv (x:bY):Int:=if x.Neg=true then -av x.W else av x.W
def iv (x:bY):Option Int:=if gJ x=true then some (sv x) else none
theorem yP:mD bad:=kC
theorem bM (z:Int):mD (dh z):=by
 unfold dh;split
 exact mG _
 exact yP
theorem iv_bad:iv bad=none:=rfl
theorem uc {m:Int} (h0:0<=m) (h1:m<MM):u7 m=aZ.zero↔m=0:=by
 rw[mM (mG _),kz,Int.emod_eq_of_lt h0 h1]
theorem oL {z:Int} (h:-MM<z/\z<MM):gJ (dh z)=true:=by
 unfold dh
 rw[if_pos h]
 by_cases hz:z<0
 have:¬ u7 (-z)=aZ.zero:=by rw[uc (by omega) (by omega)];omega
 simp[gJ,hz,this]
 simp[gJ,hz]
theorem o9 {z:Int} (h:-MM<z/\z<MM):iv (dh z)=some z:=by
 unfold iv
 rw[if_pos (oL h)]
 unfold dh sv
 rw[if_pos h]
 by_cases hz:z<0
 simp only[hz,decide_true,if_true]
 rw[kz,Int.emod_eq_of_lt (by omega) (by omega)];simp
 simp only[hz,decide_false,if_false]
 rw[kz,Int.emod_eq_of_lt (by omega) (by omega)];simp
theorem nM {z:Int} (h:¬ (-MM<z/\z<MM)):dh z=bad:=if_neg h
theorem zT {x:bY} (h:mD x):-MM<sv x/\sv x<MM:=by
 have:=gr h
 unfold sv
 split<;>omega
theorem big_sv {x:bY} (h:mD x) (hg:gJ x=true):x=dh (sv x):=by
 have hr:=zT h
 have ha:=gr h
 unfold dh
 rw[if_pos hr]
 simp only[gJ,Bool.and_eq_true,Bool.not_eq_true',Bool.or_eq_true,decide_eq_false_iff_not] at hg
 obtain⟨hb,hz⟩:=hg
 cases x with
 | mk B N W=>
  dsimp only[sv] at *
  subst hb
  cases N with
  | false=>
   have h1:¬ av W<0:=by omega
   simp only[Bool.false_eq_true,if_false,h1,decide_false]
   rw[qv h]
  | true=>
   have hw:¬ W=aZ.zero:=by simpa using hz
   have h2:av W≠0:=fun e=>hw ((mM h).2 e)
   have h1:-av W<0:=by omega
   simp only[if_true,h1,decide_true]
   rw[Int.neg_neg,qv h]
theorem dF {x:bY} {z:Int} (h:mD x) (hz:iv x=some z):gJ x=true/\x=dh z /\ -MM<z/\z<MM:=by
 unfold iv at hz
 split at hz
 next hg=>
  cases hz
  exact⟨hg,big_sv h hg,zT h⟩
 simp at hz
theorem dN {x:bY} (hz:iv x=none):gJ x=false:=by
 unfold iv at hz
 split at hz
 simp at hz
 next hg=>simpa using hg
theorem big_Bad {z:Int}:(dh z).Bad = !decide (-MM<z/\z<MM):=by
 unfold dh
 split
 next h=>simp[h]
 next h=>simp[h,bad]
theorem ET (o:Option Int):mD (vD o):=by cases o;exact yP;exact bM _
end Go.Sk
namespace Go.Proofs.YtbcdabflmkgkiaaGreatDoor
open Go Go.Sk
theorem Dw (F:Nat) (x:bY):mu F x=some (if x.Bad=true then decide (x.W=aZ.zero) && !x.Neg else !decide (x.W=aZ.zero) || !x.Neg):=by
 unfold mu
 split<;>rfl
theorem Fa {F:Nat} (l:List bY) (hF:l.length<F) (hl:l.length<=1000):fN F l=some (l.all gJ):=by
 refine ar.eq ?_
 unfold fN
 refine ar.bind (P:=fun r=>match r with|.inl _=>l.all gJ=true|.inr y=>y=false/\l.all gJ=false) (ar.rounds l.length (fun k s=>s=(k:Int)/\(l.take k).all gJ=true) hF ⟨rfl,by simp⟩ ?_) ?_
 rintro k i hk ⟨rfl,he⟩
 refine ar.ite (fun h=>?_) (fun h=>?_)
 have b0:k<l.length:=by have:=of_decide_eq_true h;omega
 refine ar.idx (by omega) (by omega) ?_
 have hx:idx l (k:Int)=l[k]:=by
  have:=idx_eq (xs:=l) (i:=(k:Int)) (by omega) (by omega)
  rw[Int.toNat_natCast,List.getElem?_eq_getElem b0] at this
  exact (zaa this).symm
 rw[hx]
 have b1:(l.take (k+1)).all gJ=((l.take k).all gJ&&gJ l[k]):=by
  rw[List.take_add_one,List.getElem?_eq_getElem b0,List.all_append];simp
 have b2:gJ l[k]=false->l.all gJ=false:=fun hg=>by
  rw[List.all_eq_false];exact⟨l[k],List.getElem_mem b0,by simp[hg]⟩
 cases hb:l[k].Bad with
 | true=>
  refine ar.g0 (by rfl) (ar.zA (by simp) (ar.some (.inr ⟨_,rfl,rfl,b2 (by simp[gJ,hb])⟩)))
 | false=>
  refine ar.g1 (by rfl) (ar.aP (Dw _ _) ?_)
  have hg:gJ l[k]=(!decide (l[k].W=aZ.zero) || !l[k].Neg):=by simp[gJ,hb]
  simp only[hb,Bool.false_eq_true,if_false,← hg]
  refine ar.ite (fun h=>?_) (fun h=>?_)
  exact ar.some (.inr ⟨_,rfl,rfl,b2 (by simpa using h)⟩)
  refine ar.some (.inl ⟨_,rfl,⟨by rw[cM];omega,?_⟩,b0⟩)
  rw[b1,he];simpa using h
 have b0:k=l.length:=by have:=of_decide_eq_false h;omega
 subst b0
 rw[List.take_length] at he
 exact ar.some (.inr ⟨_,rfl,he⟩)
 rintro (u|y) h
 exact ar.some h.symm
 exact ar.some (by rw[h.1,h.2])
theorem zM {F:Nat} (hF:100<F) (x:bY):fN F [x]=some (gJ x):=by rw[Fa _ (by simp;omega) (by simp)];simp
theorem CE {F:Nat} (hF:100<F) (x y:bY):fN F [x,y]=some (gJ x&&gJ y):=by rw[Fa _ (by simp;omega) (by simp)];simp
theorem lJ (F:Nat):gD F=some bad:=rfl
theorem gK (F:Nat) (neg:Bool) {w:aZ} (h:cV 4294967296 w.l):de F neg w=some (dh (if neg=true then -av w else av w)):=by
 have hr:=gr h
 unfold de dh
 have hz:=mM h
 cases neg with
 | false=>
  have h1:¬ av w<0:=by omega
  simp only[Bool.false_eq_true,if_false,h1,decide_false,Bool.false_and]
  rw[if_pos (by omega),qv h]
 | true=>
  simp only[if_true,Bool.true_and]
  rw[if_pos (by omega)]
  by_cases e:av w=0
  have hw:=hz.2 e
  rw[e]
  simp[hw,zero_eq]
  have hw:¬ w=aZ.zero:=fun h=>e (hz.1 h)
  have h1:-av w<0:=by omega
  simp only[h1,decide_true,if_true,Int.neg_neg,qv h]
  simp[hw]
theorem di {z:Int} (h:-MM<z/\z<MM):av (dh z).W=(if z<0 then -z else z)/\(dh z).Neg=decide (z<0):=by
 unfold dh
 rw[if_pos h]
 refine⟨?_,rfl⟩
 dsimp only
 rw[kz,Int.emod_eq_of_lt]<;>split<;>omega
def two (f:Int->Int->Option Int) (x y:bY):bY:=match iv x,iv y with
 | some a,some b=>vD (f a b)
 | _,_=>bad
def one (f:Int->Option Int) (x:bY):bY:=match iv x with
 | some a=>vD (f a)
 | none=>bad
theorem po {f:Int->Int->Option Int} {a b:Int} (ha:-MM<a/\a<MM) (hb:-MM<b/\b<MM):two f (dh a) (dh b)=vD (f a b):=by simp only[two,o9 ha,o9 hb]
theorem tx {f:Int->Option Int} {a:Int} (ha:-MM<a/\a<MM):one f (dh a)=vD (f a):=by simp only[one,o9 ha]
theorem Add_y {F:Nat} (hF:100<F) {x y:bY} (hx:mD x) (hy:mD y):rz F x y=some (two (fun a b=>some (a+b)) x y):=by
 refine ar.eq ?_
 unfold rz two
 refine ar.aP (CE hF x y) ?_
 cases ha:iv x with
 | none=>simp only[dN ha,Bool.false_and,Bool.not_false,if_true];exact ar.aP (lJ F) (ar.some rfl)
 | some a=>
  cases hb:iv y with
  | none=>simp only[dN hb,Bool.and_false,Bool.not_false,if_true];exact ar.aP (lJ F) (ar.some rfl)
  | some b=>
   obtain⟨ga,rfl,ra⟩:=dF hx ha
   obtain⟨gb,rfl,rb⟩:=dF hy hb
   obtain⟨wa,na⟩:=di ra
   obtain⟨wb,nb⟩:=di rb
   simp only[ga,gb,Bool.and_self,Bool.not_true,Bool.false_eq_true,if_false,vD]
   refine ar.ite (fun hn=>?_) (fun hn=>?_)
   have b1:(a<0)=(b<0):=by
    rw[na,nb] at hn
    exact propext (decide_eq_decide.1 (eq_of_beq hn))
   refine ar.aP (plus_y hF (bM a) (bM b)) ?_
   dsimp only[bQ]
   rw[wa,wb]
   have hs:(if a<0 then -a else a)+(if b<0 then -b else b)=if a+b<0 then -(a+b) else a+b:=by
    by_cases h1:a<0
    have h2:b<0:=by rw[← b1];exact h1
    rw[if_pos h1,if_pos h2,if_pos (by omega)];omega
    have h2:¬ b<0:=by rw[← b1];exact h1
    rw[if_neg h1,if_neg h2,if_neg (by omega)]
   rw[hs]
   refine ar.ite (fun h=>?_) (fun h=>?_)
   refine ar.aP (lJ F) (ar.some ?_)
   have h':¬ (if a+b<0 then -(a+b) else a+b)<MM:=by simpa using h
   exact (nM (by split at h'<;>omega)).symm
   have h':(if a+b<0 then -(a+b) else a+b)<MM:=by simpa using h
   refine ar.aP (gK F _ (mG _)) (ar.some ?_)
   rw[kz,Int.emod_eq_of_lt (by split<;>omega) h',na]
   congr 1
   by_cases h1:a<0
   have h2:b<0:=by rw[← b1];exact h1
   simp only[h1,decide_true,if_true];rw[if_pos (by omega)];omega
   have h2:¬ b<0:=by rw[← b1];exact h1
   simp only[h1,decide_false,Bool.false_eq_true,if_false];rw[if_neg (by omega)]
   have b1:(a<0)≠(b<0):=by
    rw[na,nb] at hn
    intro e
    have:decide (a<0)=decide (b<0):=decide_eq_decide.2 (Iff.of_eq e)
    rw[this] at hn;simp at hn
   have b0:(a<0/\¬ b<0)∨(¬ a<0/\b<0):=by
    by_cases h1:a<0
    by_cases h2:b<0
    exact absurd (propext ⟨fun _=>h2,fun _=>h1⟩) b1
    exact .inl ⟨h1,h2⟩
    by_cases h2:b<0
    exact .inr ⟨h1,h2⟩
    exact absurd (propext ⟨fun h=>absurd h h1,fun h=>absurd h h2⟩) b1
   refine ar.aP (CZ hF (bM a) (bM b)) ?_
   rw[wa,wb]
   refine ar.ite (fun h=>?_) (fun h=>?_)
   have h':=of_decide_eq_true h
   have hle:(if b<0 then -b else b)<=(if a<0 then -a else a):=by
    by_cases h3:(if a<0 then -a else a)<(if b<0 then -b else b)
    rw[if_pos h3] at h';omega
    omega
   refine ar.aP (y5 hF (bM a) (bM b) (by rw[wa,wb];exact hle)) (ar.aP (gK F _ (mG _)) (ar.some ?_))
   rw[wa,wb,kz,Int.emod_eq_of_lt (by omega) (by split<;>split<;>omega),na]
   congr 1
   rcases b0 with ⟨h1,h2⟩|⟨h1,h2⟩
   simp only[h1,h2,if_true,if_false,decide_true];omega
   simp only[h1,h2,if_true,if_false,decide_false,Bool.false_eq_true];omega
   have h':=of_decide_eq_false h
   have hle:(if a<0 then -a else a)<=(if b<0 then -b else b):=by
    by_cases h3:(if a<0 then -a else a)<(if b<0 then -b else b)
    omega
    rw[if_neg h3] at h';split at h'<;>omega
   refine ar.aP (y5 hF (bM b) (bM a) (by rw[wa,wb];exact hle)) (ar.aP (gK F _ (mG _)) (ar.some ?_))
   rw[wa,wb,kz,Int.emod_eq_of_lt (by omega) (by split<;>split<;>omega),nb]
   congr 1
   rcases b0 with ⟨h1,h2⟩|⟨h1,h2⟩
   simp only[h1,h2,if_true,if_false,decide_false,Bool.false_eq_true];omega
   simp only[h1,h2,if_true,if_false,decide_true];omega
end Go.Proofs.YtbcdabflmkgkiaaGreatDoor
namespace Go.Sk
end Go.Sk
namespace Go.Proofs.YtbcdabflmkgkiaaGreatDoor
open Go Go.Sk
set_option maxRecDepth 100000
def FF:Nat:=13407807929942597099574024998205846127479365820592393377723561443721764030073546976801874298166903427690031858186486050853753882811946569946433649006084097
theorem FF1:100<FF:=by decide +kernel
theorem FF2:100000<FF:=by decide +kernel
end Go.Proofs.YtbcdabflmkgkiaaGreatDoor
namespace Go.Sk
theorem yW {i j:Nat} (h:i<=j):(2:Int) ^ i<=2 ^ j:=by
 have:=Nat.pow_le_pow_right (n:=2) (by decide) h
 exact_mod_cast this
def fX (m:Int):Int:=if m<=0 then 0 else (Nat.log2 m.toNat:Int)+1
theorem r4 {m:Int} (h:0<m):1<=fX m/\2 ^ ((fX m).toNat-1)<=m/\m<2 ^ (fX m).toNat:=by
 obtain⟨k,rfl⟩:∃ k:Nat,m=k:=⟨m.toNat,by omega⟩
 have hk:k≠0:=by omega
 have e:fX (k:Int)=(Nat.log2 k:Int)+1:=by unfold fX;rw[if_neg (by omega),Int.toNat_natCast]
 rw[e]
 have e1:((Nat.log2 k:Int)+1).toNat=Nat.log2 k+1:=by omega
 rw[e1,Nat.add_sub_cancel]
 refine⟨by omega,?_,?_⟩
 have:=Nat.log2_self_le hk
 exact_mod_cast this
 have:=@Nat.lt_log2_self k
 exact_mod_cast this
theorem AX {m n:Int} (hn:1<=n) (h1:2 ^ (n.toNat-1)<=m) (h2:m<2 ^ n.toNat):fX m=n:=by
 have hm:0<m:=Int.lt_of_lt_of_le (Int.pow_pos (by decide)) h1
 obtain⟨k,rfl⟩:∃ k:Nat,m=k:=⟨m.toNat,by omega⟩
 have hk:k≠0:=by omega
 unfold fX
 rw[if_neg (by omega),Int.toNat_natCast]
 have a1:2 ^ (n.toNat-1)<=k:=by exact_mod_cast h1
 have a2:k<2 ^ n.toNat:=by exact_mod_cast h2
 have b1:=(Nat.le_log2 hk).2 a1
 have b2:=(Nat.log2_lt hk).2 a2
 omega
theorem Ev {m:Int} (h:m<=0):fX m=0:=if_pos h
theorem q9 (m:Int):0<=fX m:=by unfold fX;split<;>omega
theorem rQ {m:Int} {k:Nat} (h:m<2 ^ k):fX m<=k:=by
 by_cases h0:m<=0
 rw[Ev h0];omega
 have h1:=r4 (by omega:0<m)
 rcases (by omega:(k:Int)<fX m∨fX m<=k) with h2|h2
 have h3:(2:Int) ^ k<=2 ^ ((fX m).toNat-1):=yW (by omega)
 omega
 exact h2
theorem lt_blen {m:Int}:m<2 ^ (fX m).toNat:=by
 by_cases h0:m<=0
 have:(0:Int)<2 ^ (fX m).toNat:=Int.pow_pos (by decide)
 omega
 exact (r4 (by omega)).2.2
theorem zd {x v:Int} {k:Nat} (hv:x/2 ^ k=v) (h0:0<v):fX x=k+fX v:=by
 have hp:(0:Int)<2 ^ k:=Int.pow_pos (by decide)
 obtain⟨h1,h2,h3⟩:=r4 h0
 have hx1:v*2 ^ k<=x:=by rw[← hv];exact Int.ediv_mul_le _ (by omega)
 have hx2:x<(v+1)*2 ^ k:=by rw[← hv];exact Int.lt_ediv_add_one_mul_self _ hp
 refine AX (by omega) ?_ ?_
 have e:(k+fX v).toNat-1=((fX v).toNat-1)+k:=by omega
 rw[e,Int.pow_add]
 exact Int.le_trans (Int.mul_le_mul_of_nonneg_right h2 (by omega)) hx1
 have e:(k+fX v).toNat=(fX v).toNat+k:=by omega
 rw[e,Int.pow_add]
 exact Int.lt_of_lt_of_le hx2 (Int.mul_le_mul_of_nonneg_right (by omega) (by omega))
theorem ior_nat (x y:Nat) (hx:x<2 ^ 64) (hy:y<2 ^ 64):lx .u64 (x:Int) (y:Int)=((x ||| y:Nat):Int):=by
 have h:x ||| y<2 ^ 64:=Nat.or_lt_two_pow hx hy
 unfold lx
 have e1:(BitVec.ofInt 64 (x:Int)).toNat=x:=by simp[BitVec.toNat_ofInt];omega
 have e2:(BitVec.ofInt 64 (y:Int)).toNat=y:=by simp[BitVec.toNat_ofInt];omega
 show u64.wrap ((BitVec.ofInt 64 (x:Int) ||| BitVec.ofInt 64 (y:Int)).toNat:Int)=_
 rw[BitVec.toNat_or,e1,e2,gH]
 omega
theorem pB {a b:Int} (k:Nat) (ha:0<=a) (ha':a<18446744073709551616) (hk:a%2 ^ k=0) (hb:0<=b) (hb':b<2 ^ k) (hb2:b<18446744073709551616):lx .u64 a b=a+b:=by
 obtain⟨x,rfl⟩:∃ x:Nat,a=x:=⟨a.toNat,by omega⟩
 obtain⟨y,rfl⟩:∃ y:Nat,b=y:=⟨b.toNat,by omega⟩
 rw[ior_nat x y (by omega) (by omega)]
 have hy:y<2 ^ k:=by exact_mod_cast hb'
 have hx:x%2 ^ k=0:=by exact_mod_cast hk
 have e:x=2 ^ k*(x/2 ^ k):=by have:=Nat.div_add_mod x (2 ^ k);omega
 rw[e,← Nat.two_pow_add_eq_or_of_lt hy]
 exact Int.natCast_add _ _
theorem GI (a b:Int):lx .u64 a b=lx .u64 b a:=by
 unfold lx
 rw[BitVec.or_comm]
theorem BF {a b:Int}:av ⟨a,b,0,0,0,0,0,0,0,0,0,0,0,0,0,0⟩=a+b*4294967296:=by
 simp[av,ds,dg,aZ.l]
theorem Bq {a b:Int} (ha:0<=a/\a<4294967296) (hb:0<=b/\b<4294967296):cV 4294967296 (aZ.l ⟨a,b,0,0,0,0,0,0,0,0,0,0,0,0,0,0⟩):=fun i=>by
 match i with
 | 0=>exact ha
 | 1=>exact hb
 | n+2=>
  have:dg (aZ.l ⟨a,b,0,0,0,0,0,0,0,0,0,0,0,0,0,0⟩) (n+2)=dg (List.replicate 14 0) n:=rfl
  rw[this,dO];decide
def Dz (z:Int):Int:=if z=0 then 0 else if z<0 then -1 else 1
def aI (z:Int):Int:=if z<0 then -z else z
theorem yQ:18446744073709551616<MM:=by rw[xW];decide
end Go.Sk
namespace Go.Proofs.YtbcdabflmkgkiaaGreatDoor
open Go Go.Sk
theorem Neg_y {F:Nat} (hF:100<F) {x:bY} (hx:mD x):ry F x=some (one (fun a=>some (-a)) x):=by
 refine ar.eq ?_
 unfold ry one
 refine ar.aP (zM hF x) ?_
 cases ha:iv x with
 | none=>simp only[dN ha,Bool.not_false,if_true];exact ar.aP (lJ F) (ar.some rfl)
 | some a=>
  obtain⟨ga,rfl,ra⟩:=dF hx ha
  obtain⟨wa,na⟩:=di ra
  simp only[ga,Bool.not_true,Bool.false_eq_true,if_false,vD]
  refine ar.aP (gK F _ (bM a)) (ar.some ?_)
  rw[wa,na]
  congr 1
  by_cases h:a<0
  simp[h]
  simp[h]
theorem Abs_y {F:Nat} (hF:100<F) {x:bY} (hx:mD x):rA F x=some (one (fun a=>some (aI a)) x):=by
 refine ar.eq ?_
 unfold rA one
 refine ar.aP (zM hF x) ?_
 cases ha:iv x with
 | none=>simp only[dN ha,Bool.not_false,if_true];exact ar.aP (lJ F) (ar.some rfl)
 | some a=>
  obtain⟨ga,rfl,ra⟩:=dF hx ha
  obtain⟨wa,na⟩:=di ra
  simp only[ga,Bool.not_true,Bool.false_eq_true,if_false,vD]
  refine ar.aP (gK F _ (bM a)) (ar.some ?_)
  simp only[wa,Bool.false_eq_true,if_false]
  rfl
theorem one_in (f:Int->Option Int) (x:bY):mD (one f x):=by unfold one;split;exact ET _;exact yP
theorem two_in (f:Int->Int->Option Int) (x y:bY):mD (two f x y):=by unfold two;split;exact ET _;exact yP
theorem Sub_y {F:Nat} (hF:100<F) {x y:bY} (hx:mD x) (hy:mD y):ru F x y=some (two (fun a b=>some (a-b)) x y):=by
 refine ar.eq ?_
 unfold ru
 refine ar.aP (Neg_y hF hy) (ar.aP (Add_y hF hx (one_in _ _)) (ar.some ?_))
 unfold two
 cases hb:iv y with
 | none=>
  have:one (fun a=>some (-a)) y=bad:=by simp only[one,hb]
  rw[this,iv_bad]
  cases iv x<;>rfl
 | some b=>
  obtain⟨gb,rfl,rb⟩:=dF hy hb
  rw[tx rb]
  simp only[vD]
  rw[o9 (by omega)]
  cases iv x with
  | none=>rfl
  | some a=>simp only[vD,Int.sub_eq_add_neg]
theorem FX {F:Nat} (hF:100<F) {x:bY} (hx:mD x):kD F x=some (match iv x with|some a=>Dz a|none=>0):=by
 refine ar.eq ?_
 unfold kD
 refine ar.aP (zM hF x) ?_
 cases ha:iv x with
 | none=>simp only[dN ha,Bool.not_false,Bool.true_or,if_true];exact ar.some rfl
 | some a=>
  obtain⟨ga,rfl,ra⟩:=dF hx ha
  obtain⟨wa,na⟩:=di ra
  simp only[ga,Bool.not_true,Bool.false_or,mM (bM a),wa,na]
  refine ar.ite (fun h=>?_) (fun h=>?_)
  have h':=of_decide_eq_true h
  have:a=0:=by split at h'<;>omega
  subst this
  exact ar.some rfl
  have h':=of_decide_eq_false h
  have h0:a≠0:=fun e=>h' (by rw[e];rfl)
  unfold Dz
  refine ar.ite (fun h=>?_) (fun h=>?_)
  have:=of_decide_eq_true h;exact ar.some (by rw[if_neg h0,if_pos this])
  have:=of_decide_eq_false h;exact ar.some (by rw[if_neg h0,if_neg this])
end Go.Proofs.YtbcdabflmkgkiaaGreatDoor
namespace Go.Sk
def len8:Str:=[0,1,2,2,3,3,3,3,4,4,4,4,4,4,4,4,5,5,5,5,5,5,5,5,5,5,5,5,5,5,5,5,6,6,6,6,6,6,6,6,6,6,6,6,6,6,6,6,6,6,6,6,6,6,6,6,6,6,6,6,6,6,6,6,7,7,7,7,7,7,7,7,7,7,7,7,7,7,7,7,7,7,7,7,7,7,7,7,7,7,7,7,7,7,7,7,7,7,7,7,7,7,7,7,7,7,7,7,7,7,7,7,7,7,7,7,7,7,7,7,7,7,7,7,7,7,7,7,8,8,8,8,8,8,8,8,8,8,8,8,8,8,8,8,8,8,8,8,8,8,8,8,8,8,8,8,8,8,8,8,8,8,8,8,8,8,8,8,8,8,8,8,8,8,8,8,8,8,8,8,8,8,8,8,8,8,8,8,8,8,8,8,8,8,8,8,8,8,8,8,8,8,8,8,8,8,8,8,8,8,8,8,8,8,8,8,8,8,8,8,8,8,8,8,8,8,8,8,8,8,8,8,8,8,8,8,8,8,8,8,8,8,8,8,8,8,8,8,8,8,8,8,8,8,8,8]
theorem GD:∀ v:_root_.Fin 256,((len8.getD v.val 0).toNat:Int)=fX v.val:=by decide +kernel
theorem len8_at {v:Int} (h0:0<=v) (h1:v<256):((idx len8 v).toNat:Int)=fX v:=by
 obtain⟨k,rfl⟩:∃ k:Nat,v=k:=⟨v.toNat,by omega⟩
 exact GD ⟨k,by omega⟩
theorem GC:len8.length=256:=by decide +kernel
theorem p8:(2:Int) ^ 8=256:=by decide
theorem Cr:(2:Int) ^ 32=4294967296:=by decide
theorem p64:(2:Int) ^ 64=18446744073709551616:=by decide
theorem pow32 (m:Nat):(4294967296:Int) ^ m=2 ^ (32*m):=by rw[Int.pow_mul];rfl
theorem iK.fp {w:iK} {i x:Int} (h0:0<=i) (h1:i<32) (j:Nat):dg (w.set i x).l j=if j=i.toNat then x else dg w.l j:=by
 rw[iK.jZ,jD (by rw[iK.cj];omega)]
theorem iK.sP {b:Int} {w:iK} {k:Nat} {x:Int} (h:k<32):ds b (dg (w.set (k:Int) x).l) (k+1)=ds b (dg w.l) k+x*b ^ k:=yN fun i=>by rw[iK.fp (by omega) (by omega),Int.toNat_natCast]
theorem iK.jS {w:iK} {i x:Int} (h:cV 4294967296 w.l) (h0:0<=i) (h1:i<32) (hx:0<=x/\x<4294967296):cV 4294967296 (w.set i x).l:=fun j=>by
 rw[iK.fp h0 h1]
 split
 exact hx
 exact h j
theorem iK.kC:cV 4294967296 iK.zero.l:=fun i=>by
 have:iK.zero.l=List.replicate 32 0:=rfl
 rw[this,dO];decide
theorem iK.CI (i:Nat):dg iK.zero.l i=0:=by
 have:iK.zero.l=List.replicate 32 0:=rfl
 rw[this,dO]
theorem mC {a b m:Int} (ha:0<=a/\a<m) (hb:0<=b/\b<m):0<=a*b/\a*b<=(m-1)*(m-1):=⟨Int.mul_nonneg ha.1 hb.1,Int.mul_le_mul (by omega) (by omega) hb.1 (by omega)⟩
theorem Gy {b O0 O c x c' ai bk ok V:Int} {i k:Nat} (h:O+c*b ^ (i+k)=O0+ai*b ^ i*V) (e:c+ai*bk+ok=x+c'*b):(O+x*b ^ (i+k))+c'*b ^ (i+k+1)=(O0+ok*b ^ (i+k))+ai*b ^ i*(V+bk*b ^ k):=by
 rw[Int.pow_succ]
 have e1:b ^ (i+k)=b ^ i*b ^ k:=Int.pow_add _ _ _
 rw[e1] at *
 grind
end Go.Sk
namespace Go.Proofs.YtbcdabflmkgkiaaGreatDoor
open Go Go.Sk
theorem Dy (F:Nat) {x:Int} (h0:0<=x) (h1:x<4294967296):jw F x=some (fX x):=by
 refine ar.eq ?_
 unfold jw
 refine ar.bind (P:=fun r=>0<=r.1/\r.1<65536/\0<=r.2/\r.2<=16/\fX x=r.2+fX r.1) ?_ ?_
 refine ar.ite (fun h=>?_) (fun h=>?_)
 have:=of_decide_eq_true h
 refine ar.some ⟨by omega,by omega,by omega,by omega,?_⟩
 exact zd (k:=16) rfl (by omega)
 have:=of_decide_eq_false h
 exact ar.some ⟨by omega,by omega,by omega,by omega,by dsimp only;omega⟩
 rintro⟨y,n⟩ ⟨y0,y1,n0,n1,e⟩
 dsimp only at y0 y1 n0 n1 e
 refine ar.bind (P:=fun r=>0<=r.1/\r.1<256/\0<=r.2/\r.2<=24/\fX x=r.2+fX r.1) ?_ ?_
 refine ar.ite (fun h=>?_) (fun h=>?_)
 have:=of_decide_eq_true h
 have e2:=zd (x:=y) (v:=y/256) (k:=8) rfl (by omega)
 refine ar.some ⟨by omega,by omega,?_,?_,?_⟩<;>dsimp only<;>rw[cM]<;>omega
 have:=of_decide_eq_false h
 exact ar.some ⟨by omega,by omega,by omega,by omega,by dsimp only;omega⟩
 rintro⟨z,m⟩ ⟨z0,z1,m0,m1,e2⟩
 dsimp only at z0 z1 m0 m1 e2
 have hw:u8.wrap z=z:=by rw[wu8];omega
 dsimp only[bQ]
 rw[hw]
 refine ar.idx (l:=len8) z0 (by rw[GC];omega) (ar.ln (ar.some ?_))
 rw[len8_at z0 z1]
 have hb:=rQ (m:=z) (k:=8) (by rw[p8];omega)
 have hb0:=q9 z
 rw[jY (z:=fX z) (by omega) (by omega),cM] 
 omega
theorem GW {m:Nat} {v:Int} (hm:m<=15) (h0:0<=v) (h1:v<=((32:Nat):Int)):i64.wrap (i64.wrap (32*(m:Int))+v)=((32*m:Nat):Int)+v:=by
 simp only[cM]
 omega
theorem Bits_y {F:Nat} (hF:100<F) {x:bY} (hx:mD x):qE F x=some (match iv x with|some a=>fX (aI a)|none=>0):=by
 refine ar.eq ?_
 unfold qE
 refine ar.bind (sL hF) fun n hn=>?_
 obtain⟨n0,n1,nz,nt⟩:=hn
 refine ar.aP (zM hF x) ?_
 cases ha:iv x with
 | none=>simp only[dN ha,Bool.not_false,Bool.true_or,if_true];exact ar.some rfl
 | some a=>
  obtain⟨ga,rfl,ra⟩:=dF hx ha
  obtain⟨wa,na⟩:=di ra
  have b0:aI a=ds 4294967296 (dg (dh a).W.l) n.toNat:=by
   have h1:aI a=av (dh a).W:=by rw[wa];rfl
   rw[h1]
   exact mL (by omega) nz
  simp only[ga,Bool.not_true,Bool.false_or]
  refine ar.ite (fun h=>?_) (fun h=>?_)
  have h':=of_decide_eq_true h
  subst h'
  refine ar.some ?_
  rw[b0];rfl
  have h':=of_decide_eq_false h
  have hm:n.toNat=(n.toNat-1)+1:=by omega
  have hw:i64.wrap (n-1)=((n.toNat-1:Nat):Int):=by rw[cM];omega
  rw[hw]
  have hd:=bM a (n.toNat-1)
  have hd0:=nt (by omega)
  refine ar.ln (ar.idx (by omega) (by rw[aZ.cj];omega) ?_)
  rw[dY,Int.toNat_natCast]
  refine ar.aP (Dy F hd.1 hd.2) (ar.some ?_)
  have hb:=rQ (m:=dg (dh a).W.l (n.toNat-1)) (k:=32) (by rw[Cr];omega)
  have hb0:=q9 (dg (dh a).W.l (n.toNat-1))
  have key:fX (aI a)=((32*(n.toNat-1):Nat):Int)+fX (dg (dh a).W.l (n.toNat-1)):=by
   refine zd ?_ (by omega)
   have hp:(0:Int)<2 ^ (32*(n.toNat-1)):=Int.pow_pos (by decide)
   have hlo:=qp (b:=4294967296) (by decide) (f:=dg (dh a).W.l) (n:=n.toNat-1) fun i _=>bM a i
   have b1:=eo (b:=4294967296) (by decide) (f:=dg (dh a).W.l) (n:=n.toNat-1) fun i _=>(bM a i).1
   rw[b0,hm,dG,pow32,Nat.add_sub_cancel]
   rw[pow32] at hlo
   rw[Int.add_mul_ediv_right _ _ (by omega),Int.ediv_eq_zero_of_lt b1 hlo,Int.zero_add]
  show i64.wrap (i64.wrap (32*((n.toNat-1:Nat):Int))+fX (dg (dh a).W.l (n.toNat-1)))=fX (aI a)
  rw[key]
  exact GW (by omega) hb0 hb
theorem Bg (F:Nat) {n:Int} (h0:-9223372036854775808<=n) (h1:n<=9223372036854775807):kq F n=some (dh n):=by
 refine ar.eq ?_
 unfold kq
 refine ar.bind (P:=fun u=>u=aI n) ?_ ?_
 unfold aI
 refine ar.ite (fun h=>?_) (fun h=>?_)
 have:=of_decide_eq_true h
 refine ar.ln (ar.some ?_)
 rw[if_pos this]
 simp only[gH];omega
 have:=of_decide_eq_false h
 refine ar.some ?_
 rw[if_neg this]
 simp only[gH];omega
 rintro u rfl
 have hu:0<=aI n/\aI n<=9223372036854775808:=by unfold aI;split<;>omega
 refine ar.ln ?_
 refine ar.aP (gK F _ (Bq (by simp only[l9];omega) (by simp only[l9];omega))) (ar.some ?_)
 rw[BF]
 simp only[l9]
 congr 1
 unfold aI at *
 by_cases h:n<0
 simp only[h,decide_true,if_true] at *;omega
 simp only[h,decide_false,Bool.false_eq_true,if_false] at *;omega
theorem D0 {w:aZ} (h:cV 4294967296 w.l) (hv:av w<18446744073709551616):w.a0+w.a1*4294967296=av w:=by
 have e:=gp 4294967296 (dg w.l) 2 14
 have h2:ds 4294967296 (dg w.l) 2=w.a0+w.a1*4294967296:=by simp[ds,dg,aZ.l]
 have h3:=eo (b:=4294967296) (by decide) (f:=fun i=>dg w.l (2+i)) (n:=14) fun i _=>(h (2+i)).1
 have a0:=h 0
 have a1:=h 1
 have e0:dg w.l 0=w.a0:=rfl
 have e1:dg w.l 1=w.a1:=rfl
 rw[e0] at a0
 rw[e1] at a1
 have hav:av w=ds 4294967296 (dg w.l) (2+14):=rfl
 rw[hav] at hv ⊢
 rw[e,h2] at hv ⊢
 have hp:(4294967296:Int) ^ 2=18446744073709551616:=by decide
 rw[hp] at hv ⊢
 omega
theorem Dx {F:Nat} (hF:100<F) {x:bY} (hx:mD x):j6 F x=some (match iv x with|some a=>if -9223372036854775808<=a/\a<=9223372036854775807 then (a,true) else (0,false)|none=>(0,false)):=by
 refine ar.eq ?_
 unfold j6
 refine ar.aP (zM hF x) ?_
 cases ha:iv x with
 | none=>
  simp only[dN ha]
  exact ar.g0 (by rfl) (ar.zA (by rfl) (ar.some rfl))
 | some a=>
  obtain⟨ga,rfl,ra⟩:=dF hx ha
  obtain⟨wa,na⟩:=di ra
  simp only[ga]
  refine ar.g1 (by rfl) (ar.aP (Bits_y hF (bM a)) ?_)
  rw[o9 ra]
  simp only[Bool.not_true,Bool.false_or]
  refine ar.ite (fun h=>?_) (fun h=>?_)
  have h':=of_decide_eq_true h
  refine ar.some ?_
  rw[if_neg]
  intro hh
  have:=rQ (m:=aI a) (k:=64) (by rw[p64];unfold aI;split<;>omega)
  omega
  have h':=of_decide_eq_false h
  have hlt:aI a<18446744073709551616:=by
   have h2:=lt_blen (m:=aI a)
   have h3:(2:Int) ^ (fX (aI a)).toNat<=2 ^ 64:=yW (by omega)
   rw[p64] at h3
   omega
  have hs:=D0 (bM a) (by rw[wa];exact hlt)
  rw[wa] at hs
  have b0:=bM a 0
  have b1:=bM a 1
  have e0:dg (dh a).W.l 0=(dh a).W.a0:=rfl
  have e1:dg (dh a).W.l 1=(dh a).W.a1:=rfl
  rw[e0] at b0
  rw[e1] at b1
  have b2:aI a=if a<0 then -a else a:=rfl
  rw[← b2] at hs
  have habs0:0<=aI a:=by unfold aI;split<;>omega
  refine ar.vE ((dh a).W.a1*4294967296) (by simp only[gH];omega) (ar.vE (aI a) ?_ ?_)
  have e2:u64.wrap (dh a).W.a0=(dh a).W.a0:=by rw[gH];omega
  rw[e2,pB 32 (by omega) (by omega) (by rw[Cr];omega) b0.1 (by rw[Cr];omega) (by omega)]
  omega
  rw[na]
  refine ar.ite (fun h=>?_) (fun h=>?_)
  simp only[Bool.and_eq_true,decide_eq_true_eq] at h
  rw[if_pos h.1] at b2
  refine ar.ln (ar.some ?_)
  rw[if_pos (by omega)]
  simp only[gH,cM]
  congr 1
  omega
  refine ar.ite (fun h2=>?_) (fun h2=>?_)
  simp only[Bool.and_eq_true,Bool.not_eq_true',decide_eq_true_eq,decide_eq_false_iff_not] at h2
  rw[if_neg h2.1] at b2
  refine ar.some ?_
  rw[if_pos (by omega),cM]
  congr 1
  omega
  refine ar.some ?_
  rw[if_neg]
  intro hh
  by_cases h3:a<0
  rw[if_pos h3] at b2
  simp only[h3,decide_true,Bool.true_and,decide_eq_false_iff_not] at h
  omega
  rw[if_neg h3] at b2
  simp only[h3,decide_false,Bool.not_false,Bool.true_and,decide_eq_false_iff_not] at h2
  omega
theorem Gj {F:Nat} (hF:100000<F) {x:bY} (hx:mD x):mV F x=some (if x.Bad=true then decide (x.W=aZ.zero) && !x.Neg else !decide (x.W=aZ.zero) || !x.Neg):=by
 refine ar.eq ?_
 unfold mV
 refine ar.bind (P:=fun z=>z=decide (x.W=aZ.zero)) (ar.rounds 16 (fun k s=>s.2=(k:Int)/\(s.1=true↔∀ i,i<k->dg x.W.l i=0)) (by omega) ⟨rfl,by simp⟩ ?_) ?_
 rintro k ⟨z,kx⟩ hk ⟨rfl,hz⟩
 dsimp only at hz
 dsimp only[bQ]
 refine ar.ite (fun h=>?_) (fun h=>?_)
 have b0:k<16:=by have:=of_decide_eq_true h;omega
 cases z with
 | true=>
  refine ar.g1 rfl (ar.idx (by omega) (by rw[aZ.cj];omega) (ar.some (.inl ⟨_,rfl,⟨by dsimp only;rw[cM];omega,?_⟩,b0⟩)))
  simp only[dY,Int.toNat_natCast,Bool.true_and]
  constructor
  intro h1 i hi
  by_cases e:i=k
  rw[e];exact of_decide_eq_true h1
  exact hz.1 rfl i (by omega)
  intro h1;exact decide_eq_true (h1 k (by omega))
 | false=>
  refine ar.g0 rfl (ar.some (.inl ⟨_,rfl,⟨by dsimp only;rw[cM];omega,?_⟩,b0⟩))
  simp only[Bool.false_and,Bool.false_eq_true,false_iff]
  intro h1
  exact absurd (hz.2 fun i hi=>h1 i (by omega)) (by simp)
 have b0:k=16:=by have:=of_decide_eq_false h;omega
 subst b0
 refine ar.some (.inr ⟨_,rfl,?_⟩)
 rw[Bool.eq_iff_iff,hz,decide_eq_true_eq]
 constructor
 intro h1
 rw[mM hx]
 exact nK h1
 intro h1 i _
 rw[h1]
 have:aZ.zero.l=List.replicate 16 0:=rfl
 rw[this,dO]
 rintro z rfl
 refine ar.ite (fun h=>?_) (fun h=>?_)
 rw[h];exact ar.some rfl
 rw[h];exact ar.some rfl
theorem iG {F:Nat} (hF:100000<F) {x:bY} (hx:mD x):dH F x=some (gJ x):=by
 refine ar.eq ?_
 unfold dH
 refine ar.aP (Gj hF hx) (ar.some ?_)
 unfold gJ
 cases x.Bad<;>simp
end Go.Proofs.YtbcdabflmkgkiaaGreatDoor
namespace Go.Sk
theorem mulfin {c ai bk ok:Int} (h1:0<=c/\c<4294967296) (h2:0<=ai*bk/\ai*bk<=18446744065119617025) (h3:0<=ok/\ok<4294967296) (ha:0<=ai/\ai<4294967296) (hb:0<=bk/\bk<4294967296) :
 u64.wrap (c+u64.wrap (u64.wrap (u64.wrap ai*u64.wrap bk)+u64.wrap ok))=c+ai*bk+ok:=by
 have e1:u64.wrap ai=ai:=by rw[gH];omega
 have e2:u64.wrap bk=bk:=by rw[gH];omega
 rw[e1,e2]
 generalize ai*bk=p at *
 simp only[gH]
 omega
def EE (o:iK):aZ:=⟨o.a0,o.a1,o.a2,o.a3,o.a4,o.a5,o.a6,o.a7,o.a8,o.a9,o.a10,o.a11,o.a12,o.a13,o.a14,o.a15⟩
def yD (o:iK):aZ:=⟨o.Cs,o.a17,o.a18,o.a19,o.a20,o.a21,o.a22,o.a23,o.a24,o.a25,o.a26,o.a27,o.a28,o.a29,o.a30,o.a31⟩
theorem E6 (o:iK):(EE o).l=o.l.take 16:=rfl
theorem E9 (o:iK):(yD o).l=o.l.drop 16:=rfl
theorem C4 {o:iK} (h:cV 4294967296 o.l):cV 4294967296 (EE o).l:=fun i=>by
 rw[E6,pF];split
 exact h i
 decide
theorem C6 {o:iK} (h:cV 4294967296 o.l):cV 4294967296 (yD o).l:=fun i=>by
 rw[E9,Dt];exact h _
theorem halves (o:iK):ds 4294967296 (dg o.l) 32=av (EE o)+MM*av (yD o):=by
 rw[show (32:Nat)=16+16 from rfl,gp]
 have e1:ds 4294967296 (dg o.l) 16=av (EE o):=dR fun i hi=>by rw[E6,pF,if_pos hi]
 have e2:ds 4294967296 (fun i=>dg o.l (16+i)) 16=av (yD o):=dR fun i _=>by rw[E9,Dt]
 rw[e1,e2]
 rfl
theorem qU (a b:Int):aI (a*b)=aI a*aI b:=by
 unfold aI
 by_cases ha:a<0
 by_cases hb:b<0
 rw[if_pos ha,if_pos hb,if_neg (by have:=Int.mul_pos_of_neg_of_neg ha hb;omega),Int.neg_mul_neg]
 rw[if_pos ha,if_neg hb]
 have:=Int.mul_nonpos_of_nonpos_of_nonneg (Int.le_of_lt ha) (by omega:0<=b)
 by_cases h0:a*b<0
 rw[if_pos h0,Int.neg_mul]
 rw[if_neg h0,Int.neg_mul];omega
 by_cases hb:b<0
 rw[if_neg ha,if_pos hb]
 have:=Int.mul_nonpos_of_nonneg_of_nonpos (by omega:0<=a) (Int.le_of_lt hb)
 by_cases h0:a*b<0
 rw[if_pos h0,Int.mul_neg]
 rw[if_neg h0,Int.mul_neg];omega
 rw[if_neg ha,if_neg hb,if_neg (by have:=Int.mul_nonneg (by omega:0<=a) (by omega:0<=b);omega)]
theorem CQ {a b:Int} (h:(decide (a<0) != decide (b<0))=true):a*b = -(aI a*aI b):=by
 rw[← qU]
 unfold aI
 by_cases ha:a<0
 have hb:¬ b<0:=fun hb=>by simp[ha,hb] at h
 have:=Int.mul_nonpos_of_nonpos_of_nonneg (Int.le_of_lt ha) (by omega:0<=b)
 split<;>omega
 by_cases hb:b<0
 have:=Int.mul_nonpos_of_nonneg_of_nonpos (by omega:0<=a) (Int.le_of_lt hb)
 split<;>omega
 simp[ha,hb] at h
theorem zV {a b:Int} (h:(decide (a<0) != decide (b<0))=false):a*b=aI a*aI b:=by
 rw[← qU]
 unfold aI
 by_cases ha:a<0
 by_cases hb:b<0
 have:=Int.mul_pos_of_neg_of_neg ha hb
 rw[if_neg (by omega)]
 simp[ha,hb] at h
 have hb:¬ b<0:=fun hb=>by simp[ha,hb] at h
 have:=Int.mul_nonneg (by omega:0<=a) (by omega:0<=b)
 rw[if_neg (by omega)]
theorem tG {a:Int} (h:-MM<a/\a<MM):0<=aI a/\aI a<MM:=by unfold aI;split<;>omega
theorem absZ_in {a:Int}:(-MM<a/\a<MM)↔aI a<MM:=by unfold aI;split<;>omega
end Go.Sk
namespace Go.Proofs.YtbcdabflmkgkiaaGreatDoor
open Go Go.Sk
theorem Mul_y {F:Nat} (hF:100<F) {x y:bY} (hx:mD x) (hy:mD y):tn F x y=some (two (fun a b=>some (a*b)) x y):=by
 refine ar.eq ?_
 unfold tn two
 refine ar.aP (CE hF x y) ?_
 cases ha:iv x with
 | none=>simp only[dN ha,Bool.false_and,Bool.not_false,if_true];exact ar.aP (lJ F) (ar.some rfl)
 | some a=>
  cases hb:iv y with
  | none=>simp only[dN hb,Bool.and_false,Bool.not_false,if_true];exact ar.aP (lJ F) (ar.some rfl)
  | some b=>
   obtain⟨ga,rfl,ra⟩:=dF hx ha
   obtain⟨gb,rfl,rb⟩:=dF hy hb
   obtain⟨wa,na⟩:=di ra
   obtain⟨wb,nb⟩:=di rb
   have ia:cV 4294967296 (dh a).W.l:=bM a
   have ib:cV 4294967296 (dh b).W.l:=bM b
   have b2:av (dh a).W=aI a:=wa
   have b3:av (dh b).W=aI b:=wb
   clear wa wb ha hb hx hy
   simp only[ga,gb,Bool.and_self,Bool.not_true,Bool.false_eq_true,if_false,vD,na,nb]
   generalize (dh a).W=A at *
   generalize (dh b).W=B at *
   refine ar.bind (sL hF) fun n hn=>ar.bind (sL hF) fun m hm=>?_
   obtain⟨n0,n1,nz,_⟩:=hn
   obtain⟨m0,m1,mz,_⟩:=hm
   obtain⟨N,rfl⟩:∃ N:Nat,n=N:=⟨n.toNat,by omega⟩
   obtain⟨M,rfl⟩:∃ M:Nat,m=M:=⟨m.toNat,by omega⟩
   simp only[Int.toNat_natCast] at nz mz
   have hA:aI a=ds 4294967296 (dg A.l) N:=by rw[← b2];exact mL (by omega) nz
   have hB:aI b=ds 4294967296 (dg B.l) M:=by rw[← b3];exact mL (by omega) mz
   refine ar.bind (P:=fun out=>cV 4294967296 out.l/\ds 4294967296 (dg out.l) 32=aI a*aI b) (ar.rounds N (fun i s=>s.2=(i:Int)/\cV 4294967296 s.1.l/\(∀ j,i+M<=j->dg s.1.l j=0)/\ds 4294967296 (dg s.1.l) (i+M)=ds 4294967296 (dg A.l) i*aI b) (by omega) ⟨rfl,iK.kC,fun j _=>iK.CI j,?_⟩ ?_) ?_
   show ds 4294967296 (dg iK.zero.l) (0+M)=0*aI b
   rw[Int.zero_mul]
   exact nK fun j _=>iK.CI j
   rintro i ⟨o0,ix⟩ hi ⟨rfl,oin,oz,os⟩
   dsimp only at oin oz os
   dsimp only[bQ]
   refine ar.ite (fun h=>?_) (fun h=>?_)
   have b4:i<N:=by have:=of_decide_eq_true h;omega
   have hai:=ia i
   refine ar.bind (P:=fun o1=>cV 4294967296 o1.l/\(∀ j,i+1+M<=j->dg o1.l j=0)/\ds 4294967296 (dg o1.l) (i+1+M)=ds 4294967296 (dg A.l) (i+1)*aI b) ?_ ?_
   refine ar.bind (P:=fun r=>cV 4294967296 r.1.l/\0<=r.2/\r.2<4294967296/\(∀ j,i+M<=j->dg r.1.l j=dg o0.l j)/\ds 4294967296 (dg r.1.l) (i+M)+r.2*4294967296 ^ (i+M)=ds 4294967296 (dg o0.l) (i+M)+dg A.l i*4294967296 ^ i*ds 4294967296 (dg B.l) M)
    (ar.rounds M (fun k s=>s.2.2=(k:Int)/\cV 4294967296 s.1.l/\0<=s.2.1/\s.2.1<4294967296/\(∀ j,i+k<=j->dg s.1.l j=dg o0.l j)/\ds 4294967296 (dg s.1.l) (i+k)+s.2.1*4294967296 ^ (i+k)=ds 4294967296 (dg o0.l) (i+k)+dg A.l i*4294967296 ^ i*ds 4294967296 (dg B.l) k) (by omega) ⟨rfl,oin,Int.le_refl _,(by decide:(0:Int)<4294967296),fun _ _=>rfl,?_⟩ ?_) ?_
   show ds 4294967296 (dg o0.l) (i+0)+0*4294967296 ^ (i+0)=ds 4294967296 (dg o0.l) (i+0)+dg A.l i*4294967296 ^ i*0
   rw[Int.zero_mul,Int.mul_zero]
   rintro k ⟨o,c,kx⟩ hk ⟨rfl,pin,c0,c1,pk,ps⟩
   dsimp only at pin c0 c1 pk ps
   dsimp only[iJ]
   refine ar.ite (fun h2=>?_) (fun h2=>?_)
   have b5:k<M:=by have:=of_decide_eq_true h2;omega
   have hw:i64.wrap ((i:Int)+(k:Int))=((i+k:Nat):Int):=by rw[cM];omega
   have hbk:=ib k
   have hok:=pin (i+k)
   rw[hw]
   have b0:=mC hai hbk
   have b1:=mulfin ⟨c0,c1⟩ (by have e:((4294967296:Int)-1)*(4294967296-1)=18446744065119617025:=by decide
                               rw[e] at b0;exact b0) hok hai hbk
   have hlt:c+dg A.l i*dg B.l k+dg o.l (i+k)<=18446744073709551615:=by
    have e:((4294967296:Int)-1)*(4294967296-1)=18446744065119617025:=by decide
    rw[e] at b0
    omega
   refine ar.idx (by omega) (by rw[aZ.cj];omega) (ar.idx (by omega) (by rw[aZ.cj];omega) (ar.idx (by omega) (by rw[iK.cj];omega) (ar.ln (ar.idx (by omega) (by rw[iK.cj];omega) (ar.ln (ar.some (.inl ⟨_,rfl,?_,b5⟩)))))))
   simp only[dY,Int.toNat_natCast]
   rw[b1]
   generalize hp:dg A.l i*dg B.l k=p at *
   have hmb0:=b0.1
   clear b1 b0
   refine⟨by rw[cM];omega,iK.jS pin (by omega) (by omega) (by rw[l9];omega),by omega,by omega,fun j hj=>?_,?_⟩
   rw[iK.fp (by omega) (by omega),Int.toNat_natCast,if_neg (by omega)]
   exact pk j (by omega)
   have c2:=pk (i+k) (Nat.le_refl _)
   show ds 4294967296 (dg (iK.set o ((i+k:Nat):Int) _).l) (i+k+1)+_*4294967296 ^ (i+k+1)=ds 4294967296 (dg o0.l) (i+k+1)+dg A.l i*4294967296 ^ i*ds 4294967296 (dg B.l) (k+1)
   rw[iK.sP (by omega),dG 4294967296 (dg o0.l),dG 4294967296 (dg B.l),← c2]
   refine Gy ps ?_
   rw[hp,l9]
   omega
   have b5:k=M:=by have:=of_decide_eq_false h2;omega
   subst b5
   exact ar.some (.inr ⟨_,rfl,pin,c0,c1,pk,ps⟩)
   rintro⟨o,c⟩ ⟨pin,c0,c1,pk,ps⟩
   dsimp only at pin c0 c1 pk ps
   dsimp only[bQ]
   have hw:i64.wrap ((i:Int)+(M:Int))=((i+M:Nat):Int):=by rw[cM];omega
   rw[hw]
   refine ar.idx (by omega) (by rw[iK.cj];omega) (ar.some ?_)
   have hwc:u32.wrap c=c:=by rw[l9];omega
   rw[hwc]
   refine⟨iK.jS pin (by omega) (by omega) ⟨c0,c1⟩,fun j hj=>?_,?_⟩
   rw[iK.fp (by omega) (by omega),Int.toNat_natCast,if_neg (by omega),pk j (by omega),oz j (by omega)]
   have e:i+1+M=i+M+1:=by omega
   rw[e,iK.sP (by omega),ps,os,dG,← hB,Int.add_mul]
   rintro o1 ⟨h1,h2,h3⟩
   exact ar.some (.inl ⟨_,rfl,⟨by rw[cM];omega,h1,h2,h3⟩,b4⟩)
   have b4:i=N:=by have:=of_decide_eq_false h;omega
   subst b4
   refine ar.some (.inr ⟨_,rfl,oin,?_⟩)
   rw[hA,← os]
   exact mL (by omega) fun j h1 _=>oz j h1
   rintro out ⟨oin,os⟩
   rw[halves] at os
   have rl:=gr (C4 oin)
   have rh:=gr (C6 oin)
   refine ar.ln ?_
   show ar (if decide (yD out≠aZ.zero)=true then _ else _) _
   refine ar.ite (fun h=>?_) (fun h=>?_)
   have h':=of_decide_eq_true h
   have h1:av (yD out)≠0:=fun e=>h' ((mM (C6 oin)).2 e)
   refine ar.aP (lJ F) (ar.some ?_)
   refine (nM ?_).symm
   rw[absZ_in,qU,← os]
   have h2:MM*1<=MM*av (yD out):=Int.mul_le_mul_of_nonneg_left (by omega) (Int.le_of_lt BI)
   omega
   have h':yD out=aZ.zero:=by simpa using h
   have h1:av (yD out)=0:=by rw[h',tF]
   rw[h1,Int.mul_zero,Int.add_zero] at os
   show ar (Option.bind (de F (decide (a<0) != decide (b<0)) (EE out)) _) _
   refine ar.aP (gK F _ (C4 oin)) (ar.some ?_)
   rw[os]
   congr 1
   cases hs:(decide (a<0) != decide (b<0)) with
   | true=>rw[if_pos rfl,CQ hs]
   | false=>rw[if_neg (by simp),zV hs]
end Go.Proofs.YtbcdabflmkgkiaaGreatDoor
namespace Go.Sk
def lv (l:List Int):Int:=ds 65536 (dg l) l.length
def kT (l:List Int):Prop:=0<l.length->dg l (l.length-1)≠0
theorem wA {l:List Int} {n:Nat} (h:l.length<=n):ds 65536 (dg l) n=lv l:=mL h fun i h1 _=>sn h1
theorem E4:lv []=0:=rfl
theorem gh {l:List Int} (h:cV 65536 l):0<=lv l:=eo (by decide) fun i _=>(h i).1
theorem ve {l:List Int} (h:cV 65536 l):lv l<65536 ^ l.length:=qp (by decide) fun i _=>h i
theorem lv_ge {l:List Int} (h:cV 65536 l) (ht:kT l) (h0:0<l.length):65536 ^ (l.length-1)<=lv l:=by
 have e:l.length=(l.length-1)+1:=by omega
 have h1:=ht h0
 have h2:=h (l.length-1)
 have h3:=eo (b:=65536) (by decide) (f:=dg l) (n:=l.length-1) fun i _=>(h i).1
 unfold lv
 rw[e,dG,Nat.add_sub_cancel]
 have h4:1*(65536:Int) ^ (l.length-1)<=dg l (l.length-1)*65536 ^ (l.length-1):=Int.mul_le_mul_of_nonneg_right (by omega) (Int.le_of_lt (Int.pow_pos (by decide)))
 omega
theorem qO {i j:Nat} (h:i<=j):(65536:Int) ^ i<=65536 ^ j:=qN (by decide) h
theorem vW {l:List Int} {n:Nat} (h:cV 65536 l) (ht:kT l) (hv:lv l<65536 ^ n):l.length<=n:=by
 rcases Nat.lt_or_ge n l.length with h1|h1
 have h2:=lv_ge h ht (by omega)
 have h3:=qO (show n<=l.length-1 by omega)
 omega
 exact h1
theorem lv_pos {l:List Int} (h:cV 65536 l) (ht:kT l):l=[]↔lv l=0:=by
 constructor
 rintro rfl;rfl
 intro e
 have:=vW (n:=0) h ht (by rw[e];decide)
 exact List.eq_nil_of_length_eq_zero (by omega)
theorem pA {l:List Int} (h:cV 65536 l) (ht:kT l):0<l.length↔lv l≠0:=by
 rw[ne_eq,← lv_pos h ht]
 constructor
 intro h1 e;subst e;simp at h1
 intro h1;exact List.length_pos_iff.2 h1
theorem yH:cV 65536 []:=fun i=>by rw[dg_nil];decide
theorem BH {l m:List Int} (hl:cV 65536 l) (hm:cV 65536 m):cV 65536 (l++m):=fun i=>by
 rw[oM];split
 exact hl i
 exact hm _
theorem tw {b x:Int} (hb:0<b) (h:0<=x/\x<b):cV b [x]:=fun i=>by
 cases i with
 | zero=>exact h
 | succ i=>exact⟨Int.le_refl _,hb⟩
theorem ds_app {b:Int} (l m:List Int) (n:Nat):ds b (dg (l++m)) (l.length+n)=ds b (dg l) l.length+b ^ l.length*ds b (dg m) n:=by
 rw[gp]
 congr 1
 exact dR fun i hi=>by rw[oM,if_pos hi]
 congr 1
 exact dR fun i _=>by rw[oM,if_neg (by omega),Nat.add_sub_cancel_left]
theorem Bo (l m:List Int):lv (l++m)=lv l+65536 ^ l.length*lv m:=by
 unfold lv
 rw[List.length_append,ds_app]
theorem wI (x:Int):lv [x]=x:=by simp[lv,ds,dg]
theorem take_in {b:Int} {l:List Int} {n:Nat} (hb:0<b) (h:cV b l):cV b (l.take n):=fun i=>by
 rw[pF];split
 exact h i
 exact⟨Int.le_refl _,hb⟩
theorem FU {w:aZ} {k:Nat} {x:Int} (hk:k<16):av (w.set (k:Int) x)=av w+(x-dg w.l k)*4294967296 ^ k:=by
 unfold av
 have e:(16:Nat)=(k+1)+(15-k):=by omega
 rw[e,gp,gp 4294967296 (dg w.l),aZ.sP hk,dG]
 have:ds 4294967296 (fun i=>dg (w.set (k:Int) x).l (k+1+i)) (15-k)=ds 4294967296 (fun i=>dg w.l (k+1+i)) (15-k):=dR fun i _=>by
  rw[fp (by omega) (by omega),Int.toNat_natCast,if_neg (by omega)]
 rw[this,Int.sub_mul]
 omega
theorem Cx (j:Nat):(65536:Int) ^ (2*j)=4294967296 ^ j:=by rw[Int.pow_mul];rfl
theorem pow65' (j:Nat):(65536:Int) ^ (2*j+1)=4294967296 ^ j*65536:=by rw[Int.pow_succ,Cx]
theorem MM65:MM=65536 ^ 32:=by unfold MM;rw[← Cx]
end Go.Sk
namespace Go.Proofs.YtbcdabflmkgkiaaGreatDoor
open Go Go.Sk
abbrev Trim (l c:List Int):Prop:=cV 65536 c/\kT c/\lv c=lv l/\c.length<=l.length
theorem sJ {F:Nat} {l:List Int} (hF:l.length<F) (hl:l.length<=100000) (hin:cV 65536 l):ar (gQ F l) (Trim l):=by
 unfold gQ
 refine ar.bind (P:=fun (n:Int)=>0<=n/\n<=l.length/\(∀ i,n.toNat<=i->dg l i=0)/\(0<n->dg l (n.toNat-1)≠0)) (ar.rounds l.length (fun k s=>s=(l.length:Int)-(k:Int)/\∀ i,l.length<=i+k->dg l i=0) hF ⟨by omega,fun i h1=>sn (by omega)⟩ ?_) ?_
 rintro k n hk ⟨rfl,he⟩
 by_cases hk':k<l.length
 have hw:i64.wrap ((l.length:Int)-(k:Int)-1)=((l.length-1-k:Nat):Int):=by rw[cM];omega
 have hd:decide (0<(l.length:Int)-(k:Int))=true:=decide_eq_true (by omega)
 refine ar.g1 hd (ar.idx (by rw[hw];omega) (by rw[hw];omega) ?_)
 rw[hw,hd]
 simp only[dY,Int.toNat_natCast,Bool.true_and]
 refine ar.ite (fun h=>?_) (fun h=>?_)
 have h':=of_decide_eq_true h
 refine ar.some (.inl ⟨_,rfl,⟨by omega,fun i h1=>?_⟩,hk'⟩)
 by_cases e:i=l.length-1-k
 rw[e];exact h'
 exact he i (by omega)
 have h':=of_decide_eq_false h
 refine ar.some (.inr ⟨_,rfl,by omega,by omega,fun i h1=>he i (by omega),fun _=>?_⟩)
 have:((l.length:Int)-(k:Int)).toNat-1=l.length-1-k:=by omega
 rw[this];exact h'
 have hk2:k=l.length:=by omega
 subst hk2
 refine ar.g0 (by simp) ?_
 refine ar.iff (by simp) (ar.some (.inr ⟨_,rfl,by omega,by omega,fun i _=>he i (by omega),fun h=>by omega⟩))
 rintro n ⟨n0,n1,nz,nt⟩
 refine ar.take n0 n1 (ar.some ?_)
 have hlen:(l.take n.toNat).length=n.toNat:=by simp;omega
 refine⟨take_in (by decide) hin,fun h=>?_,?_,by omega⟩
 rw[hlen] at h ⊢
 rw[pF,if_pos (by omega)]
 exact nt (by omega)
 unfold lv
 rw[hlen]
 have e1:ds 65536 (dg (l.take n.toNat)) n.toNat=ds 65536 (dg l) n.toNat:=dR fun i hi=>by rw[pF,if_pos hi]
 rw[e1]
 exact (mL (by omega) fun i h1 _=>nz i h1).symm
theorem nL (F:Nat) {l:List Int} {k:Int} (h0:0<=k):fj F l k=some (dg l k.toNat):=by
 refine ar.eq ?_
 unfold fj
 refine ar.ite (fun h=>?_) (fun h=>?_)
 have:=of_decide_eq_true h
 exact ar.idx h0 this (ar.some rfl)
 have:=of_decide_eq_false h
 exact ar.some (sn (by omega)).symm
theorem yU {F:Nat} (hF:100000<F) {a b:List Int} (ha:cV 65536 a) (hb:cV 65536 b) (la:a.length<=9999) (lb:b.length<=9999) :
 ar (kY F a b) fun c=>cV 65536 c/\kT c/\lv c=lv a+lv b/\c.length<=max a.length b.length+1:=by
 unfold kY
 obtain⟨m,hm⟩:∃ m:Nat,m=max a.length b.length:=⟨_,rfl⟩
 have hmi:(max (a.length:Int) (b.length:Int))=(m:Int):=by omega
 have hw:i64.wrap ((m:Int)+1)=((m+1:Nat):Int):=by rw[cM];omega
 refine ar.bind (P:=fun o=>cV 65536 o/\o.length=m+1/\lv o=lv a+lv b) (ar.rounds (m+1) (fun k s=>s.2.2=(k:Int)/\cV 65536 s.1/\s.1.length=k/\0<=s.2.1/\s.2.1<=1/\ds 65536 (dg a) k+ds 65536 (dg b) k=lv s.1+s.2.1*65536 ^ k) (by omega) ⟨rfl,yH,rfl,Int.le_refl _,(by decide:(0:Int)<=1),rfl⟩ ?_) ?_
 rintro k ⟨o,c,kx⟩ hk ⟨rfl,oin,ol,c0,c1,os⟩
 dsimp only at oin ol c0 c1 os
 dsimp only[iJ]
 refine ar.vE (m:Int) hmi ?_
 rw[hw]
 refine ar.ite (fun h=>?_) (fun h=>?_)
 have b0:k<m+1:=by have:=of_decide_eq_true h;omega
 have h1:=ha k
 have h2:=hb k
 refine ar.aP (nL F (by omega)) (ar.aP (nL F (by omega)) ?_)
 simp only[Int.toNat_natCast]
 refine ar.vE (dg a k+dg b k+c) (by simp only[cM];omega) ?_
 have ht:Int.tmod (dg a k+dg b k+c) 65536=(dg a k+dg b k+c)%65536:=fl (by omega)
 refine ar.app (by simp;omega) (ar.quo (by decide) (ar.some (.inl ⟨_,rfl,?_,b0⟩)))
 rw[ht,eR (by omega)]
 dsimp only
 refine⟨by rw[cM];omega,BH oin (tw (by decide) (by omega)),by simp[ol],by rw[cM];omega,by rw[cM];omega,?_⟩
 rw[dG,dG,Bo,wI,ol]
 have hq:i64.wrap ((dg a k+dg b k+c)/65536)=(dg a k+dg b k+c)/65536:=by rw[cM];omega
 rw[hq,Int.mul_comm ((65536:Int) ^ k)]
 exact xz os (by omega)
 have b0:k=m+1:=by have:=of_decide_eq_false h;omega
 subst b0
 refine ar.some (.inr ⟨_,rfl,oin,ol,?_⟩)
 rw[wA (by omega),wA (by omega)] at os
 have r1:=ve ha
 have r2:=ve hb
 have p1:=qO (show a.length<=m by omega)
 have p2:=qO (show b.length<=m by omega)
 have p3:(65536:Int) ^ (m+1)=65536 ^ m*65536:=Int.pow_succ _ _
 have r3:=gh oin
 have p0:(0:Int)<65536 ^ m:=Int.pow_pos (by decide)
 have:c=0:=by
  rcases (by omega:c=0∨c=1) with h|h
  exact h
  subst h;omega
 subst this
 omega
 rintro o ⟨oin,ol,os⟩
 refine ar.bind (sJ (by omega) (by omega) oin) fun c hc=>ar.some ⟨hc.1,hc.2.1,by rw[hc.2.2.1,os],by have:=hc.2.2.2;omega⟩
theorem tL {F:Nat} (hF:100000<F) {a b:List Int} (ha:cV 65536 a) (hb:cV 65536 b) (la:a.length<=9999) (lb:b.length<=9999) (hle:lv b<=lv a) :
 ar (iT F a b) fun c=>cV 65536 c/\kT c/\lv c=lv a-lv b/\c.length<=a.length:=by
 unfold iT
 have hbn:ds 65536 (dg b) a.length=lv b:=by
  have e:=gp 65536 (dg b) a.length b.length
  rw[wA (by omega)] at e
  have h1:=eo (b:=65536) (by decide) (f:=fun i=>dg b (a.length+i)) (n:=b.length) fun i _=>(hb _).1
  have h2:=eo (b:=65536) (by decide) (f:=dg b) (n:=a.length) fun i _=>(hb _).1
  have h3:=ve ha
  rcases (by omega:ds 65536 (fun i=>dg b (a.length+i)) b.length=0∨1<=ds 65536 (fun i=>dg b (a.length+i)) b.length) with h4|h4
  rw[h4] at e;omega
  have h5:(65536:Int) ^ a.length*1<=65536 ^ a.length*ds 65536 (fun i=>dg b (a.length+i)) b.length:=Int.mul_le_mul_of_nonneg_left h4 (Int.le_of_lt (Int.pow_pos (by decide)))
  omega
 refine ar.bind (P:=fun o=>cV 65536 o/\o.length=a.length/\lv o=lv a-lv b) (ar.rounds a.length (fun k s=>s.2.2=(k:Int)/\cV 65536 s.1/\s.1.length=k/\0<=s.2.1/\s.2.1<=1/\ds 65536 (dg a) k+s.2.1*65536 ^ k=ds 65536 (dg b) k+lv s.1) (by omega) ⟨rfl,yH,rfl,Int.le_refl _,(by decide:(0:Int)<=1),rfl⟩ ?_) ?_
 rintro k ⟨o,c,kx⟩ hk ⟨rfl,oin,ol,c0,c1,os⟩
 dsimp only at oin ol c0 c1 os
 dsimp only[iJ]
 refine ar.ite (fun h=>?_) (fun h=>?_)
 have b2:k<a.length:=by have:=of_decide_eq_true h;omega
 have h1:=ha k
 have h2:=hb k
 refine ar.bind (P:=fun r=>cV 65536 r.1/\r.1.length=k+1/\0<=r.2/\r.2<=1/\ds 65536 (dg a) (k+1)+r.2*65536 ^ (k+1)=ds 65536 (dg b) (k+1)+lv r.1) ?_ ?_
 refine ar.idx (by omega) (by omega) (ar.aP (nL F (by omega)) ?_)
 simp only[dY,Int.toNat_natCast]
 have e0:i64.wrap (i64.wrap (dg a k-dg b k)-c)=dg a k-dg b k-c:=by simp only[cM];omega
 refine ar.bind (P:=fun r=>0<=r.1/\r.1<=1/\0<=r.2/\r.2<65536/\dg a k-dg b k-c=r.2-r.1*65536) ?_ ?_
 refine ar.vE _ e0 (ar.ite (fun h3=>?_) (fun h3=>?_))
 have h3':=of_decide_eq_true h3
 refine ar.vE _ e0 (ar.some ?_)
 refine⟨(by decide:(0:Int)<=1),(by decide:(1:Int)<=1),?_,?_,?_⟩<;>dsimp only<;>rw[cM]<;>omega
 have h3':=of_decide_eq_false h3
 refine ar.some ?_
 refine⟨(by decide:(0:Int)<=0),(by decide:(0:Int)<=1),?_,?_,?_⟩<;>dsimp only<;>rw[e0]<;>omega
 rintro⟨bo,x⟩ ⟨b0,b1,x0,x1,e⟩
 dsimp only at b0 b1 x0 x1 e
 dsimp only[bQ]
 refine ar.app (by simp;omega) (ar.some ⟨BH oin (tw (by decide) ⟨x0,x1⟩),by simp[ol],b0,b1,?_⟩)
 dsimp only
 rw[dG,dG,Bo,wI,ol,Int.mul_comm ((65536:Int) ^ k)]
 exact vB os e
 rintro⟨o1,bo⟩ ⟨q1,q2,q3,q4,q5⟩
 exact ar.some (.inl ⟨_,rfl,⟨by dsimp only;rw[cM];omega,q1,q2,q3,q4,q5⟩,b2⟩)
 have b2:k=a.length:=by have:=of_decide_eq_false h;omega
 subst b2
 refine ar.some (.inr ⟨_,rfl,oin,ol,?_⟩)
 rw[hbn] at os
 have r3:=ve oin
 rw[ol] at r3
 have hl:ds 65536 (dg a) a.length=lv a:=rfl
 rw[hl] at os
 have:c=0:=by
  rcases (by omega:c=0∨c=1) with h|h
  exact h
  subst h;omega
 subst this
 omega
 rintro o ⟨oin,ol,os⟩
 refine ar.bind (sJ (by omega) (by omega) oin) fun c hc=>ar.some ⟨hc.1,hc.2.1,by rw[hc.2.2.1,os],by have:=hc.2.2.2;omega⟩
theorem E7 {F:Nat} (hF:100000<F) {a b:List Int} (ha:cV 65536 a) (hb:cV 65536 b) (la:a.length<=9999) (lb:b.length<=9999):mB F a b=some (decide (lv a<lv b)):=by
 refine ar.eq ?_
 unfold mB
 obtain⟨m,hm⟩:∃ m:Nat,m=max a.length b.length:=⟨_,rfl⟩
 have hmi:(max (a.length:Int) (b.length:Int))=(m:Int):=by omega
 have hw:i64.wrap ((m:Int)-1)=(m:Int)-1:=by rw[cM];omega
 have va:ds 65536 (dg a) m=lv a:=wA (by omega)
 have vb:ds 65536 (dg b) m=lv b:=wA (by omega)
 refine ar.bind (P:=fun r=>match r with|.inl _=>lv a=lv b|.inr y=>y=decide (lv a<lv b)) ?_ ?_
 refine ar.vE _ hmi ?_
 rw[hw]
 refine ar.rounds m (fun k s=>s=(m:Int)-1-(k:Int)/\∀ i,m<=i+k->i<m->dg a i=dg b i) (by omega) ⟨by omega,fun i h1 h2=>by omega⟩ ?_
 rintro k i hk ⟨rfl,he⟩
 refine ar.ite (fun h=>?_) (fun h=>?_)
 have b0:k<m:=by have:=of_decide_eq_true h;omega
 have et:((m:Int)-1-(k:Int)).toNat=m-1-k:=by omega
 refine ar.aP (nL F (by omega)) (ar.aP (nL F (by omega)) (ar.ite (fun hne=>?_) (fun heq=>?_)))
 refine ar.aP (nL F (by omega)) (ar.aP (nL F (by omega)) (ar.some (.inr ⟨_,rfl,?_⟩)))
 have b1:=of_decide_eq_true hne
 rw[et] at b1 ⊢
 show decide _=decide _
 rw[decide_eq_decide,← va,← vb]
 constructor
 intro h1
 exact tT (by decide) (k:=m-1-k) (by omega) ha hb (fun i h2 h3=>he i (by omega) h3) h1
 intro h1
 rcases (by omega:dg a (m-1-k)<dg b (m-1-k)∨dg b (m-1-k)<dg a (m-1-k)) with h2|h2
 exact h2
 have:=tT (b:=65536) (by decide) (k:=m-1-k) (n:=m) (by omega) hb ha (fun i h2 h3=>(he i (by omega) h3).symm) h2
 omega
 have b2:dg a (m-1-k)=dg b (m-1-k):=by rw[et] at heq;simpa using heq
 refine ar.some (.inl ⟨_,rfl,⟨by rw[cM];omega,fun i h1 h2=>?_⟩,b0⟩)
 by_cases e:i=m-1-k
 rw[e];exact b2
 exact he i (by omega) h2
 have b0:k=m:=by have:=of_decide_eq_false h;omega
 subst b0
 refine ar.some (.inr ⟨_,rfl,?_⟩)
 show lv a=lv b
 rw[← va,← vb]
 exact dR fun i hi=>he i (by omega) hi
 rintro (u|y) h
 have h':lv a=lv b:=h
 exact ar.some (by rw[h'];simp)
 exact ar.some h
end Go.Proofs.YtbcdabflmkgkiaaGreatDoor
namespace Go.Sk
theorem Dk {a b c d:Int} (ha:0<=a/\a<65536) (hb:0<=b/\b<65536) (hc:0<=c/\c<65536) (hd:0<=d/\d<65536):cV 65536 [a,b,c,d]:=fun i=>by
 match i with
 | 0=>exact ha
 | 1=>exact hb
 | 2=>exact hc
 | 3=>exact hd
 | n+4=>exact⟨Int.le_refl _,(by decide:(0:Int)<65536)⟩
theorem C3 (a b c d:Int):lv [a,b,c,d]=a+b*65536+c*4294967296+d*281474976710656:=by simp[lv,ds,dg]
theorem two_inD {x y:Int} (hx:0<=x/\x<65536) (hy:0<=y/\y<65536):cV 65536 [x,y]:=fun i=>by
 match i with
 | 0=>exact hx
 | 1=>exact hy
 | n+2=>exact⟨Int.le_refl _,(by decide:(0:Int)<65536)⟩
theorem lv_two (x y:Int):lv [x,y]=x+y*65536:=by simp[lv,ds,dg]
end Go.Sk
namespace Go.Proofs.YtbcdabflmkgkiaaGreatDoor
open Go Go.Sk
theorem mH (F:Nat):iR F=some bad:=rfl
theorem GR {F:Nat} (hF:100000<F) {x:bY} (hx:mD x):ar (cO F x) fun c=>cV 65536 c/\kT c/\lv c=av x.W/\c.length<=32:=by
 unfold cO
 refine ar.bind (P:=fun o=>cV 65536 o/\o.length=32/\lv o=av x.W) (ar.rounds 16 (fun k s=>s.2=(k:Int)/\cV 65536 s.1/\s.1.length=2*k/\lv s.1=ds 4294967296 (dg x.W.l) k) (by omega) ⟨rfl,yH,rfl,rfl⟩ ?_) ?_
 rintro k ⟨o,kx⟩ hk ⟨rfl,oin,ol,os⟩
 dsimp only at oin ol os
 dsimp only[bQ]
 refine ar.ite (fun h=>?_) (fun h=>?_)
 have b0:k<16:=by have:=of_decide_eq_true h;omega
 have hd:=hx k
 refine ar.idx (by omega) (by rw[aZ.cj];omega) (ar.idx (by omega) (by rw[aZ.cj];omega) (ar.quo (by decide) ?_))
 simp only[dY,Int.toNat_natCast]
 have e1:i64.wrap (Int.tmod (dg x.W.l k) 65536)=dg x.W.l k%65536:=by rw[fl hd.1,cM];omega
 have e2:i64.wrap (u32.wrap (Int.tdiv (dg x.W.l k) 65536))=dg x.W.l k/65536:=by rw[eR hd.1,l9,cM];omega
 rw[e1,e2]
 refine ar.app (by simp;omega) (ar.some (.inl ⟨_,rfl,⟨by dsimp only;rw[cM];omega,BH oin (two_inD (by omega) (by omega)),by simp[ol];omega,?_⟩,b0⟩))
 dsimp only
 rw[Bo,lv_two,os,dG,ol,Cx,Int.mul_comm ((4294967296:Int) ^ k)]
 congr 2
 omega
 have b0:k=16:=by have:=of_decide_eq_false h;omega
 subst b0
 exact ar.some (.inr ⟨_,rfl,oin,ol,os⟩)
 rintro o ⟨oin,ol,os⟩
 refine ar.bind (sJ (by omega) (by omega) oin) fun c hc=>ar.some ⟨hc.1,hc.2.1,by rw[hc.2.2.1,os],by have:=hc.2.2.2;omega⟩
theorem wY {F:Nat} (hF:100000<F) (neg:Bool) {l:List Int} (hl:l.length<=9999) (hin:cV 65536 l):dw F neg l=some (if lv l<MM then dh (if neg=true then -lv l else lv l) else bad):=by
 refine ar.eq ?_
 unfold dw
 refine ar.bind (sJ (by omega) (by omega) hin) ?_
 rintro c ⟨cin,ct,cv,cl⟩
 rw[← cv]
 have c0:=gh cin
 clear hin cv cl hl
 refine ar.ite (fun h=>?_) (fun h=>?_)
 have h':=of_decide_eq_true h
 refine ar.aP (mH F) (ar.some ?_)
 rw[if_neg]
 intro h1
 rw[MM65] at h1
 have:=vW cin ct h1
 omega
 have h':=of_decide_eq_false h
 have hlt:lv c<MM:=by
  have h1:=ve cin
  have h2:=qO (show c.length<=32 by omega)
  rw[MM65];omega
 rw[if_pos hlt]
 refine ar.ln ?_
 refine ar.bind (P:=fun o=>o.Bad=false/\o.Neg=(neg&&decide (0<(c.length:Int)))/\cV 4294967296 o.W.l/\av o.W=lv c) (ar.rounds c.length (fun (k:Nat) (s:bY×Int)=>s.2=(k:Int)/\s.1.Bad=false/\s.1.Neg=(neg&&decide (0<(c.length:Int)))/\cV 4294967296 s.1.W.l/\(∀ j,k<=2*j->dg s.1.W.l j=0)/\(∀ j,k<=2*j+1->dg s.1.W.l j<65536)/\av s.1.W=ds 65536 (dg c) k) (by omega) ?_ ?_) ?_
 refine⟨rfl,rfl,rfl,kC,fun j _=>?_,fun j _=>?_,tF⟩
 have:aZ.zero.l=List.replicate 16 0:=rfl
 show dg aZ.zero.l j=0
 rw[this,dO]
 have:aZ.zero.l=List.replicate 16 0:=rfl
 show dg aZ.zero.l j<65536
 rw[this,dO];decide
 rintro k ⟨⟨Bd,Ng,w⟩,kx⟩ hk ⟨rfl,b0,n0,win,wz,wl,ws⟩
 dsimp only at b0 n0 win wz wl ws
 dsimp only[bQ]
 refine ar.ite (fun h2=>?_) (fun h2=>?_)
 have b1:k<c.length:=by have:=of_decide_eq_true h2;omega
 have hk3:k<32:=by omega
 have hd:=cin k
 have hdiv:i64.wrap (Int.tdiv (k:Int) 2)=((k/2:Nat):Int):=by rw[eR (by omega),cM];omega
 have hj16:k/2<16:=by omega
 refine ar.bind (P:=fun o=>o.Bad=false/\o.Neg=(neg&&decide (0<(c.length:Int)))/\cV 4294967296 o.W.l/\(∀ j,k+1<=2*j->dg o.W.l j=0)/\(∀ j,k+1<=2*j+1->dg o.W.l j<65536)/\av o.W=ds 65536 (dg c) (k+1)) ?_ ?_
 refine ar.ite (fun h3=>?_) (fun h3=>?_)
 have b2:=of_decide_eq_true h3
 rw[fl (by omega)] at b2
 obtain⟨j,rfl⟩:∃ j,k=2*j:=⟨k/2,by omega⟩
 have b3:2*j/2=j:=by omega
 refine ar.quo (by decide) (ar.quo (by decide) ?_)
 rw[hdiv,b3]
 refine ar.idx (by omega) (by rw[aZ.cj];omega) (ar.idx (by omega) (by omega) (ar.idx (by omega) (by rw[aZ.cj];omega) (ar.some ?_)))
 simp only[dY,Int.toNat_natCast]
 have hz:=wz j (by omega)
 have e1:u32.wrap (dg w.l j+u32.wrap (dg c (2*j)))=dg c (2*j):=by rw[hz];simp only[l9];omega
 rw[e1]
 refine⟨b0,n0,jS win (by omega) (by omega) (by omega),fun i hi=>?_,fun i hi=>?_,?_⟩
 rw[fp (by omega) (by omega),Int.toNat_natCast,if_neg (by omega)];exact wz i (by omega)
 rw[fp (by omega) (by omega),Int.toNat_natCast]
 split
 exact hd.2
 exact wl i (by omega)
 rw[FU (by omega),hz,ws,dG,Cx,Int.sub_zero]
 have b2:=of_decide_eq_false h3
 rw[fl (by omega)] at b2
 obtain⟨j,rfl⟩:∃ j,k=2*j+1:=⟨k/2,by omega⟩
 have b3:(2*j+1)/2=j:=by omega
 refine ar.quo (by decide) (ar.quo (by decide) ?_)
 rw[hdiv,b3]
 refine ar.idx (by omega) (by rw[aZ.cj];omega) (ar.idx (by omega) (by omega) (ar.idx (by omega) (by rw[aZ.cj];omega) (ar.some ?_)))
 simp only[dY,Int.toNat_natCast]
 have hz:=wl j (by omega)
 have hz0:=(win j).1
 have e1:u32.wrap (dg w.l j+u32.wrap (u32.wrap (dg c (2*j+1))*65536))=dg w.l j+dg c (2*j+1)*65536:=by simp only[l9];omega
 rw[e1]
 refine⟨b0,n0,jS win (by omega) (by omega) (by omega),fun i hi=>?_,fun i hi=>?_,?_⟩
 rw[fp (by omega) (by omega),Int.toNat_natCast,if_neg (by omega)];exact wz i (by omega)
 rw[fp (by omega) (by omega),Int.toNat_natCast,if_neg (by omega)];exact wl i (by omega)
 rw[FU (by omega),ws,dG 65536 (dg c) (2*j+1),pow65']
 have:dg w.l j+dg c (2*j+1)*65536-dg w.l j=dg c (2*j+1)*65536:=by omega
 rw[this,Int.mul_comm ((4294967296:Int) ^ j),← Int.mul_assoc]
 rintro o ⟨q1,q2,q3,q4,q5,q6⟩
 exact ar.some (.inl ⟨_,rfl,⟨by dsimp only;rw[cM];omega,q1,q2,q3,q4,q5,q6⟩,b1⟩)
 have b1:k=c.length:=by have:=of_decide_eq_false h2;omega
 subst b1
 exact ar.some (.inr ⟨_,rfl,b0,n0,win,ws⟩)
 rintro⟨Bd,Ng,w⟩ ⟨b0,n0,win,ws⟩
 dsimp only at b0 n0 win ws
 refine ar.some ?_
 subst b0 n0
 have hw:w=u7 (lv c):=yM win ws
 subst hw
 have hlen:=pA cin ct
 unfold dh
 cases neg with
 | false=>
  have h1:¬ lv c<0:=by omega
  simp only[Bool.false_and,Bool.false_eq_true,if_false,h1,decide_false]
  rw[if_pos (by omega)]
 | true=>
  simp only[if_true,Bool.true_and]
  rw[if_pos (by omega)]
  by_cases e:lv c=0
  have:¬ 0<c.length:=fun h=>hlen.1 h e
  have h2:¬ ((0:Int)<c.length):=by omega
  rw[e,decide_eq_false h2]
  simp
  have:0<c.length:=hlen.2 e
  have h2:((0:Int)<c.length):=by omega
  have h1:-lv c<0:=by omega
  simp only[h1,h2,decide_true,if_true,Int.neg_neg]
theorem yY {neg:Bool} {m:Int} (h0:0<=m):(if m<MM then dh (if neg=true then -m else m) else bad)=dh (if neg=true then -m else m):=by
 split
 rfl
 next h=>exact (nM (by split<;>omega)).symm
theorem word_y {F:Nat} (hF:100000<F) {x:bY} (hx:mD x):fI F x=some (match iv x with|some a=>if aI a<4611686018427387904 then (a,true) else (0,false)|none=>(0,false)):=by
 refine ar.eq ?_
 unfold fI
 refine ar.aP (iG hF hx) ?_
 cases ha:iv x with
 | none=>simp only[dN ha,Bool.not_false,Bool.true_or,if_true];exact ar.some rfl
 | some a=>
  obtain⟨ga,rfl,ra⟩:=dF hx ha
  obtain⟨wa,na⟩:=di ra
  have ia:cV 4294967296 (dh a).W.l:=bM a
  have b1:av (dh a).W=aI a:=wa
  simp only[ga,Bool.not_true,Bool.false_or,na]
  generalize (dh a).W=A at *
  have a0:=ia 0
  have a1:=ia 1
  have e0:dg A.l 0=A.a0:=rfl
  have e1:dg A.l 1=A.a1:=rfl
  rw[e0] at a0
  rw[e1] at a1
  have b2:aI a=A.a0+A.a1*4294967296+18446744073709551616*ds 4294967296 (fun i=>dg A.l (2+i)) 14:=by
   rw[← b1]
   show ds 4294967296 (dg A.l) (2+14)=_
   rw[gp]
   have h2:ds 4294967296 (dg A.l) 2=A.a0+A.a1*4294967296:=by simp[ds,dg,aZ.l]
   rw[h2]
   rfl
  have hrest:=eo (b:=4294967296) (by decide) (f:=fun i=>dg A.l (2+i)) (n:=14) fun i _=>(ia (2+i)).1
  refine ar.ite (fun h=>?_) (fun h=>?_)
  have h':=of_decide_eq_true h
  refine ar.some ?_
  rw[if_neg (by omega)]
  have h':=of_decide_eq_false h
  refine ar.bind (P:=fun r=>match r with|.inl _=>∀ i,i<14->dg A.l (2+i)=0|.inr y=>y=(0,false)/\∃ i,i<14/\dg A.l (2+i)≠0) (ar.rounds 14 (fun (k:Nat) (s:Int)=>s=((2+k:Nat):Int)/\∀ i,i<k->dg A.l (2+i)=0) (by omega) ⟨rfl,fun i h=>absurd h (Nat.not_lt_zero i)⟩ ?_) ?_
  rintro k i hk ⟨rfl,hz⟩
  refine ar.ite (fun h=>?_) (fun h=>?_)
  have b0:k<14:=by have:=of_decide_eq_true h;omega
  refine ar.idx (by omega) (by rw[aZ.cj];omega) ?_
  simp only[dY,Int.toNat_natCast]
  refine ar.ite (fun h=>?_) (fun h=>?_)
  exact ar.some (.inr ⟨_,rfl,rfl,k,b0,of_decide_eq_true h⟩)
  have h2:dg A.l (2+k)=0:=by have:=of_decide_eq_false h;omega
  refine ar.some (.inl ⟨_,rfl,⟨by rw[cM];omega,fun i hi=>?_⟩,b0⟩)
  by_cases e:i=k
  rw[e];exact h2
  exact hz i (by omega)
  have b0:k=14:=by have:=of_decide_eq_false h;omega
  subst b0
  exact ar.some (.inr ⟨_,rfl,hz⟩)
  rintro (u|y) h
  have hz:ds 4294967296 (fun i=>dg A.l (2+i)) 14=0:=nK h
  rw[hz,Int.mul_zero,Int.add_zero] at b2
  have hlt:aI a<4611686018427387904:=by omega
  rw[if_pos hlt]
  refine ar.vE (A.a1*4294967296) (by simp only[cM];omega) (ar.vE (aI a) (by simp only[cM];omega) ?_)
  unfold aI at *
  refine ar.ite (fun h=>?_) (fun h=>?_)
  have h1:=of_decide_eq_true h
  rw[if_pos h1] at *
  exact ar.some (by rw[jY (by omega) (by omega),Int.neg_neg])
  have h1:=of_decide_eq_false h
  rw[if_neg h1] at *
  exact ar.some rfl
  obtain⟨rfl,i,hi,hne⟩:=h
  refine ar.some ?_
  have:1<=ds 4294967296 (fun i=>dg A.l (2+i)) 14:=by
   rcases (by omega:ds 4294967296 (fun i=>dg A.l (2+i)) 14=0∨1<=ds 4294967296 (fun i=>dg A.l (2+i)) 14) with h|h
   have h0:ds 4294967296 (fun i=>dg A.l (2+i)) 14=ds 4294967296 (fun _=>0) 14:=by rw[h,nK];intro _ _;rfl
   exact absurd (Bz (by decide) (fun j _=>ia (2+j)) (fun j _=>by decide) h0 i hi) hne
   exact h
  rw[if_neg (by omega)]
theorem zK {F:Nat} (hF:100000<F) {n:Int} (h0:-9223372036854775808<=n) (h1:n<=9223372036854775807):fu F n=some (dh n):=by
 refine ar.eq ?_
 unfold fu
 refine ar.ite (fun h=>?_) (fun h=>?_)
 have h':=of_decide_eq_true h
 refine ar.quo (by decide) (ar.quo (by decide) (ar.quo (by decide) ?_))
 have q1:i64.wrap (Int.tdiv n 65536)=n/65536:=by rw[eR h',cM];omega
 have q2:i64.wrap (Int.tdiv n 4294967296)=n/4294967296:=by rw[eR h',cM];omega
 have q3:i64.wrap (Int.tdiv n 281474976710656)=n/281474976710656:=by rw[eR h',cM];omega
 rw[q1,q2,q3,fl h',fl (by omega),fl (by omega)]
 have hv:lv [n%65536,n/65536%65536,n/4294967296%65536,n/281474976710656]=n:=by rw[C3];omega
 refine ar.aP (wY hF false (by simp) (Dk (by omega) (by omega) (by omega) (by omega))) (ar.some ?_)
 rw[hv,yY h']
 simp
 have h':=of_decide_eq_false h
 refine ar.vE (-(n+1)) (by simp only[cM];omega) ?_
 have hm:0 <= -(n+1):=by omega
 generalize hmm:-(n+1)=m at *
 refine ar.quo (by decide) (ar.quo (by decide) (ar.quo (by decide) ?_))
 have q1:i64.wrap (Int.tdiv m 65536)=m/65536:=by rw[eR hm,cM];omega
 have q2:i64.wrap (Int.tdiv m 4294967296)=m/4294967296:=by rw[eR hm,cM];omega
 have q3:i64.wrap (Int.tdiv m 281474976710656)=m/281474976710656:=by rw[eR hm,cM];omega
 rw[q1,q2,q3,fl hm,fl (by omega),fl (by omega)]
 have hv:lv [m%65536,m/65536%65536,m/4294967296%65536,m/281474976710656]=m:=by rw[C3];omega
 refine ar.bind (yU hF (Dk (by omega) (by omega) (by omega) (by omega)) (tw (by decide) (x:=1) (by decide)) (by simp) (by simp)) fun c hc=>?_
 obtain⟨c1,_,c2,c3⟩:=hc
 rw[hv,wI] at c2
 refine ar.aP (wY hF true (by simp at c3;omega) c1) (ar.some ?_)
 rw[c2,yY (by omega)]
 simp only[if_true]
 congr 1
 omega
end Go.Proofs.YtbcdabflmkgkiaaGreatDoor
namespace Go.Sk
def wd:Option Int->Int×Bool
 | some a=>if aI a<4611686018427387904 then (a,true) else (0,false)
 | none=>(0,false)
theorem nF {o:Option Int} {p:Int} (h:wd o=(p,true)):o=some p/\aI p<4611686018427387904:=by
 unfold wd at h
 split at h
 split at h
 next h1=>simp only[Prod.mk.injEq,and_true] at h;subst h;exact⟨rfl,h1⟩
 simp at h
 simp at h
theorem mT {a:Int}:aI a=if a<0 then -a else a:=rfl
theorem wJ {l:List Int} (h:cV 65536 l) (i:Nat):dg l i=lv l/65536 ^ i%65536:=by
 have h1:=wA (l:=l) (n:=l.length+(i+1)) (by omega)
 have h2:=FM (b:=65536) (by decide) (f:=dg l) (n:=l.length+(i+1)) (i:=i) (by omega) h
 rw[h1] at h2
 exact h2.symm
end Go.Sk
namespace Go.Proofs.YtbcdabflmkgkiaaGreatDoor
open Go Go.Sk
theorem nE {F:Nat} (hF:100000<F) {x:bY} (hx:mD x):fI F x=some (wd (iv x)):=by
 rw[word_y hF hx]
 cases iv x<;>rfl
theorem qc {F:Nat} (hF:100000<F) {a:Int} (ra:-MM<a/\a<MM):ar (cO F (dh a)) fun c=>cV 65536 c/\kT c/\lv c=aI a/\c.length<=32:=by
 have h:=GR hF (bM a)
 rw[(di ra).1] at h
 exact h
theorem vd {F:Nat} (hF:100000<F) (neg:Bool) {l:List Int} (hl:l.length<=9999) (hin:cV 65536 l):dw F neg l=some (dh (if neg=true then -lv l else lv l)):=by
 rw[wY hF neg hl hin,yY (gh hin)]
theorem rNeg_y {F:Nat} (hF:100000<F) {x:bY} (hx:mD x):qK F x=some (one (fun a=>some (-a)) x):=by
 refine ar.eq ?_
 unfold qK one
 refine ar.aP (iG hF hx) ?_
 cases ha:iv x with
 | none=>simp only[dN ha,Bool.not_false,if_true];exact ar.aP (mH F) (ar.some rfl)
 | some a=>
  obtain⟨ga,rfl,ra⟩:=dF hx ha
  obtain⟨wa,na⟩:=di ra
  simp only[ga,Bool.not_true,Bool.false_eq_true,if_false,vD]
  refine ar.bind (qc hF ra) ?_
  rintro c ⟨c1,_,c2,c3⟩
  refine ar.aP (vd hF _ (by omega) c1) (ar.some ?_)
  rw[c2,na,mT]
  congr 1
  by_cases h:a<0
  simp[h]
  simp[h]
theorem rAbs_y {F:Nat} (hF:100000<F) {x:bY} (hx:mD x):qM F x=some (one (fun a=>some (aI a)) x):=by
 refine ar.eq ?_
 unfold qM one
 refine ar.aP (iG hF hx) ?_
 cases ha:iv x with
 | none=>simp only[dN ha,Bool.not_false,if_true];exact ar.aP (mH F) (ar.some rfl)
 | some a=>
  obtain⟨ga,rfl,ra⟩:=dF hx ha
  simp only[ga,Bool.not_true,Bool.false_eq_true,if_false,vD]
  refine ar.bind (qc hF ra) ?_
  rintro c ⟨c1,_,c2,c3⟩
  refine ar.aP (vd hF _ (by omega) c1) (ar.some ?_)
  rw[c2]
  simp
theorem rAdd_y {F:Nat} (hF:100000<F) {x y:bY} (hx:mD x) (hy:mD y):mP F x y=some (two (fun a b=>some (a+b)) x y):=by
 refine ar.eq ?_
 unfold mP
 refine ar.aP (nE hF hx) ?_
 generalize hp:wd (iv x)=wx
 obtain⟨p,p'⟩:=wx
 refine ar.aP (nE hF hy) ?_
 generalize hq:wd (iv y)=wy
 obtain⟨q,q'⟩:=wy
 dsimp only[bQ]
 refine ar.ite (fun h=>?_) (fun h=>?_)
 have hp':p'=true:=by cases p'<;>simp_all
 have hq':q'=true:=by cases q'<;>simp_all
 subst hp' hq'
 obtain⟨ha,la⟩:=nF hp
 obtain⟨hb,lb⟩:=nF hq
 have la':-4611686018427387904<p/\p<4611686018427387904:=by unfold aI at la;split at la<;>omega
 have lb':-4611686018427387904<q/\q<4611686018427387904:=by unfold aI at lb;split at lb<;>omega
 rw[jY (by omega) (by omega)]
 refine ar.aP (zK hF (by omega) (by omega)) (ar.some ?_)
 simp only[two,ha,hb,vD]
 clear h hp hq
 unfold two
 refine ar.aP (iG hF hx) ?_
 cases ha:iv x with
 | none=>simp only[dN ha,Bool.not_false,Bool.not_true];exact ar.g0 rfl (ar.zA (by simp) (ar.aP (mH F) (ar.some rfl)))
 | some a=>
  obtain⟨ga,rfl,ra⟩:=dF hx ha
  refine ar.g1 (by rw[ga];rfl) (ar.aP (iG hF hy) ?_)
  cases hb:iv y with
  | none=>simp only[dN hb,Bool.not_false,Bool.or_true,if_true];exact ar.aP (mH F) (ar.some rfl)
  | some b=>
   obtain⟨gb,rfl,rb⟩:=dF hy hb
   obtain⟨wa,na⟩:=di ra
   obtain⟨wb,nb⟩:=di rb
   simp only[ga,gb,Bool.not_true,Bool.or_self,Bool.false_eq_true,if_false,vD,na,nb]
   refine ar.bind (qc hF ra) ?_
   rintro c ⟨c1,c2,c3,c4⟩
   refine ar.bind (qc hF rb) ?_
   rintro d ⟨d1,d2,d3,d4⟩
   refine ar.ite (fun hn=>?_) (fun hn=>?_)
   have b0:decide (a<0)=decide (b<0):=eq_of_beq hn
   refine ar.bind (yU hF c1 d1 (by omega) (by omega)) ?_
   rintro e ⟨e1,_,e2,e3⟩
   refine ar.aP (vd hF _ (by omega) e1) (ar.some ?_)
   rw[e2,c3,d3,mT,mT]
   congr 1
   by_cases h1:a<0
   have h2:b<0:=by simpa[h1] using b0
   simp only[h1,h2,decide_true,if_true];omega
   have h2:¬ b<0:=by simpa[h1] using b0
   simp only[h1,h2,decide_false,if_false,Bool.false_eq_true]
   have b0:decide (a<0)≠decide (b<0):=by simpa using hn
   refine ar.aP (E7 hF c1 d1 (by omega) (by omega)) ?_
   refine ar.ite (fun h=>?_) (fun h=>?_)
   have h':=of_decide_eq_true h
   refine ar.bind (tL hF d1 c1 (by omega) (by omega) (by omega)) ?_
   rintro e ⟨e1,_,e2,e3⟩
   refine ar.aP (vd hF _ (by omega) e1) (ar.some ?_)
   rw[e2,c3,d3,mT,mT]
   congr 1
   by_cases h1:a<0
   have h2:¬ b<0:=by simpa[h1] using b0
   simp only[h1,h2,decide_false,if_true,if_false,Bool.false_eq_true];omega
   have h2:b<0:=by
    by_cases h2:b<0
    exact h2
    exact absurd (by simp[h1,h2]) b0
   simp only[h1,h2,decide_true,if_true,if_false];omega
   have h':=of_decide_eq_false h
   refine ar.bind (tL hF c1 d1 (by omega) (by omega) (by omega)) ?_
   rintro e ⟨e1,_,e2,e3⟩
   refine ar.aP (vd hF _ (by omega) e1) (ar.some ?_)
   rw[e2,c3,d3,mT,mT]
   congr 1
   by_cases h1:a<0
   have h2:¬ b<0:=by simpa[h1] using b0
   simp only[h1,h2,decide_true,if_true,if_false];omega
   have h2:b<0:=by
    by_cases h2:b<0
    exact h2
    exact absurd (by simp[h1,h2]) b0
   simp only[h1,h2,decide_false,if_true,if_false,Bool.false_eq_true];omega
theorem rSign_y {F:Nat} (hF:100000<F) {x:bY} (hx:mD x):kZ F x=some (match iv x with|some a=>Dz a|none=>0):=by
 refine ar.eq ?_
 unfold kZ
 refine ar.aP (iG hF hx) ?_
 cases ha:iv x with
 | none=>simp only[dN ha];exact ar.g0 rfl (ar.zA rfl (ar.some rfl))
 | some a=>
  obtain⟨ga,rfl,ra⟩:=dF hx ha
  obtain⟨wa,na⟩:=di ra
  refine ar.g1 (by rw[ga];rfl) (ar.bind (qc hF ra) ?_)
  rintro c ⟨c1,c2,c3,c4⟩
  have hl:=pA c1 c2
  have b0:aI a=0↔a=0:=by unfold aI;split<;>omega
  simp only[ga,Bool.not_true,Bool.false_or,na]
  unfold Dz
  refine ar.ite (fun h=>?_) (fun h=>?_)
  have h':=of_decide_eq_true h
  exact ar.some (by rw[if_pos];rw[← b0,← c3];by_cases e:lv c=0;exact e;have:=hl.2 e;omega)
  have h':=of_decide_eq_false h
  have h0:a≠0:=fun e=>by
   have:=hl.1 (by omega)
   rw[c3] at this
   exact this (b0.2 e)
  refine ar.ite (fun h=>?_) (fun h=>?_)
  have:=of_decide_eq_true h;exact ar.some (by rw[if_neg h0,if_pos this])
  have:=of_decide_eq_false h;exact ar.some (by rw[if_neg h0,if_neg this])
end Go.Proofs.YtbcdabflmkgkiaaGreatDoor
namespace Go.Sk
end Go.Sk
namespace Go.Proofs.YtbcdabflmkgkiaaGreatDoor
open Go Go.Sk
end Go.Proofs.YtbcdabflmkgkiaaGreatDoor
namespace Go.Sk
theorem ds_setl {b:Int} {l:List Int} {k n:Nat} {x:Int} (hk:k<n) (hl:k<l.length):ds b (dg (l.set k x)) n=ds b (dg l) n+(x-dg l k)*b ^ k:=by
 obtain⟨m,rfl⟩:∃ m,n=k+1+m:=⟨n-k-1,by omega⟩
 have e1:ds b (dg (l.set k x)) (k+1)=ds b (dg l) k+x*b ^ k:=yN fun i=>jD hl
 have e2:ds b (fun i=>dg (l.set k x) (k+1+i)) m=ds b (fun i=>dg l (k+1+i)) m:=dR fun i _=>by rw[jD hl,if_neg (by omega)]
 rw[gp b _ (k+1),gp b _ (k+1),e1,e2,dG]
 grind
theorem set_inl {b:Int} {l:List Int} {k:Nat} {x:Int} (hl:k<l.length) (h:cV b l) (hx:0<=x/\x<b):cV b (l.set k x):=fun i=>by
 rw[jD hl];split
 exact hx
 exact h i
theorem EW (n:Nat):cV 65536 (List.replicate n 0):=fun i=>by rw[dO];decide
theorem lv_rep (n:Nat):lv (List.replicate n 0)=0:=nK fun i _=>dO
theorem mul_fit {x y:Int} (hx:0<=x/\x<65536) (hy:0<=y/\y<65536):0<=x*y/\x*y<=4294836225:=by
 have:=mC hx hy
 exact this
end Go.Sk
namespace Go.Proofs.YtbcdabflmkgkiaaGreatDoor
open Go Go.Sk
theorem CL {F:Nat} (hF:100000<F) {a b:List Int} (ha:cV 65536 a) (hb:cV 65536 b) (la:a.length<=9999) (lb:b.length<=9999) :
 ar (lf F a b) fun c=>cV 65536 c/\kT c/\lv c=lv a*lv b/\c.length<=a.length+b.length+1:=by
 unfold lf
 obtain⟨n,hn⟩:∃ n:Nat,n=a.length+b.length+1:=⟨_,rfl⟩
 refine ar.vE ((a.length+b.length:Nat):Int) (by rw[cM];omega) ?_
 have hw:i64.wrap (((a.length+b.length:Nat):Int)+1)=(n:Int):=by rw[cM];omega
 rw[hw]
 have hmk:mk? (0:Int) (n:Int) (n:Int)=some (List.replicate n 0):=by
  unfold mk?
  rw[if_pos (by omega),Int.toNat_natCast]
 refine ar.aP hmk ?_
 refine ar.bind (P:=fun o=>cV 65536 o/\o.length=n/\lv o=lv a*lv b) (ar.rounds a.length (fun k s=>s.2=(k:Int)/\cV 65536 s.1/\s.1.length=n/\lv s.1=ds 65536 (dg a) k*lv b) (by omega) ⟨rfl,EW n,by simp,by rw[lv_rep];simp[ds]⟩ ?_) ?_
 rintro i ⟨o,ix⟩ hi ⟨rfl,oin,ol,os⟩
 dsimp only at oin ol os
 dsimp only[bQ]
 refine ar.ite (fun h=>?_) (fun h=>?_)
 have b1:i<a.length:=by have:=of_decide_eq_true h;omega
 have hai:=ha i
 refine ar.bind (P:=fun o=>cV 65536 o/\o.length=n/\lv o=ds 65536 (dg a) (i+1)*lv b) ?_ ?_
 refine ar.bind (P:=fun p=>(∀ j,0<=dg p j/\dg p j<4294967296)/\p.length=n/\ds 65536 (dg p) n=ds 65536 (dg a) (i+1)*lv b) (ar.rounds b.length (fun k s=>s.2=(k:Int)/\(∀ j,0<=dg s.1 j/\dg s.1 j<4294967296)/\(∀ j,i+k<=j->dg s.1 j<65536)/\s.1.length=n/\ds 65536 (dg s.1) n=ds 65536 (dg a) i*lv b+dg a i*65536 ^ i*ds 65536 (dg b) k) (by omega) ⟨rfl,fun j=>⟨(oin j).1,by have:=(oin j).2;dsimp only;omega⟩,fun j _=>(oin j).2,ol,?_⟩ ?_) ?_
 dsimp only
 rw[← ol]
 show lv o=_
 rw[os];simp[ds]
 rintro k ⟨p,kx⟩ hk ⟨rfl,pin,phi,pl,ps⟩
 dsimp only at pin phi pl ps
 dsimp only[bQ]
 refine ar.ite (fun h=>?_) (fun h=>?_)
 have b0:k<b.length:=by have:=of_decide_eq_true h;omega
 have hbk:=hb k
 have hwi:i64.wrap ((i:Int)+(k:Int))=((i+k:Nat):Int):=by rw[cM];omega
 rw[hwi]
 refine ar.idx (by omega) (by omega) (ar.idx (by omega) (by omega) (ar.idx (by omega) (by omega) (ar.idx (by omega) (by omega) ?_)))
 simp only[dY,Int.toNat_natCast]
 have hm:=mul_fit hai hbk
 have hp:=pin (i+k)
 have hp2:=phi (i+k) (by omega)
 have e1:i64.wrap (dg p (i+k)+i64.wrap (dg a i*dg b k))=dg p (i+k)+dg a i*dg b k:=by
  rw[jY (z:=dg a i*dg b k) (by omega) (by omega),jY (by omega) (by omega)]
 rw[e1]
 refine ar.some (.inl ⟨_,rfl,⟨by dsimp only;rw[cM];omega,fun j=>?_,fun j hj=>?_,by simp[pl],?_⟩,b0⟩)
 dsimp only
 rw[jD (by omega)]
 split
 omega
 exact pin j
 dsimp only
 rw[jD (by omega),if_neg (by omega)]
 exact phi j (by omega)
 dsimp only
 rw[ds_setl (by omega) (by omega),ps,dG]
 have:(65536:Int) ^ (i+k)=65536 ^ i*65536 ^ k:=Int.pow_add _ _ _
 grind
 have b0:k=b.length:=by have:=of_decide_eq_false h;omega
 subst b0
 refine ar.some (.inr ⟨_,rfl,pin,pl,?_⟩)
 rw[ps,dG]
 have:ds 65536 (dg b) b.length=lv b:=rfl
 rw[this]
 grind
 rintro p ⟨pin,pl,ps⟩
 have htot:ds 65536 (dg a) (i+1)*lv b<65536 ^ n:=by
  have h1:=qp (b:=65536) (by decide) (f:=dg a) (n:=i+1) fun j _=>ha j
  have h2:=ve hb
  have h3:=gh hb
  have h4:=eo (b:=65536) (by decide) (f:=dg a) (n:=i+1) fun j _=>(ha j).1
  have h5:ds 65536 (dg a) (i+1)*lv b<=65536 ^ (i+1)*65536 ^ b.length:=Int.mul_le_mul (by omega) (by omega) h3 (by omega)
  rw[← Int.pow_add] at h5
  have h6:(65536:Int) ^ (i+1+b.length)<65536 ^ n:=by
   have h7:(65536:Int) ^ (i+1+b.length+1)<=65536 ^ n:=qO (by omega)
   have h8:(0:Int)<65536 ^ (i+1+b.length):=Int.pow_pos (by decide)
   rw[Int.pow_succ] at h7
   omega
  omega
 refine ar.bind (P:=fun o=>cV 65536 o/\o.length=n/\lv o=ds 65536 (dg a) (i+1)*lv b) (ar.rounds n (fun k s=>s.2.2=(k:Int)/\0<=s.2.1/\s.2.1<4294967296/\(∀ j,0<=dg s.1 j)/\(∀ j,j<k->dg s.1 j<65536)/\(∀ j,k<=j->dg s.1 j=dg p j)/\s.1.length=n/\ds 65536 (dg s.1) k+s.2.1*65536 ^ k=ds 65536 (dg p) k) (by omega) ⟨rfl,Int.le_refl _,(by decide:(0:Int)<4294967296),fun j=>(pin j).1,fun j h=>absurd h (Nat.not_lt_zero j),fun j _=>rfl,pl,by simp[ds]⟩ ?_) ?_
 rintro k ⟨o,c,kx⟩ hk ⟨rfl,c0,c1,o0,olo,ohi,ol,os⟩
 dsimp only at c0 c1 o0 olo ohi ol os
 dsimp only[iJ]
 refine ar.ite (fun h=>?_) (fun h=>?_)
 have b0:k<n:=by have:=of_decide_eq_true h;omega
 have hpk:=pin k
 have hok:=ohi k (Nat.le_refl k)
 refine ar.idx (by omega) (by omega) ?_
 simp only[dY,Int.toNat_natCast,hok]
 rw[jY (by omega) (by omega),fl (by omega)]
 refine ar.ln (ar.idx (by omega) (by omega) (ar.quo (by decide) (ar.some (.inl ⟨_,rfl,?_,b0⟩))))
 rw[eR (by omega)]
 have hq:i64.wrap ((dg p k+c)/65536)=(dg p k+c)/65536:=by rw[cM];omega
 rw[hq]
 dsimp only
 refine⟨by rw[cM];omega,by omega,by omega,fun j=>?_,fun j hj=>?_,fun j hj=>?_,by simp[ol],?_⟩
 rw[jD (by omega)]
 split
 omega
 exact o0 j
 rw[jD (by omega)]
 split
 omega
 exact olo j (by omega)
 rw[jD (by omega),if_neg (by omega)];exact ohi j (by omega)
 have e1:ds 65536 (dg (o.set k ((dg p k+c)%65536))) (k+1)=ds 65536 (dg o) k+(dg p k+c)%65536*65536 ^ k:=yN fun i=>jD (by omega)
 rw[e1,dG,← os,Int.pow_succ]
 have e2:dg p k+c=(dg p k+c)%65536+(dg p k+c)/65536*65536:=by omega
 generalize (dg p k+c)%65536=u at *
 generalize (dg p k+c)/65536=v at *
 have e3:dg p k=u+v*65536-c:=by omega
 rw[e3]
 grind
 have b0:k=n:=by have:=of_decide_eq_false h;omega
 subst b0
 have b2:cV 65536 o:=fun j=>by
  by_cases hj:j<k
  exact⟨o0 j,olo j hj⟩
  rw[sn (by omega)];decide
 refine ar.some (.inr ⟨_,rfl,b2,ol,?_⟩)
 have hlo:=eo (b:=65536) (by decide) (f:=dg o) (n:=k) fun j _=>o0 j
 have hpw:(0:Int)<65536 ^ k:=Int.pow_pos (by decide)
 rw[ps] at os
 have hc:c=0:=by
  rcases (by omega:c=0∨1<=c) with h|h
  exact h
  have:1*(65536:Int) ^ k<=c*65536 ^ k:=Int.mul_le_mul_of_nonneg_right h (by omega)
  omega
 subst hc
 have:lv o=ds 65536 (dg o) k:=(wA (by omega)).symm
 omega
 rintro o ho
 exact ar.some ho
 rintro o ⟨o1,o2,o3⟩
 exact ar.some (.inl ⟨_,rfl,⟨by dsimp only;rw[cM];omega,o1,o2,o3⟩,b1⟩)
 have b1:i=a.length:=by have:=of_decide_eq_false h;omega
 subst b1
 exact ar.some (.inr ⟨_,rfl,oin,ol,os⟩)
 rintro o ⟨oin,ol,os⟩
 refine ar.bind (sJ (by omega) (by omega) oin) fun c hc=>ar.some ⟨hc.1,hc.2.1,by rw[hc.2.2.1,os],by have:=hc.2.2.2;omega⟩
end Go.Proofs.YtbcdabflmkgkiaaGreatDoor
namespace Go.Sk
theorem lv_cons (x:Int) (l:List Int):lv (x::l)=x+65536*lv l:=by
 unfold lv
 rw[List.length_cons,lP]
 rfl
theorem cons_in {x:Int} {l:List Int} (hx:0<=x/\x<65536) (h:cV 65536 l):cV 65536 (x::l):=fun i=>by
 cases i with
 | zero=>exact hx
 | succ i=>exact h i
theorem top3 {l:List Int} {n:Nat} (h:cV 65536 l) (hv:lv l<65536 ^ (n+3)):dg l (n+2)*4294967296+dg l (n+1)*65536+dg l n=lv l/65536 ^ n:=by
 have h0:=gh h
 have hp:(0:Int)<65536 ^ n:=Int.pow_pos (by decide)
 obtain⟨X,hX⟩:∃ X,X=lv l/65536 ^ n:=⟨_,rfl⟩
 have e1:lv l/65536 ^ (n+1)=X/65536:=by rw[Int.pow_succ,← Int.ediv_ediv_of_nonneg (Int.le_of_lt hp),hX]
 have e2:lv l/65536 ^ (n+2)=X/65536/65536:=by rw[show n+2=(n+1)+1 from rfl,Int.pow_succ,← Int.ediv_ediv_of_nonneg (Int.le_of_lt (Int.pow_pos (by decide))),e1]
 have hX0:0<=X:=by rw[hX];exact Int.ediv_nonneg h0 (Int.le_of_lt hp)
 have hX1:X<281474976710656:=by
  rw[hX,Int.ediv_lt_iff_lt_mul hp]
  have:(65536:Int) ^ (n+3)=281474976710656*65536 ^ n:=by rw[Int.pow_add,Int.mul_comm];rfl
  omega
 rw[wJ h,wJ h,wJ h,e1,e2,← hX]
 omega
theorem top2 {l:List Int} {n:Nat} (h:cV 65536 l) (hv:lv l<65536 ^ (n+2)):dg l (n+1)*65536+dg l n=lv l/65536 ^ n:=by
 have h0:=gh h
 have hp:(0:Int)<65536 ^ n:=Int.pow_pos (by decide)
 obtain⟨X,hX⟩:∃ X,X=lv l/65536 ^ n:=⟨_,rfl⟩
 have e1:lv l/65536 ^ (n+1)=X/65536:=by rw[Int.pow_succ,← Int.ediv_ediv_of_nonneg (Int.le_of_lt hp),hX]
 have hX0:0<=X:=by rw[hX];exact Int.ediv_nonneg h0 (Int.le_of_lt hp)
 have hX1:X<4294967296:=by
  rw[hX,Int.ediv_lt_iff_lt_mul hp]
  have:(65536:Int) ^ (n+2)=4294967296*65536 ^ n:=by rw[Int.pow_add,Int.mul_comm];rfl
  omega
 rw[wJ h,wJ h,e1,← hX]
 omega
theorem est_ge {t B R P:Int} (hP:0<P) (h0:0<=t) (h:t*B<=R):t*(B/P)<=R/P:=by
 rw[Int.le_ediv_iff_mul_le hP,Int.mul_assoc]
 have:=Int.ediv_mul_le B (by omega:P≠0)
 have:=Int.mul_le_mul_of_nonneg_left this h0
 omega
end Go.Sk
namespace Go.Proofs.YtbcdabflmkgkiaaGreatDoor
open Go Go.Sk
theorem at_y (F:Nat) (l:List Int) (k:Int):nH F l k=some (if k<0 then 0 else dg l k.toNat):=by
 refine ar.eq ?_
 unfold nH
 refine ar.ite (fun h=>?_) (fun h=>?_)
 have:=of_decide_eq_true h;rw[if_pos this];exact ar.some rfl
 have:=of_decide_eq_false h;rw[if_neg this];exact ar.aP (nL F (by omega)) (ar.some rfl)
theorem est {B R t:Int} {b r:List Int} (hb:cV 65536 b) (hr:cV 65536 r) (htb:kT b) (h0:0<b.length) (hB:lv b=B) (hR:lv r=R) (hlt:R<65536*B) (ht0:0<=t) (ht:t*B<=R) :
 t<=(dg r b.length*4294967296+dg r (b.length-1)*65536+(if (b.length:Int)-2<0 then 0 else dg r (b.length-2)))/(dg b (b.length-1)*65536+(if (b.length:Int)-2<0 then 0 else dg b (b.length-2)))/\0<dg b (b.length-1)*65536+(if (b.length:Int)-2<0 then 0 else dg b (b.length-2)):=by
 have htop:=htb h0
 have hb1:=hb (b.length-1)
 have hb2:=hb (b.length-2)
 have hBl:=ve hb
 rw[hB] at hBl
 have b0:0<dg b (b.length-1)*65536+(if (b.length:Int)-2<0 then 0 else dg b (b.length-2)):=by split<;>omega
 refine⟨?_,b0⟩
 rw[Int.le_ediv_iff_mul_le b0]
 generalize hL:b.length=L at *
 by_cases h1:L=1
 subst h1
 have e1:lv b=dg b 0:=by unfold lv;rw[hL];simp[ds]
 have b1:lv r<65536 ^ 2:=by rw[hR];have:(65536:Int) ^ 2=65536*65536:=by decide
                            have:(65536:Int) ^ 1=65536:=by decide
                            omega
 have e2:dg r 1*65536+dg r 0=lv r/65536 ^ 0:=top2 hr b1
 have e3:lv r/65536 ^ 0=R:=by rw[hR];simp
 have g1:(((1:Nat):Int)-2<0):=by decide
 rw[if_pos g1,if_pos g1]
 show t*(dg b 0*65536+0)<=dg r 1*4294967296+dg r 0*65536+0
 rw[Int.add_zero,Int.add_zero,← Int.mul_assoc,← e1,hB]
 omega
 obtain⟨m,hm⟩:∃ m,L=m+2:=⟨L-2,by omega⟩
 subst hm
 have g1:¬ (((m+2:Nat):Int)-2<0):=by omega
 rw[if_neg g1,if_neg g1]
 have hp:(0:Int)<65536 ^ m:=Int.pow_pos (by decide)
 have b1:lv r<65536 ^ (m+3):=by
  have:(65536:Int) ^ (m+3)=65536 ^ (m+2)*65536:=Int.pow_succ _ _
  omega
 have e1:=top3 hr b1
 have e2:=top2 hb (by rw[hB];exact hBl)
 show t*(dg b (m+1)*65536+dg b m)<=dg r (m+2)*4294967296+dg r (m+1)*65536+dg r m
 rw[e1,e2,hB,hR]
 exact est_ge hp ht0 ht
theorem Aj {F:Nat} (hF:100000<F) {a b:List Int} (ha:cV 65536 a) (hb:cV 65536 b) (htb:kT b) (h0:0<b.length) (la:a.length<=999) (lb:b.length<=999) :
 ar (j9 F a b) fun p=>(cV 65536 p.1/\kT p.1/\p.1.length<=a.length)/\(cV 65536 p.2/\kT p.2/\p.2.length<=b.length)/\lv a=lv p.1*lv b+lv p.2/\lv p.2<lv b:=by
 unfold j9
 have hBpos:0<lv b:=by have:=pA hb htb;have:=gh hb;omega
 have hBl:=ve hb
 have hmk:mk? (0:Int) (a.length:Int) (a.length:Int)=some (List.replicate a.length 0):=by
  unfold mk?
  rw[if_pos (by omega),Int.toNat_natCast]
 refine ar.aP hmk ?_
 have hw1:i64.wrap ((b.length:Int)-1)=((b.length-1:Nat):Int):=by rw[cM];omega
 have hw2:i64.wrap ((b.length:Int)-2)=(b.length:Int)-2:=by rw[cM];omega
 have hw3:i64.wrap ((a.length:Int)-1)=(a.length:Int)-1:=by rw[cM];omega
 rw[hw1,hw2,hw3]
 refine ar.idx (by omega) (by omega) (ar.aP (at_y F b _) ?_)
 simp only[dY,Int.toNat_natCast]
 have t2:((b.length:Int)-2).toNat=b.length-2:=by omega
 rw[t2]
 refine ar.bind (P:=fun p=>(cV 65536 p.1/\p.1.length=a.length)/\(cV 65536 p.2/\kT p.2/\p.2.length<=b.length)/\lv a=lv p.1*lv b+lv p.2/\lv p.2<lv b)
  (ar.rounds a.length (fun (k:Nat) (s:List Int×List Int×Int)=>s.2.2=(a.length:Int)-1-(k:Int)/\(cV 65536 s.1/\s.1.length=a.length)/\(cV 65536 s.2.1/\kT s.2.1)/\ds 65536 (fun i=>dg a (a.length-k+i)) k=ds 65536 (fun i=>dg s.1 (a.length-k+i)) k*lv b+lv s.2.1/\lv s.2.1<lv b/\∀ i,i<a.length-k->dg s.1 i=0) (by omega) ?_ ?_) ?_
 refine⟨by dsimp only;omega,⟨EW _,by simp⟩,⟨yH,fun h=>absurd h (Nat.lt_irrefl 0)⟩,?_,?_,fun i _=>dO⟩
 dsimp only
 rw[E4]
 simp[ds]
 dsimp only
 rw[E4];exact hBpos
 rintro k ⟨q,r,kx⟩ hk ⟨rfl,⟨qin,ql⟩,⟨rin,rt⟩,hs,b3,qz⟩
 dsimp only at qin ql rin rt hs b3 qz
 dsimp only[iJ]
 have hrl:r.length<=b.length:=vW rin rt (by omega)
 refine ar.ite (fun h=>?_) (fun h=>?_)
 have c0:k<a.length:=by have:=of_decide_eq_true h;omega
 have et:((a.length:Int)-1-(k:Int)).toNat=a.length-1-k:=by omega
 have hai:=ha (a.length-1-k)
 obtain⟨R,hR⟩:∃ R,R=dg a (a.length-1-k)+65536*lv r:=⟨_,rfl⟩
 have hr0:=gh rin
 have hR0:0<=R:=by omega
 have hRlt:R<65536*lv b:=by omega
 obtain⟨t,b5⟩:∃ t,t=R/lv b:=⟨_,rfl⟩
 have htB:t*lv b<=R:=by rw[b5];exact Int.ediv_mul_le _ (by omega)
 have htB2:R<(t+1)*lv b:=by rw[b5];exact Int.lt_ediv_add_one_mul_self _ hBpos
 have ht0:0<=t:=by rw[b5];exact Int.ediv_nonneg hR0 (by omega)
 have ht1:t<65536:=by rw[b5,Int.ediv_lt_iff_lt_mul hBpos];exact hRlt
 refine ar.bind (P:=fun p=>p.1=q.set (a.length-1-k) t/\cV 65536 p.2/\kT p.2/\lv p.2=R-t*lv b) ?_ ?_
 refine ar.idx (by omega) (by omega) ?_
 simp only[dY,et]
 refine ar.app (by simp;omega) ?_
 have c4:cV 65536 ([dg a (a.length-1-k)]++r):=cons_in hai rin
 have hcv:lv ([dg a (a.length-1-k)]++r)=R:=by rw[hR];exact lv_cons _ _
 refine ar.bind (sJ (by simp;omega) (by simp;omega) c4) ?_
 rintro c ⟨cin,ct,cv,cl⟩
 rw[hcv] at cv
 have clen:c.length<=b.length+1:=vW cin ct (by rw[cv,Int.pow_succ];omega)
 have he:=est hb cin htb h0 rfl cv hRlt ht0 htB
 refine ar.aP (at_y F c _) (ar.ln (ar.aP (at_y F c _) ?_))
 rw[if_neg (by omega),if_neg (by omega),Int.toNat_natCast,Int.toNat_natCast]
 have c1:=cin b.length
 have c2:=cin (b.length-1)
 have c3:=cin (b.length-2)
 have b1:=hb (b.length-1)
 have b2:=hb (b.length-2)
 refine ar.vE (dg c b.length*4294967296+dg c (b.length-1)*65536) (by simp only[cM];omega) (ar.ln (ar.aP (at_y F c _) ?_))
 rw[t2]
 generalize hg1:(if (b.length:Int)-2<0 then 0 else dg c (b.length-2))=x3 at *
 generalize hg2:(if (b.length:Int)-2<0 then 0 else dg b (b.length-2))=y3 at *
 have hx3:0<=x3/\x3<65536:=by rw[← hg1];split<;>omega
 have hy3:0<=y3/\y3<65536:=by rw[← hg2];split<;>omega
 refine ar.vE (dg b (b.length-1)*65536+y3) (by simp only[cM];omega) (ar.quo (by omega) ?_)
 have hnw:i64.wrap (dg c b.length*4294967296+dg c (b.length-1)*65536+x3)=dg c b.length*4294967296+dg c (b.length-1)*65536+x3:=by rw[cM];omega
 rw[hnw]
 generalize hnum:dg c b.length*4294967296+dg c (b.length-1)*65536+x3=num at *
 have b0:0<=num/\num<281474976710656:=by omega
 rw[eR b0.1]
 generalize hden:dg b (b.length-1)*65536+y3=den at *
 have hq0:0<=num/den:=Int.ediv_nonneg b0.1 (by omega)
 have hq1:num/den<=num:=Int.ediv_le_self _ b0.1
 rw[jY (by omega) (by omega)]
 obtain⟨d,hd⟩:∃ d,d=min 65535 (num/den):=⟨_,rfl⟩
 have hd0:t<=d/\d<=65535:=by omega
 rw[← hd]
 refine ar.bind (CL hF hb (tw (by decide) (x:=d) (by omega)) (by omega) (by simp)) ?_
 rintro p0 ⟨e0,p0t,p0v,p0l⟩
 rw[wI] at p0v
 refine ar.bind (P:=fun p=>p.1=t/\cV 65536 p.2/\p.2.length<=9999/\lv p.2=t*lv b) (ar.loop (fun (s:Int×List Int)=>t<=s.1/\s.1<=65535/\cV 65536 s.2/\s.2.length<=9999/\lv s.2=s.1*lv b) (fun s=>(s.1-t).toNat) ⟨hd0.1,hd0.2,e0,by simp at p0l;dsimp only;omega,by rw[p0v,Int.mul_comm]⟩ (by dsimp only;omega) ?_) ?_
 rintro⟨d,pt⟩ ⟨d1,d2,pin,pl,pv⟩
 dsimp only at d1 d2 pin pl pv
 dsimp only[bQ]
 refine ar.aP (E7 hF cin pin (by omega) pl) ?_
 rw[cv,pv]
 refine ar.ite (fun h=>?_) (fun h=>?_)
 have h':=of_decide_eq_true h
 have hdt:t<d:=by
  rcases (by omega:d=t∨t<d) with e|e
  subst e;omega
  exact e
 have hbd:lv b<=d*lv b:=by
  have:=Int.mul_le_mul_of_nonneg_right (show 1<=d by omega) (show 0<=lv b by omega)
  omega
 refine ar.bind (tL hF pin hb pl (by omega) (by rw[pv];exact hbd)) ?_
 rintro e ⟨e1,e2,e3,e4⟩
 have hwd:i64.wrap (d-1)=d-1:=by rw[cM];omega
 rw[hwd]
 refine ar.some (.inl ⟨_,rfl,⟨by dsimp only;omega,by dsimp only;omega,e1,by dsimp only;omega,?_⟩,by dsimp only;omega⟩)
 dsimp only
 rw[e3,pv,Int.sub_mul,Int.one_mul]
 have h':=of_decide_eq_false h
 have hdt:d=t:=by
  rcases (by omega:d=t∨t+1<=d) with e|e
  exact e
  have:=Int.mul_le_mul_of_nonneg_right e (show 0<=lv b by omega)
  omega
 subst hdt
 exact ar.some (.inr ⟨_,rfl,rfl,pin,pl,pv⟩)
 rintro⟨d,pt⟩ ⟨rfl,pin,pl,pv⟩
 dsimp only at pin pl pv
 dsimp only[bQ]
 refine ar.idx (by omega) (by omega) (ar.bind (tL hF cin pin (by omega) pl (by rw[cv,pv];exact htB)) ?_)
 rintro e ⟨e1,e2,e3,e4⟩
 exact ar.some ⟨rfl,e1,e2,by rw[e3,cv,pv]⟩
 rintro⟨q1,r1⟩ ⟨rfl,b4,r1t,e5⟩
 dsimp only at b4 r1t e5
 dsimp only[bQ]
 refine ar.some (.inl ⟨_,rfl,⟨by dsimp only;rw[cM];omega,⟨set_inl (by omega) qin ⟨ht0,ht1⟩,by simp[ql]⟩,⟨b4,r1t⟩,?_,?_,fun i hi=>?_⟩,c0⟩)
 dsimp only
 have ea:∀ (f:Nat->Int),ds 65536 (fun i=>f (a.length-(k+1)+i)) (k+1)=f (a.length-1-k)+65536*ds 65536 (fun i=>f (a.length-k+i)) k:=fun f=>by
  rw[lP]
  have e1:a.length-(k+1)+0=a.length-1-k:=by omega
  have e2:∀ i,a.length-(k+1)+(i+1)=a.length-k+i:=fun i=>by omega
  simp only[e1,e2]
 rw[ea (dg a),ea (dg (q.set (a.length-1-k) t)),e5,hR]
 have e3:dg (q.set (a.length-1-k) t) (a.length-1-k)=t:=by rw[jD (by omega),if_pos rfl]
 have e4:ds 65536 (fun i=>dg (q.set (a.length-1-k) t) (a.length-k+i)) k=ds 65536 (fun i=>dg q (a.length-k+i)) k:=dR fun i _=>by rw[jD (by omega),if_neg (by omega)]
 rw[e3,e4,hs]
 grind
 dsimp only
 rw[e5,Int.add_mul,Int.one_mul] at *
 omega
 dsimp only
 rw[jD (by omega),if_neg (by omega)]
 exact qz i (by omega)
 have c0:k=a.length:=by have:=of_decide_eq_false h;omega
 subst c0
 refine ar.some (.inr ⟨_,rfl,⟨qin,ql⟩,⟨rin,rt,hrl⟩,?_,b3⟩)
 have e1:∀ i,a.length-a.length+i=i:=fun i=>by omega
 simp only[e1] at hs
 have e2:ds 65536 (dg q) a.length=lv q:=by unfold lv;rw[ql]
 dsimp only
 rw[← e2]
 exact hs
 rintro⟨q,r⟩ ⟨⟨qin,ql⟩,⟨rin,rt,rl⟩,hs,b3⟩
 dsimp only at qin ql rin rt rl hs b3
 dsimp only[bQ]
 refine ar.bind (sJ (by omega) (by omega) qin) ?_
 rintro c ⟨cin,ct,cv,cl⟩
 exact ar.some ⟨⟨cin,ct,by dsimp only;omega⟩,⟨rin,rt,rl⟩,by dsimp only;rw[cv];exact hs,b3⟩
end Go.Proofs.YtbcdabflmkgkiaaGreatDoor
namespace Go.Sk
def fq (a b:Int):Int:=if decide (a<0) != decide (b<0) then -(aI a/aI b+if aI a%aI b=0 then 0 else 1) else aI a/aI b
def fr (a b:Int):Int :=
 let r:=aI a%aI b
 let r':=if (decide (a<0) != decide (b<0)) && !decide (r=0) then aI b-r else r
 if b<0 then -r' else r'
def xI (a b:Int):Option Int:=if b=0 then none else some (fq a b)
def remO (a b:Int):Option Int:=if b=0 then none else some (fr a b)
theorem lQ {b:Int} (h:b≠0):0<aI b:=by unfold aI;split<;>omega
theorem dT (b:Int):0<=aI b:=by unfold aI;split<;>omega
theorem fq_fr {a b:Int} (h:b≠0):a=b*fq a b+fr a b:=by
 have hp:=lQ h
 have hd:=Int.mul_ediv_add_emod (aI a) (aI b)
 have h0:=Int.emod_nonneg (aI a) (show aI b≠0 by omega)
 unfold fq fr
 dsimp only
 generalize aI a/aI b=q at *
 generalize aI a%aI b=r at *
 by_cases ha:a<0
 have ea:aI a = -a:=if_pos ha
 by_cases hb:b<0
 have eb:aI b = -b:=if_pos hb
 simp only[ha,hb,decide_true,bne_self_eq_false,Bool.false_eq_true,if_false,Bool.false_and,if_true]
 rw[ea,eb] at hd
 grind
 have eb:aI b=b:=if_neg hb
 have hx:(true != false)=true:=rfl
 simp only[ha,hb,decide_true,decide_false,hx,if_true,Bool.true_and,if_false]
 rw[ea,eb] at hd
 by_cases hr:r=0
 subst hr;simp;grind
 simp[hr];grind
 have ea:aI a=a:=if_neg ha
 by_cases hb:b<0
 have eb:aI b = -b:=if_pos hb
 have hx:(false != true)=true:=rfl
 simp only[ha,hb,decide_true,decide_false,hx,if_true,Bool.true_and]
 rw[ea,eb] at hd
 by_cases hr:r=0
 subst hr;simp;grind
 simp[hr];grind
 have eb:aI b=b:=if_neg hb
 simp only[ha,hb,decide_false,bne_self_eq_false,Bool.false_eq_true,if_false,Bool.false_and]
 rw[ea,eb] at hd
 omega
theorem Ac {a b:Int} (h:b≠0):aI (fr a b)<aI b/\(fr a b=0∨(decide (fr a b<0)=decide (b<0))):=by
 have hp:=lQ h
 have h0:=Int.emod_nonneg (aI a) (show aI b≠0 by omega)
 have h1:=Int.emod_lt_of_pos (aI a) hp
 unfold fr
 dsimp only
 generalize aI a%aI b=r at *
 have h2:∀ r',0<=r'->r'<aI b->aI (if b<0 then -r' else r')<aI b/\((if b<0 then -r' else r')=0∨decide ((if b<0 then -r' else r')<0)=decide (b<0)):=fun r' g0 g1=>by
  by_cases hb:b<0
  simp only[hb,if_true]
  refine⟨by unfold aI at *;split<;>omega,?_⟩
  rcases (by omega:r'=0∨0<r') with e|e
  left;omega
  right;rw[decide_eq_decide];simp;omega
  simp only[hb,if_false]
  refine⟨by unfold aI at *;split<;>omega,?_⟩
  right;rw[decide_eq_decide];simp;omega
 refine h2 _ ?_ ?_
 split<;>omega
 split
 next hc=>
  simp only[Bool.and_eq_true,Bool.not_eq_true',decide_eq_false_iff_not] at hc
  omega
 omega
theorem En {a b q r:Int} (h:b≠0) (e:a=b*q+r) (h1:aI r<aI b) (h2:r=0∨decide (r<0)=decide (b<0)):q=fq a b/\r=fr a b:=by
 have e2:=fq_fr (a:=a) h
 obtain⟨g1,g2⟩:=Ac (a:=a) h
 generalize fq a b=Q at *
 generalize fr a b=S at *
 have e3:b*(q-Q)=S-r:=by rw[Int.mul_sub];omega
 have h3:aI (S-r)<aI b:=by
  rw[decide_eq_decide] at h2 g2
  unfold aI at *
  split at h1<;>split at g1<;>split<;>split at h1<;>omega
 have h4:q=Q:=by
  rw[← e3,qU] at h3
  have hb:=lQ h
  rcases (by have:=dT (q-Q);omega:aI (q-Q)=0∨1<=aI (q-Q)) with g|g
  unfold aI at g;split at g<;>omega
  have:=Int.mul_le_mul_of_nonneg_left g (Int.le_of_lt hb)
  omega
 refine⟨h4,?_⟩
 rw[h4,Int.sub_self,Int.mul_zero] at e3
 omega
theorem xy {A B q r:Int} (h:A=q*B+r) (h0:0<=r) (h1:r<B):A/B=q/\A%B=r:=by
 have hB:B≠0:=by omega
 have e:A=r+B*q:=by rw[h,Int.mul_comm];omega
 constructor
 rw[e,Int.add_mul_ediv_left _ _ hB,Int.ediv_eq_zero_of_lt h0 h1,Int.zero_add]
 rw[e,Int.add_mul_emod_self_left,Int.emod_eq_of_lt h0 h1]
theorem r5 {b:Int}:aI b=0↔b=0:=by unfold aI;split<;>omega
theorem GL {p q:Int} (hq:q≠0) (hp:aI p<4611686018427387904):-4611686018427387905<fq p q/\fq p q<4611686018427387904:=by
 have hq0:0<=aI p/aI q:=Int.ediv_nonneg (dT p) (dT q)
 have hq1:aI p/aI q<=aI p:=Int.ediv_le_self _ (dT p)
 unfold fq
 split
 split<;>omega
 omega
theorem tq (n:Int) {m:Int} (hm:m≠0):Int.tdiv n m=(if decide (n<0) != decide (m<0) then -(aI n/aI m) else aI n/aI m)/\Int.tmod n m=(if n<0 then -(aI n%aI m) else aI n%aI m):=by
 have e:Int.tmod n m=if n<0 then -(aI n%aI m) else aI n%aI m:=by
  by_cases h1:n<0
  have e1:aI n = -n:=if_pos h1
  have e2:n = -(-n):=by omega
  rw[if_pos h1,e1]
  conv=>lhs;rw[e2]
  rw[Int.neg_tmod,fl (by omega)]
  congr 1
  by_cases h2:m<0
  rw[show aI m = -m from if_pos h2,Int.emod_neg]
  rw[show aI m=m from if_neg h2]
  have e1:aI n=n:=if_neg h1
  rw[if_neg h1,e1,fl (by omega)]
  by_cases h2:m<0
  rw[show aI m = -m from if_pos h2,Int.emod_neg]
  rw[show aI m=m from if_neg h2]
 refine⟨?_,e⟩
 by_cases h1:n<0
 have e1:aI n = -n:=if_pos h1
 have e2:n = -(-n):=by omega
 by_cases h2:m<0
 rw[show aI m = -m from if_pos h2,e1]
 simp only[h1,h2,decide_true,bne_self_eq_false,Bool.false_eq_true,if_false]
 conv=>lhs;rw[e2]
 rw[Int.neg_tdiv,← Int.tdiv_neg,eR (by omega)]
 rw[show aI m=m from if_neg h2,e1]
 have hx:(true != false)=true:=rfl
 simp only[h1,h2,decide_true,decide_false,hx,if_true]
 conv=>lhs;rw[e2]
 rw[Int.neg_tdiv,eR (by omega)]
 have e1:aI n=n:=if_neg h1
 by_cases h2:m<0
 rw[show aI m = -m from if_pos h2,e1]
 have hx:(false != true)=true:=rfl
 simp only[h1,h2,decide_true,decide_false,hx,if_true]
 rw[← Int.neg_neg m,Int.tdiv_neg,eR (by omega),Int.neg_neg]
 rw[show aI m=m from if_neg h2,e1]
 simp only[h1,h2,decide_false,bne_self_eq_false,Bool.false_eq_true,if_false]
 rw[eR (by omega)]
theorem fq_abs {a b:Int} (h:b≠0):aI (fq a b)<=aI a:=by
 have hp:=lQ h
 have hd:=Int.mul_ediv_add_emod (aI a) (aI b)
 have h0:=Int.emod_nonneg (aI a) (show aI b≠0 by omega)
 have h1:=Int.emod_lt_of_pos (aI a) hp
 have hq0:0<=aI a/aI b:=Int.ediv_nonneg (dT a) (by omega)
 have hq1:aI a/aI b<=aI a:=Int.ediv_le_self _ (dT a)
 have ha:=dT a
 unfold fq
 generalize aI a/aI b=q at *
 generalize aI a%aI b=r at *
 by_cases hr:r=0
 rw[if_pos hr]
 split<;>unfold aI at * <;> split<;>omega
 rw[if_neg hr]
 have:=Int.mul_le_mul_of_nonneg_right (show 2<=aI b by omega) hq0
 split
 have e:aI (-(q+1))=q+1:=by unfold aI;rw[if_pos (by omega)];omega
 omega
 have e:aI q=q:=by unfold aI;rw[if_neg (by omega)]
 omega
end Go.Sk
namespace Go.Proofs.YtbcdabflmkgkiaaGreatDoor
open Go Go.Sk
theorem rMul_y {F:Nat} (hF:100000<F) {x y:bY} (hx:mD x) (hy:mD y):jI F x y=some (two (fun a b=>some (a*b)) x y):=by
 refine ar.eq ?_
 unfold jI
 refine ar.aP (nE hF hx) ?_
 generalize hp:wd (iv x)=wx
 obtain⟨p,p'⟩:=wx
 refine ar.aP (nE hF hy) ?_
 generalize hq:wd (iv y)=wy
 obtain⟨q,q'⟩:=wy
 dsimp only[bQ]
 have hg:∀ (g:Bool) (n:Int),aT g (oH F n)=some (g&&(decide (n<2147483648)&&decide (-2147483648<n))):=fun g n=>by cases g<;>rfl
 refine ar.aP (hg _ _) (ar.aP (hg _ _) ?_)
 refine ar.ite (fun h=>?_) (fun h=>?_)
 simp only[Bool.and_eq_true,decide_eq_true_eq] at h
 obtain⟨⟨⟨rfl,rfl⟩,_,p2,p1⟩,_,q2,q1⟩:=h
 obtain⟨ha,la⟩:=nF hp
 obtain⟨hb,lb⟩:=nF hq
 have hm:-4611686018427387904<p*q/\p*q<4611686018427387904:=by
  have h1:aI p<2147483648:=by unfold aI;split<;>omega
  have h2:aI q<2147483648:=by unfold aI;split<;>omega
  have h3:=mC ⟨dT p,h1⟩ ⟨dT q,h2⟩
  rw[← qU] at h3
  unfold aI at h3
  split at h3<;>omega
 rw[jY (by omega) (by omega)]
 refine ar.aP (zK hF (by omega) (by omega)) (ar.some ?_)
 simp only[two,ha,hb,vD]
 clear h hp hq
 unfold two
 refine ar.aP (iG hF hx) ?_
 cases ha:iv x with
 | none=>simp only[dN ha,Bool.not_false,Bool.not_true];exact ar.g0 rfl (ar.zA (by simp) (ar.aP (mH F) (ar.some rfl)))
 | some a=>
  obtain⟨ga,rfl,ra⟩:=dF hx ha
  refine ar.g1 (by rw[ga];rfl) (ar.aP (iG hF hy) ?_)
  cases hb:iv y with
  | none=>simp only[dN hb,Bool.not_false,Bool.or_true,if_true];exact ar.aP (mH F) (ar.some rfl)
  | some b=>
   obtain⟨gb,rfl,rb⟩:=dF hy hb
   obtain⟨wa,na⟩:=di ra
   obtain⟨wb,nb⟩:=di rb
   simp only[ga,gb,Bool.not_true,Bool.or_self,Bool.false_eq_true,if_false,vD,na,nb]
   refine ar.bind (qc hF ra) ?_
   rintro c ⟨c1,c2,c3,c4⟩
   refine ar.bind (qc hF rb) ?_
   rintro d ⟨d1,d2,d3,d4⟩
   refine ar.bind (CL hF c1 d1 (by omega) (by omega)) ?_
   rintro e ⟨e1,_,e2,e3⟩
   refine ar.aP (vd hF _ (by omega) e1) (ar.some ?_)
   rw[e2,c3,d3]
   congr 1
   cases hs:(decide (a<0) != decide (b<0)) with
   | true=>rw[if_pos rfl,CQ hs]
   | false=>rw[if_neg (by simp),zV hs]
theorem floor_y (F:Nat) {n m:Int} (hm:m≠0) (hn:-4611686018427387904<n/\n<4611686018427387904):mU F n m=some (fq n m):=by
 refine ar.eq ?_
 unfold mU
 have hb:=lQ hm
 have hd:=Int.mul_ediv_add_emod (aI n) (aI m)
 have h0:=Int.emod_nonneg (aI n) (show aI m≠0 by omega)
 have hq0:0<=aI n/aI m:=Int.ediv_nonneg (dT n) (by omega)
 have hq1:aI n/aI m<=aI n:=Int.ediv_le_self _ (dT n)
 have hn2:aI n<4611686018427387904:=by unfold aI;split<;>omega
 obtain⟨k1,k3⟩:=tq n hm
 have k2:Int.tmod n m=0↔aI n%aI m=0:=by rw[k3];split<;>omega
 refine ar.quo hm ?_
 have hw:i64.wrap (Int.tdiv n m)=Int.tdiv n m:=by rw[k1];split<;>rw[jY (by omega) (by omega)]
 rw[hw]
 refine ar.bind (P:=(·=fq n m)) (ar.rem hm (ar.ln ?_)) (fun q hq=>ar.some hq)
 unfold fq
 rw[k1]
 refine ar.ite (fun h=>?_) (fun h=>?_)
 simp only[Bool.and_eq_true,decide_eq_true_eq] at h
 have h1:¬ aI n%aI m=0:=fun e=>h.1 (k2.2 e)
 refine ar.some ?_
 rw[h.2,if_pos rfl,if_pos rfl,if_neg h1,jY (by omega) (by omega)]
 omega
 refine ar.some ?_
 cases hs:(decide (n<0) != decide (m<0)) with
 | false=>rfl
 | true=>
  have h1:aI n%aI m=0:=by
   rw[hs] at h
   rw[← k2]
   simpa using h
  rw[if_pos rfl,if_pos rfl,if_pos h1]
  omega
end Go.Proofs.YtbcdabflmkgkiaaGreatDoor
namespace Go.Sk
end Go.Sk
namespace Go.Proofs.YtbcdabflmkgkiaaGreatDoor
open Go Go.Sk
theorem rQuo_y {F:Nat} (hF:100000<F) {x y:bY} (hx:mD x) (hy:mD y):mO F x y=some (two xI x y):=by
 refine ar.eq ?_
 unfold mO
 refine ar.aP (nE hF hx) ?_
 generalize hp:wd (iv x)=wx
 obtain⟨p,p'⟩:=wx
 refine ar.aP (nE hF hy) ?_
 generalize hq:wd (iv y)=wy
 obtain⟨q,q'⟩:=wy
 dsimp only[bQ]
 refine ar.ite (fun h=>?_) (fun h=>?_)
 simp only[Bool.and_eq_true,decide_eq_true_eq] at h
 obtain⟨⟨rfl,rfl⟩,b0⟩:=h
 obtain⟨ha,la⟩:=nF hp
 obtain⟨hb,lb⟩:=nF hq
 have hs:=GL b0 la
 refine ar.aP (floor_y F b0 (by unfold aI at la;split at la<;>omega)) (ar.aP (zK hF (by omega) (by omega)) (ar.some ?_))
 simp only[two,ha,hb,xI,b0,if_false,vD]
 clear h hp hq
 unfold two
 refine ar.aP (iG hF hx) ?_
 cases ha:iv x with
 | none=>simp only[dN ha,Bool.not_false,Bool.not_true];exact ar.g0 rfl (ar.g0 (by simp) (ar.zA (by simp) (ar.aP (mH F) (ar.some rfl))))
 | some a=>
  obtain⟨ga,rfl,ra⟩:=dF hx ha
  refine ar.g1 (by rw[ga];rfl) (ar.aP (iG hF hy) ?_)
  cases hb:iv y with
  | none=>simp only[dN hb,Bool.not_false,Bool.or_true];exact ar.g0 rfl (ar.zA (by simp) (ar.aP (mH F) (ar.some rfl)))
  | some b=>
   obtain⟨gb,rfl,rb⟩:=dF hy hb
   obtain⟨wa,na⟩:=di ra
   obtain⟨wb,nb⟩:=di rb
   simp only[ga,gb,Bool.not_true,Bool.or_self,Bool.false_or,Bool.not_false,na,nb]
   refine ar.g1 rfl (ar.bind (qc hF rb) ?_)
   rintro d0 ⟨d01,d02,d03,d04⟩
   have b1:=pA d01 d02
   rw[d03] at b1
   refine ar.ite (fun h=>?_) (fun h=>?_)
   have h':=of_decide_eq_true h
   have hz:b=0:=by
    rw[← r5]
    by_cases e:aI b=0
    exact e
    have:=b1.2 e;omega
   refine ar.aP (mH F) (ar.some ?_)
   simp only[xI,hz,if_true,vD]
   have h':=of_decide_eq_false h
   have hz:b≠0:=fun e=>b1.1 (by omega) (r5.2 e)
   refine ar.bind (qc hF ra) ?_
   rintro c ⟨c1,c2,c3,c4⟩
   refine ar.bind (qc hF rb) ?_
   rintro d ⟨d1,d2,d3,d4⟩
   have hd:=pA d1 d2
   rw[d3] at hd
   refine ar.bind (Aj hF c1 d1 d2 (hd.2 fun e=>hz (r5.1 e)) (by omega) (by omega)) ?_
   rintro⟨q,r⟩ ⟨⟨q1,q2,q3⟩,⟨r1,r2,r3⟩,e1,e2⟩
   dsimp only at q1 q2 q3 r1 r2 r3 e1 e2
   dsimp only[bQ]
   rw[c3,d3] at e1
   rw[d3] at e2
   obtain⟨m1,m2⟩:=xy e1 (gh r1) e2
   have hr:=pA r1 r2
   have hrl:(decide (0<(r.length:Int))) = !decide (aI a%aI b=0):=by
    have e0:(0<(r.length:Int))↔0<r.length:=by omega
    rw[m2,Bool.eq_iff_iff]
    simp only[decide_eq_true_eq,Bool.not_eq_true',decide_eq_false_iff_not]
    rw[e0]
    exact hr
   rw[hrl]
   refine ar.bind (P:=fun z=>cV 65536 z/\z.length<=9999/\lv z=aI a/aI b+(if ((decide (a<0) != decide (b<0)) && !decide (aI a%aI b=0))=true then 1 else 0)) (ar.ite (fun h=>?_) (fun h=>?_)) ?_
   refine ar.bind (yU hF q1 (tw (by decide) (x:=1) (by decide)) (by omega) (by simp)) ?_
   rintro e ⟨z1,_,z2,z3⟩
   refine ar.some ⟨z1,by simp at z3;omega,?_⟩
   rw[z2,wI,m1,if_pos h]
   refine ar.some ⟨q1,by omega,?_⟩
   rw[h,m1];simp
   rintro z ⟨z1,z2,z3⟩
   refine ar.aP (vd hF _ z2 z1) (ar.some ?_)
   rw[z3]
   simp only[xI,hz,if_false,vD,fq]
   congr 1
   cases (decide (a<0) != decide (b<0)) with
   | false=>simp
   | true=>by_cases e:aI a%aI b=0<;>simp[e]
end Go.Proofs.YtbcdabflmkgkiaaGreatDoor
namespace Go.Sk
theorem By {b:Int} {f:Nat->Int} {n k:Nat} (h:∀ i,n<=i->f i=0) (hk:n<=k):ds b f k=ds b f n:=mL hk fun i h1 _=>h i h1
theorem oy (n:Nat):(0:Int)<2 ^ n:=Int.pow_pos (by decide)
theorem yX {n:Nat} (h:n<=31):(2:Int) ^ n<=2147483648:=by
 have:=yW h
 have e:(2:Int) ^ 31=2147483648:=by decide
 omega
theorem shl_val {x:Int} {n:Nat} (hn:n<=31) (hx:0<=x/\x<4294967296):zE .u64 x (n:Int)=some (x*2 ^ n):=by
 unfold zE
 rw[if_neg (by omega)]
 have e4:min ((n:Int)).toNat IntKind.u64.bits=n:=by
  rw[Int.toNat_natCast]
  show min n 64=_
  omega
 have hp:=oy n
 have hq:=yX hn
 have h1:=Int.mul_nonneg hx.1 (Int.le_of_lt hp)
 have h2:x*2 ^ n<=4294967295*2147483648:=Int.mul_le_mul (by omega) hq (Int.le_of_lt hp) (by omega)
 rw[e4,gH]
 congr 1
 omega
theorem mid_of {X:Int} {n:Nat} (hn:n<=32):X%18446744073709551616/2 ^ n%4294967296=X/2 ^ n%4294967296:=by
 have hp:=oy n
 have e:(18446744073709551616:Int)=2 ^ n*(2 ^ (32-n)*4294967296):=by
  have:(18446744073709551616:Int)=2 ^ (n+(32-n)+32):=by rw[show n+(32-n)+32=64 by omega];decide
  rw[this,Int.pow_add,Int.pow_add,Int.mul_assoc];rfl
 have e2:X=X%18446744073709551616+2 ^ n*((2 ^ (32-n)*4294967296)*(X/18446744073709551616)):=by
  rw[← Int.mul_assoc,← e];exact (Int.emod_add_mul_ediv X 18446744073709551616).symm
 have e3:X/2 ^ n=X%18446744073709551616/2 ^ n+2 ^ (32-n)*4294967296*(X/18446744073709551616):=by
  rw[← Int.add_mul_ediv_left (X%18446744073709551616) _ (by omega:(2:Int) ^ n≠0),← e2]
 have e4:2 ^ (32-n)*4294967296*(X/18446744073709551616)=4294967296*(2 ^ (32-n)*(X/18446744073709551616)):=by grind
 rw[e3,e4,Int.add_mul_emod_self_left]
theorem av_pair {w:aZ} (h:cV 4294967296 w.l) (i:Nat):dg w.l i+dg w.l (i+1)*4294967296=av w/4294967296 ^ i%18446744073709551616:=by
 have h1:av w=ds 4294967296 (dg w.l) (16+(i+2)):=(By (fun j hj=>sn (by rw[aZ.cj];exact hj)) (by omega)).symm
 have h2:16+(i+2)=i+(2+16):=by omega
 rw[h1,h2,EN (by decide) h,gp]
 have e:ds 4294967296 (fun j=>dg w.l (i+j)) 2=dg w.l i+dg w.l (i+1)*4294967296:=by simp[ds]
 have p:(4294967296:Int) ^ 2=18446744073709551616:=by decide
 have a:=h i
 have b:=h (i+1)
 rw[e,p,Int.add_mul_emod_self_left]
 omega
theorem toA_ext {w:aZ} {z:Int} (h:∀ i,i<16->dg w.l i=nd 4294967296 z i):w=u7 z:=by
 have hin:cV 4294967296 w.l:=fun i=>by
  by_cases hi:i<16
  rw[h i hi];exact z6 _ _ (by decide) i
  rw[sn (by rw[aZ.cj];omega)];decide
 refine Dp hin ?_
 unfold av
 rw[dR h,EM (by decide)]
 rfl
end Go.Sk
namespace Go.Proofs.YtbcdabflmkgkiaaGreatDoor
open Go Go.Sk
theorem up_y {F:Nat} (hF:100<F) {w:aZ} (hw:cV 4294967296 w.l) {n:Nat} (hn:n<=31):ar (uA F w (n:Int)) fun p=>cV 4294967296 p.1.l/\0<=p.2/\p.2<2 ^ n/\av p.1+p.2*MM=av w*2 ^ n:=by
 unfold uA
 have hp:=oy n
 have hq:=yX hn
 refine ar.bind (P:=fun p=>cV 4294967296 p.1.l/\0<=p.2/\p.2<2 ^ n/\av p.1+p.2*MM=av w*2 ^ n) (ar.rounds 16 (fun (k:Nat) (s:aZ×Int×Int)=>s.2.2=(k:Int)/\cV 4294967296 s.1.l/\0<=s.2.1/\s.2.1<2 ^ n/\ds 4294967296 (dg s.1.l) k+s.2.1*4294967296 ^ k=ds 4294967296 (dg w.l) k*2 ^ n) (by omega) ⟨rfl,kC,Int.le_refl _,hp,by simp[ds]⟩ ?_) ?_
 rintro k ⟨o,c,kx⟩ hk ⟨rfl,oin,c0,c1,os⟩
 dsimp only at oin c0 c1 os
 dsimp only[iJ]
 refine ar.ite (fun h=>?_) (fun h=>?_)
 have b0:k<16:=by have:=of_decide_eq_true h;omega
 have hd:=hw k
 refine ar.idx (by omega) (by rw[aZ.cj];omega) ?_
 simp only[dY,Int.toNat_natCast]
 have hu:u64.wrap (dg w.l k)=dg w.l k:=by rw[gH];omega
 rw[hu]
 refine ar.aP (shl_val hn hd) ?_
 have hv:dg w.l k*2 ^ n<=4294967295*2 ^ n:=Int.mul_le_mul_of_nonneg_right (by omega) (by omega)
 have hv0:0<=dg w.l k*2 ^ n:=Int.mul_nonneg hd.1 (by omega)
 have b1:lx .u64 c (dg w.l k*2 ^ n)=dg w.l k*2 ^ n+c:=by
  rw[GI]
  exact pB n hv0 (by omega) (Int.mul_emod_left _ _) c0 c1 (by omega)
 rw[b1,l9]
 refine ar.ln (ar.idx (by omega) (by rw[aZ.cj];omega) (ar.some (.inl ⟨_,rfl,⟨by dsimp only;rw[cM];omega,jS oin (by omega) (by omega) (by omega),by dsimp only;omega,by dsimp only;omega,?_⟩,b0⟩)))
 dsimp only
 rw[aZ.sP b0,dG,Int.add_mul,← os,Int.pow_succ]
 have e2:dg w.l k*2 ^ n+c=(dg w.l k*2 ^ n+c)%4294967296+(dg w.l k*2 ^ n+c)/4294967296*4294967296:=by omega
 generalize (dg w.l k*2 ^ n+c)%4294967296=u at *
 generalize (dg w.l k*2 ^ n+c)/4294967296=v at *
 have e3:dg w.l k*2 ^ n=u+v*4294967296-c:=by omega
 have e4:dg w.l k*4294967296 ^ k*2 ^ n=(dg w.l k*2 ^ n)*4294967296 ^ k:=by grind
 rw[e4,e3]
 grind
 have b0:k=16:=by have:=of_decide_eq_false h;omega
 subst b0
 exact ar.some (.inr ⟨_,rfl,oin,c0,c1,os⟩)
 rintro⟨o,c⟩ ⟨oin,c0,c1,os⟩
 dsimp only at oin c0 c1 os
 dsimp only[bQ]
 have hu:u32.wrap c=c:=by rw[l9];omega
 rw[hu]
 exact ar.some ⟨oin,c0,c1,os⟩
theorem shr_val {x:Int} {n:Nat} (hn:n<=31):DC .u64 x (n:Int)=some (x/2 ^ n):=by
 unfold DC
 rw[if_neg (by omega)]
 have e4:min ((n:Int)).toNat IntKind.u64.bits=n:=by
  rw[Int.toNat_natCast]
  show min n 64=_
  omega
 rw[e4]
theorem p32':(2:Int) ^ 32=4294967296:=by decide
theorem down_y {F:Nat} (hF:100<F) {w:aZ} (hw:cV 4294967296 w.l) {n:Nat} (hn:n<=31):ow F w (n:Int)=some (u7 (av w/2 ^ n)):=by
 refine ar.eq ?_
 unfold ow
 have hp:=oy n
 refine ar.bind (P:=fun o=>o=u7 (av w/2 ^ n)) (ar.rounds 16 (fun (k:Nat) (s:aZ×Int)=>s.2=(k:Int)/\∀ i,i<k->dg s.1.l i=nd 4294967296 (av w/2 ^ n) i) (by omega) ⟨rfl,fun i h=>absurd h (Nat.not_lt_zero i)⟩ ?_) (fun o ho=>ar.some ho)
 rintro k ⟨o,kx⟩ hk ⟨rfl,os⟩
 dsimp only at os
 dsimp only[bQ]
 refine ar.ite (fun h=>?_) (fun h=>?_)
 have b0:k<16:=by have:=of_decide_eq_true h;omega
 have hd:=hw k
 have hd1:=hw (k+1)
 have hw1:i64.wrap ((k:Int)+1)=((k+1:Nat):Int):=by rw[cM];omega
 rw[hw1]
 refine ar.bind (P:=fun o'=>o'=o.set (k:Int) (nd 4294967296 (av w/2 ^ n) k)) ?_ ?_
 refine ar.bind (P:=fun z=>z=dg w.l (k+1)) ?_ ?_
 refine ar.ite (fun h=>?_) (fun h=>?_)
 have h':=of_decide_eq_true h
 refine ar.idx (by omega) (by rw[aZ.cj];omega) (ar.some ?_)
 simp only[dY,Int.toNat_natCast]
 rw[gH];omega
 have h':=of_decide_eq_false h
 exact ar.some (sn (by rw[aZ.cj];omega)).symm
 rintro z rfl
 refine ar.vE (dg w.l (k+1)*4294967296) (by rw[gH];omega) (ar.idx (by omega) (by rw[aZ.cj];omega) ?_)
 simp only[dY,Int.toNat_natCast]
 have hu:u64.wrap (dg w.l k)=dg w.l k:=by rw[gH];omega
 have b1:lx .u64 (dg w.l (k+1)*4294967296) (dg w.l k)=dg w.l (k+1)*4294967296+dg w.l k:=pB 32 (by omega) (by omega) (by rw[p32'];omega) hd.1 (by rw[p32'];omega) (by omega)
 rw[hu,b1]
 refine ar.aP (shr_val hn) (ar.idx (by omega) (by rw[aZ.cj];omega) (ar.some ?_))
 congr 1
 have e:dg w.l (k+1)*4294967296+dg w.l k=av w/4294967296 ^ k%18446744073709551616:=by rw[← av_pair hw];omega
 rw[e,l9,mid_of (by omega)]
 unfold nd
 rw[Int.ediv_ediv_of_nonneg (Int.le_of_lt (Int.pow_pos (by decide))),Int.ediv_ediv_of_nonneg (by omega),Int.mul_comm]
 rintro o' rfl
 refine ar.some (.inl ⟨_,rfl,⟨rfl,fun i hi=>?_⟩,b0⟩)
 dsimp only
 rw[fp (by omega) (by omega),Int.toNat_natCast]
 split
 next e=>rw[e]
 exact os i (by omega)
 have b0:k=16:=by have:=of_decide_eq_false h;omega
 subst b0
 exact ar.some (.inr ⟨_,rfl,toA_ext os⟩)
theorem short_y {F:Nat} (hF:100<F) {a:aZ} (ha:cV 4294967296 a.l) {b:Int} (hb:0<b/\b<4294967296):oE F a b=some (u7 (av a/b),av a%b):=by
 refine ar.eq ?_
 unfold oE
 have hub:u64.wrap b=b:=by rw[gH];omega
 rw[hub]
 refine ar.bind (P:=fun p=>p=(u7 (av a/b),av a%b)) (ar.rounds 16 (fun (k:Nat) (s:aZ×Int×Int)=>s.2.2=15-(k:Int)/\cV 4294967296 s.1.l/\0<=s.2.1/\s.2.1<b/\ds 4294967296 (fun i=>dg a.l (16-k+i)) k=ds 4294967296 (fun i=>dg s.1.l (16-k+i)) k*b+s.2.1) (by omega) ⟨by decide,kC,Int.le_refl _,hb.1,by simp[ds]⟩ ?_) ?_
 rintro k ⟨q,r,kx⟩ hk ⟨rfl,qin,r0,r1,hs⟩
 dsimp only at qin r0 r1 hs
 dsimp only[iJ]
 refine ar.ite (fun h=>?_) (fun h=>?_)
 have b0:k<16:=by have:=of_decide_eq_true h;omega
 have et:(15-(k:Int)).toNat=15-k:=by omega
 have hd:=ha (15-k)
 refine ar.idx (by omega) (by rw[aZ.cj];omega) ?_
 simp only[dY,et]
 have hu:u64.wrap (dg a.l (15-k))=dg a.l (15-k):=by rw[gH];omega
 have hr:u64.wrap (r*4294967296)=r*4294967296:=by rw[gH];omega
 have b1:lx .u64 (r*4294967296) (dg a.l (15-k))=r*4294967296+dg a.l (15-k):=pB 32 (by omega) (by omega) (by rw[Cr];omega) hd.1 (by rw[Cr];omega) (by omega)
 rw[hu,hr,b1]
 obtain⟨v,hv⟩:∃ v,v=r*4294967296+dg a.l (15-k):=⟨_,rfl⟩
 rw[← hv]
 have b2:0<=v:=by omega
 have hd1:=Int.mul_ediv_add_emod v b
 have hm0:=Int.emod_nonneg v (show b≠0 by omega)
 have hm1:=Int.emod_lt_of_pos v hb.1
 have hq0:0<=v/b:=Int.ediv_nonneg b2 (by omega)
 have hq1:v/b<4294967296:=by rw[Int.ediv_lt_iff_lt_mul hb.1];omega
 refine ar.ln (ar.quo (by omega) (ar.idx (by omega) (by rw[aZ.cj];omega) (ar.rem (by omega) (ar.some (.inl ⟨_,rfl,?_,b0⟩)))))
 rw[eR b2,fl b2]
 have e1:u32.wrap (u64.wrap (v/b))=v/b:=by simp only[l9,gH];omega
 rw[e1]
 have ei:(15-(k:Int))=((15-k:Nat):Int):=by omega
 dsimp only
 refine⟨by rw[cM];omega,by rw[ei];exact jS qin (by omega) (by omega) (by omega),hm0,hm1,?_⟩
 have ea:∀ (f:Nat->Int),ds 4294967296 (fun i=>f (16-(k+1)+i)) (k+1)=f (15-k)+4294967296*ds 4294967296 (fun i=>f (16-k+i)) k:=fun f=>by
  rw[lP]
  have e1:16-(k+1)+0=15-k:=by omega
  have e2:∀ i,16-(k+1)+(i+1)=16-k+i:=fun i=>by omega
  simp only[e1,e2]
 rw[ea (dg a.l),ea (dg (q.set (15-(k:Int)) (v/b)).l),ei]
 have e3:dg (q.set ((15-k:Nat):Int) (v/b)).l (15-k)=v/b:=by rw[fp (by omega) (by omega),Int.toNat_natCast,if_pos rfl]
 have e4:ds 4294967296 (fun i=>dg (q.set ((15-k:Nat):Int) (v/b)).l (16-k+i)) k=ds 4294967296 (fun i=>dg q.l (16-k+i)) k:=dR fun i _=>by rw[fp (by omega) (by omega),Int.toNat_natCast,if_neg (by omega)]
 rw[e3,e4,hs]
 generalize v/b=Q at *
 generalize v%b=M at *
 grind
 have b0:k=16:=by have:=of_decide_eq_false h;omega
 subst b0
 refine ar.some (.inr ⟨_,rfl,?_⟩)
 have e1:∀ i,16-16+i=i:=fun i=>by omega
 simp only[e1] at hs
 have hs':av a=av q*b+r:=hs
 have hm:=Int.emod_emod_of_dvd
 have hB:b≠0:=by omega
 have e:av a=r+b*av q:=by rw[hs',Int.mul_comm];omega
 have q1:av a/b=av q:=by rw[e,Int.add_mul_ediv_left _ _ hB,Int.ediv_eq_zero_of_lt r0 r1,Int.zero_add]
 have q2:av a%b=r:=by rw[e,Int.add_mul_emod_self_left,Int.emod_eq_of_lt r0 r1]
 rw[q1,q2,qv qin]
 rintro⟨q,r⟩ he
 dsimp only[bQ]
 cases he
 refine ar.some ?_
 have hm0:=Int.emod_nonneg (av a) (show b≠0 by omega)
 have hm1:=Int.emod_lt_of_pos (av a) hb.1
 have:u32.wrap (av a%b)=av a%b:=by rw[l9];omega
 rw[this]
end Go.Proofs.YtbcdabflmkgkiaaGreatDoor
