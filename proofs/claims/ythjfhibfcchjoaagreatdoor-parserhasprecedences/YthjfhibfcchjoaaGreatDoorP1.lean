/- the plain law, the contract -/
import Derived.Test.YthjfhibfcchjoaaGreatDoorR1
import Derived.Lib.LaidTab
import Derived.OpenShut
import Derived.Deep.DeepHandedRow
set_option linter.unusedSectionVars false
set_option linter.unusedSimpArgs false
set_option linter.unusedVariables false
open Go.IntKind (i8 i16 i32 i64 u8 u16 u32 u64)
namespace Go.Sk
open Go
section
variable {α σ σ1 σ2 σ3 τ:Type} [Inhabited α]
private theorem ea_aux {l:List α} {S:Type} {body:S×Int->Option ((S×Int)⊕τ)} {Q:τ->Prop} {F:Nat} {s0:S} (I:List α->S->Prop) (hF:l.length<F) (hL:l.length<=9223372036854775807) (h0:I [] s0)
 (step:∀ pre x post s,l=pre++x::post->aD l (pre.length:Int)=Option.some x->I pre s->dj (body (s,(pre.length:Int))) fun o=>(∃ s',o=.inl (s',i64.wrap ((pre.length:Int)+1))/\I (pre++[x]) s')∨∃ t,o=.inr t/\Q t)
 (fin:∀ s,I l s->dj (body (s,(l.length:Int))) fun o=>∃ t,o=.inr t/\Q t):dj (iter F body (s0,0)) Q:=by
 refine dj.rounds (n:=l.length) (I:=fun k s=>k<=l.length/\s.2=(k:Int)/\I (l.take k) s.1) hF ⟨Nat.zero_le _,rfl,by simpa using h0⟩ ?_
 rintro k ⟨s,i⟩ hk ⟨hk',hi,hI⟩
 simp only at hi hI
 subst hi
 by_cases hc:k<l.length
 have e:l=l.take k++l[k]::l.drop (k+1):=by rw[← List.drop_eq_getElem_cons hc,List.take_append_drop]
 have hl:(l.take k).length=k:=by rw[List.length_take];omega
 have hx:aD l ((l.take k).length:Int)=Option.some l[k]:=by
  rw[hl,zT (by omega) (by omega),DB _ _ hc]
 have h:=step (l.take k) l[k] (l.drop (k+1)) s e hx hI
 rw[hl] at h
 refine h.mono fun o ho=>?_
 rcases ho with ⟨s',rfl,h⟩|h
 refine .inl ⟨_,rfl,⟨by omega,?_,?_⟩,hc⟩
 show i64.wrap ((k:Int)+1)=_
 rw[J6 (by omega) (by omega)];push_cast;rfl
 rw[List.take_succ_eq_append_getElem hc];exact h
 exact .inr h
 have:k=l.length:=by omega
 subst this
 rw[List.take_length] at hI
 refine (fin s hI).mono fun o ho=>.inr ho
theorem dj.ea1 {l:List α} {A:Int->Option (Int⊕τ)} {g:τ} {Q:τ->Prop} {F:Nat} (I:List α->Prop) (hF:l.length<F) (hL:l.length<=9223372036854775807) (h0:I [])
 (step:∀ pre x post,l=pre++x::post->aD l (pre.length:Int)=Option.some x->I pre->dj (A (pre.length:Int)) fun o=>(o=.inl (i64.wrap ((pre.length:Int)+1))/\I (pre++[x]))∨∃ t,o=.inr t/\Q t)
 (fin:I l->Q g):dj (iter F (fun i=>if decide (i<(l.length:Int))=true then A i else Option.some (.inr g)) 0) Q:=by
 refine dj.rounds (n:=l.length) (I:=fun k s=>k<=l.length/\s=(k:Int)/\I (l.take k)) hF ⟨Nat.zero_le _,rfl,by simpa using h0⟩ ?_
 rintro k _ hk ⟨hk',rfl,hI⟩
 by_cases hc:k<l.length
 have e:l=l.take k++l[k]::l.drop (k+1):=by rw[← List.drop_eq_getElem_cons hc,List.take_append_drop]
 have hl:(l.take k).length=k:=by rw[List.length_take];omega
 have hx:aD l ((l.take k).length:Int)=Option.some l[k]:=by
  rw[hl,zT (by omega) (by omega),DB _ _ hc]
 have h:=step (l.take k) l[k] (l.drop (k+1)) e hx hI
 rw[hl] at h
 rw[if_pos (by simpa using hc)]
 refine h.mono fun o ho=>?_
 rcases ho with ⟨rfl,h⟩|h
 refine .inl ⟨_,rfl,⟨by omega,?_,?_⟩,hc⟩
 rw[J6 (by omega) (by omega)];push_cast;rfl
 rw[List.take_succ_eq_append_getElem hc];exact h
 exact .inr h
 have:k=l.length:=by omega
 subst this
 rw[List.take_length] at hI
 rw[if_neg (by simp)]
 exact dj.some (.inr ⟨_,rfl,fin hI⟩)
private theorem sum_id {A B:Type} (o:Option (A⊕B)):o.map (cz (fun s=>Sum.inl s) Sum.inr)=o:=by
 cases o with
 | none=>rfl
 | some o=>cases o<;>rfl
theorem dj.find {υ:Type} {l:List α} {c:α->Bool} {r:α->υ} {Q:Unit⊕υ->Prop} {F:Nat} (hF:l.length<F) (hL:l.length<=9223372036854775807) (h1:(∀ x∈l,c x=false)->Q (.inl ())) (h2:∀ pre x post,l=pre++x::post->(∀ y∈pre,c y=false)->c x=true->Q (.inr (r x))) {A:Int->Option (Int⊕(Unit⊕υ))}
 (hA:∀ (i:Int) x,aD l i=Option.some x->A i=if c x=true then Option.some (.inr (.inr (r x))) else Option.some (.inl (i64.wrap (i+1)))) :
 dj (iter F (fun i=>if decide (i<(l.length:Int))=true then A i else Option.some (.inr (.inl ()))) 0) Q:=by
 refine dj.ea1 (fun pre=>∀ x∈pre,c x=false) hF hL (by simp) (fun pre x post e hx hI=>?_) fun h=>h1 h
 rw[hA _ x hx]
 refine dj.ite (fun h=>dj.some (.inr ⟨_,rfl,h2 pre x post e hI h⟩)) fun h=>dj.some (.inl ⟨rfl,fun y hy=>?_⟩)
 rcases List.mem_append.1 hy with hy|hy
 exact hI y hy
 rw[List.mem_singleton.1 hy];exact h
end
end Go.Sk
namespace Go.Dn.X
open Go Go.Sk Go.Dn Go.Proofs
def oY (b:UInt8):Bool:=decide (48<=b)&&decide (b<=57)
def isL (b:UInt8):Bool:=(decide (97<=b)&&decide (b<=122))||(decide (65<=b)&&decide (b<=90))
def IQ (b:UInt8):Bool:=isL b||oY b||decide (b=95)
def F4 (b:UInt8):Bool:=decide (b=32)||decide (b=9)||decide (b=10)||decide (b=13)
def isC (b:UInt8):Bool:=decide (b≠10)
theorem uB {p:UInt8->Bool} (h:∀ i:Fin 256,p (UInt8.ofNat i.val)=true) (x:UInt8):p x=true:=by
 have:=h ⟨x.toNat,x.toNat_lt⟩
 simpa using this
theorem yp (F:Nat) (x:UInt8):eO F (x.toNat:Int)=some (isL x):=by
 have h:∀ x:UInt8,decide (((decide (97<=(JJ .u8 (x.toNat:Int) 32))&&decide ((JJ .u8 (x.toNat:Int) 32)<=122))&&decide ((x.toNat:Int)<128))=isL x)=true:=uB (by decide +kernel)
 have h:=of_decide_eq_true (h x)
 unfold eO
 show some (_&&_)=_
 rw[h]
theorem A0 (F:Nat) (x:UInt8):gK F (x.toNat:Int)=some (oY x):=by
 have h:∀ x:UInt8,decide ((decide (48<=(x.toNat:Int))&&decide ((x.toNat:Int)<=57))=oY x)=true:=uB (by decide +kernel)
 have h:=of_decide_eq_true (h x)
 unfold gK
 rw[h]
theorem toNat_eq (x:UInt8) (n:Nat) (hn:n<256):decide ((x.toNat:Int)=(n:Int))=decide (x=UInt8.ofNat n):=by
 apply decide_eq_decide.2
 constructor
 intro h
 have:x.toNat=n:=by omega
 rw[← this];simp
 rintro rfl
 simp;omega
theorem fn_name (F:Nat) (x:UInt8):gl F 127 (x.toNat:Int)=some (IQ x):=by
 unfold gl fu
 rw[if_pos rfl,yp,A0]
 have h:=toNat_eq x 95 (by decide)
 simp only[Option.bind_some]
 cases hl:isL x<;>cases hd:oY x<;>simp[aW,IQ,hl,hd]<;>simpa using h
theorem AY (F:Nat) (x:UInt8):gl F 128 (x.toNat:Int)=some (oY x):=by
 unfold gl
 rw[if_neg (by decide),if_pos rfl,A0]
theorem Mj (F:Nat) (x:UInt8):gl F 133 (x.toNat:Int)=some (F4 x):=by
 unfold gl fq gR j9 vP
 rw[if_neg (by decide),if_neg (by decide),if_pos rfl]
 have h:∀ x:UInt8,decide (decide (0<=Lib.indexByte [32,9,10,13] (x.toNat:Int).toNat.toUInt8)=F4 x)=true:=uB (by decide +kernel)
 simpa using of_decide_eq_true (h x)
theorem Hd (F:Nat) (x:UInt8):gl F 135 (x.toNat:Int)=some (isC x):=by
 unfold gl fp isC
 rw[if_neg (by decide),if_neg (by decide),if_neg (by decide),if_pos rfl]
 have h:=toNat_eq x 10 (by decide)
 simpa using h
theorem gQ {s:Str} {k:Nat} {b:UInt8} {r:Str} (h:s.drop k=b::r):k<s.length:=by
 have:=congrArg List.length h
 simp at this;omega
theorem ra {s:Str} {k:Nat} {b:UInt8} {r:Str} (h:s.drop k=b::r):s.drop (k+1)=r:=by
 have e:s.drop (k+1)=(s.drop k).drop 1:=by rw[List.drop_drop]
 rw[e,h];rfl
theorem drop_nil {s:Str} {k:Nat} (h:s.drop k=[]) (hk:k<=s.length):k=s.length:=by
 have:=congrArg List.length h
 simp at this;omega
theorem tm {s:Str} {k:Nat} {b:UInt8} {r:Str} (h:s.drop k=b::r):aD s (k:Int)=some b:=by
 have hk:=gQ h
 rw[zT (by omega) (by omega),DB _ _ hk]
 have:=List.drop_eq_getElem_cons hk
 rw[h] at this
 injection this with h1 h2
 rw[h1]
theorem wr {z:Int} (h1:0<=z) (h2:z<=1000000000):i64.wrap z=z:=J6 (by omega) (by omega)
theorem wk (k:Nat) (h:k<=100000000):i64.wrap ((k:Int)+1)=((k+1:Nat):Int):=by rw[wr (by omega) (by omega)];rfl
theorem DM {s:Str} {k:Nat} (p:UInt8->Bool):s.drop (k+((s.drop k).takeWhile p).length)=(s.drop k).dropWhile p:=by
 rw[← List.drop_drop]
 generalize s.drop k=r
 induction r with
 | nil=>rfl
 | cons b r ih=>
  by_cases hb:p b=true
  simp only[List.takeWhile_cons_of_pos hb,List.dropWhile_cons_of_pos hb,List.length_cons,List.drop_succ_cons];exact ih
  simp only[List.takeWhile_cons_of_neg hb,List.dropWhile_cons_of_neg hb];rfl
theorem Hr (p:UInt8->Bool) (r:Str):(r.takeWhile p).length<=r.length:=by
 induction r with
 | nil=>simp
 | cons b r ih=>
  by_cases hb:p b=true
  simp only[List.takeWhile_cons_of_pos hb,List.length_cons];omega
  simp only[List.takeWhile_cons_of_neg hb,List.length_nil];omega
theorem xK {s:Str} {k:Nat} (p:UInt8->Bool) (hk:k<=s.length):k+((s.drop k).takeWhile p).length<=s.length:=by
 have:=Hr p (s.drop k)
 rw[List.length_drop] at this;omega
theorem Fe {ι σ τ:Type} {body:σ->Option (σ⊕τ)} (st:ι->σ) (μ:ι->Nat) (I:ι->Prop) (Q:ι->τ->Prop)
 (step:∀ k,I k->(∃ j,body (st k)=some (.inl (st j))/\I j/\μ j<μ k/\∀ t,Q j t->Q k t)∨∃ t,body (st k)=some (.inr t)/\Q k t) :
 ∀ (G:Nat) (k:ι),I k->μ k<G->dj (iter G body (st k)) (Q k):=by
 intro G
 induction G with
 | zero=>intro k _ h;omega
 | succ G ih=>
  intro k hk hG
  rw[gi]
  rcases step k hk with ⟨j,h,hI,hm,hq⟩|⟨t,h,hq⟩
  rw[h]
  exact (ih j hI (by omega)).mono hq
  rw[h];exact⟨t,rfl,hq⟩
theorem Jf {σ τ:Type} {body:σ->Option (σ⊕τ)} {s:Str} (p:UInt8->Bool) (st:Nat->σ) (g:Nat->τ)
 (h1:∀ k b r,s.drop k=b::r->p b=true->body (st k)=some (.inl (st (k+1))))
 (h0:∀ k b r,s.drop k=b::r->p b=false->body (st k)=some (.inr (g k)))
 (he:body (st s.length)=some (.inr (g s.length))) :
 ∀ (F k:Nat),k<=s.length->s.length-k<F->iter F body (st k)=some (g (k+((s.drop k).takeWhile p).length)):=by
 intro F
 induction F with
 | zero=>intro k _ h;omega
 | succ F ih=>
  intro k hk hF
  rw[gi]
  cases hd:s.drop k with
  | nil=>
   have hk':=drop_nil hd hk
   subst hk'
   rw[he];rfl
  | cons b r=>
   have hlt:=gQ hd
   by_cases hb:p b=true
   rw[h1 k b r hd hb]
   show iter F body (st (k+1))=_
   rw[ih (k+1) (by omega) (by omega),ra hd,List.takeWhile_cons_of_pos hb,List.length_cons]
   congr 2;omega
   rw[h0 k b r hd (by simpa using hb),List.takeWhile_cons_of_neg hb];rfl
theorem xL {F fn:Nat} {s:Str} {k:Nat} {p:UInt8->Bool} (hp:∀ x:UInt8,gl F fn (x.toNat:Int)=some (p x)) (hk:k<=s.length) (hF:s.length<F) (hs:s.length<=100000000) :
 b5 F fn s (k:Int)=some (((((s.drop k).takeWhile p).length:Nat):Int),s,((k+((s.drop k).takeWhile p).length:Nat):Int)):=by
 unfold b5
 rw[Jf (s:=s) p (fun k=>(⟨s,(k:Int)⟩:Scan)) (fun k=>(⟨s,(k:Int)⟩:Scan)) ?_ ?_ ?_ F k hk (by omega)]
 have:=xK p hk
 generalize ((s.drop k).takeWhile p).length=n at *
 show some (i64.wrap (((k+n:Nat):Int)-(k:Int)),s,((k+n:Nat):Int))=some ((n:Int),s,((k+n:Nat):Int))
 rw[show ((k+n:Nat):Int)-(k:Int)=(n:Int) by omega,wr (by omega) (by omega)]
 intro k b r hd hb
 have b0:=gQ hd
 have e:decide ((k:Int)<(s.length:Int))=true:=by simpa using b0
 simp only[e,aW,if_true,tm hd,Option.bind_some,hp,hb,Bool.and_self]
 rw[wk k (by omega)]
 intro k b r hd hb
 have b0:=gQ hd
 have e:decide ((k:Int)<(s.length:Int))=true:=by simpa using b0
 simp only[e,aW,if_true,tm hd,Option.bind_some,hp,hb,Bool.and_false]
 rfl
 simp[aW]
def pk:Str->Int
 | []=>0
 | b::_=>(b.toNat:Int)
theorem oO (F:Nat) {s:Str} {k:Nat} (hk:k<=s.length):bp F s (k:Int)=some (pk (s.drop k)):=by
 unfold bp
 cases hd:s.drop k with
 | nil=>
  have:=drop_nil hd hk
  rw[if_pos (by simp;omega)];rfl
 | cons b r=>
  have hlt:=gQ hd
  rw[if_neg (by simp;omega),tm hd];rfl
def sk:Bool->Str->Str
 | _,[]=>[]
 | false,b::r=>if F4 b then sk false r else if b=35 then sk true r else b::r
 | true,b::r=>if b=10 then sk false r else sk true r
theorem s8:∀ (r:Str) (c:Bool),(sk c r).length<=r.length
 | [],c=>by cases c<;>simp[sk]
 | b::r,false=>by
  unfold sk
  have h1:=s8 r false
  have h2:=s8 r true
  split
  simp;omega
  split
  simp;omega
  simp
 | b::r,true=>by
  unfold sk
  have h1:=s8 r false
  have h2:=s8 r true
  split<;>simp<;>omega
theorem sk_sp (r:Str):sk false (r.dropWhile F4)=sk false r:=by
 induction r with
 | nil=>rfl
 | cons b r ih=>
  by_cases hb:F4 b=true
  rw[List.dropWhile_cons_of_pos hb,ih]
  show _=sk false (b::r)
  rw[sk,if_pos hb]
  rw[List.dropWhile_cons_of_neg hb]
theorem sk_cm (r:Str):sk false (r.dropWhile isC)=sk true r:=by
 induction r with
 | nil=>rfl
 | cons b r ih=>
  by_cases hb:b=10
  subst hb
  rw[List.dropWhile_cons_of_neg (by decide)]
  rw[sk,if_pos (by decide),sk,if_pos rfl]
  rw[List.dropWhile_cons_of_pos (by simpa[isC] using hb),ih]
  conv=>rhs;rw[sk,if_neg hb]
theorem sk_cm' (r:Str):sk false (35::r)=sk false ((35::r).dropWhile isC):=by
 rw[List.dropWhile_cons_of_pos (by decide),sk_cm,sk,if_neg (by decide),if_pos rfl]
theorem Dm:∀ (r:Str) (c:Bool),sk c r=r.drop (r.length-(sk c r).length)
 | [],c=>by cases c<;>rfl
 | b::r,c=>by
  have h1:=Dm r false
  have h2:=Dm r true
  have l1:=s8 r false
  have l2:=s8 r true
  have key:∀ t:Str,t.length<=r.length->t=r.drop (r.length-t.length)->t=(b::r).drop ((b::r).length-t.length):=by
   intro t hl ht
   have e:(b::r).length-t.length=(r.length-t.length)+1:=by simp only[List.length_cons];omega
   rw[e,List.drop_succ_cons];exact ht
  cases c
  by_cases hb:F4 b=true
  have e:sk false (b::r)=sk false r:=by rw[sk,if_pos hb]
  rw[e];exact key _ l1 h1
  by_cases hc:b=35
  have e:sk false (b::r)=sk true r:=by rw[sk,if_neg hb,if_pos hc]
  rw[e];exact key _ l2 h2
  have e:sk false (b::r)=b::r:=by rw[sk,if_neg hb,if_neg hc]
  rw[e];simp
  by_cases hb:b=10
  have e:sk true (b::r)=sk false r:=by rw[sk,if_pos hb]
  rw[e];exact key _ l1 h1
  have e:sk true (b::r)=sk true r:=by rw[sk,if_neg hb]
  rw[e];exact key _ l2 h2
def sp (s:Str) (k:Nat):Nat:=s.length-(sk false (s.drop k)).length
theorem Dk {s:Str} {k:Nat} (hk:k<=s.length):s.drop (sp s k)=sk false (s.drop k):=by
 have h:=Dm (s.drop k) false
 have hl:=s8 (s.drop k) false
 rw[List.length_drop] at h hl
 conv=>rhs;rw[h]
 rw[List.drop_drop]
 congr 1
 unfold sp;omega
theorem J7 {s:Str} {k:Nat} (hk:k<=s.length):k<=sp s k:=by
 have hl:=s8 (s.drop k) false
 rw[List.length_drop] at hl
 unfold sp;omega
theorem sp_of {s:Str} {k j:Nat} (h:sk false (s.drop j)=sk false (s.drop k)):sp s j=sp s k:=by unfold sp;rw[h]
theorem sp_end {s:Str} {k:Nat} (hk:k<=s.length) (h:sk false (s.drop k)=s.drop k):sp s k=k:=by
 unfold sp;rw[h,List.length_drop];omega
theorem IE {p:UInt8->Bool}:∀ {r:Str} {b:UInt8} {q:Str},r.dropWhile p=b::q->p b=false
 | [],_,_,h=>by cases h
 | a::r,b,q,h=>by
  by_cases ha:p a=true
  rw[List.dropWhile_cons_of_pos ha] at h;exact IE h
  rw[List.dropWhile_cons_of_neg ha] at h
  injection h with h1 h2
  subst h1;simpa using ha
theorem pk_35 {r:Str}:(pk r=35)↔∃ q,r=35::q:=by
 cases r with
 | nil=>simp[pk]
 | cons b q=>
  constructor
  intro h
  have h':(b.toNat:Int)=35:=h
  refine⟨q,?_⟩
  have:b=35:=by
   have h2:b.toNat=35:=by omega
   have:=congrArg UInt8.ofNat h2
   simpa using this
  rw[this]
  rintro⟨q',h⟩
  injection h with h1 h2
  subst h1;rfl
theorem sk_stop {r:Str} (h1:∀ b q,r=b::q->F4 b=false) (h2:∀ q,r≠35::q):sk false r=r:=by
 cases r with
 | nil=>rfl
 | cons b q=>
  rw[sk,if_neg (by rw[h1 b q rfl];simp),if_neg]
  rintro rfl
  exact h2 q rfl
theorem H6 {F:Nat} {s:Str} {k:Nat} (hk:k<=s.length) (hF:s.length<F) (hs:s.length<=100000000) :
 dF F s (k:Int)=some (s,((sp s k:Nat):Int)):=by
 unfold dF
 refine dj.eq (dj.bind (Fe (fun k:Nat=>(⟨s,(k:Int)⟩:Scan)) (fun k=>s.length-k) (fun k=>k<=s.length) (fun k t=>t=⟨s,((sp s k:Nat):Int)⟩) ?_ F k hk (by omega)) fun t ht=>?_)
 intro k hk
 have hr:=xL (F:=F) (Mj F) hk hF hs
 have hd:=DM (s:=s) (k:=k) F4
 have hle:=xK (s:=s) F4 hk
 have b0:=sk_sp (s.drop k)
 have hhd:=@IE F4 (s.drop k)
 dsimp only
 rw[hr]
 generalize ((s.drop k).takeWhile F4).length=a at *
 generalize hr1:(s.drop k).dropWhile F4=r1 at *
 simp only[Option.bind_some,Hl]
 rw[oO F hle,hd]
 by_cases hc:pk r1=35
 have hd2:=DM (s:=s) (k:=k+a) isC
 have b1:=xK (s:=s) isC hle
 obtain⟨q,rfl⟩:=pk_35.1 hc
 have hpos:0<((s.drop (k+a)).takeWhile isC).length:=by
  rw[hd,List.takeWhile_cons_of_pos (by decide)];simp
 refine .inl ⟨(k+a)+((s.drop (k+a)).takeWhile isC).length,?_,b1,by omega,?_⟩
 rw[xL (Hd F) hle hF hs]
 cases h0:decide (0<(a:Int))<;>simp[aW,hc]
 intro t ht
 rw[show sp s (k+a+((s.drop (k+a)).takeWhile isC).length)=sp s k from sp_of (by rw[hd2,hd,← sk_cm',b0])] at ht
 exact ht
 have hc':∀ q,r1≠35::q:=fun q h=>hc (pk_35.2 ⟨q,h⟩)
 by_cases ha:0<a
 refine .inl ⟨k+a,?_,hle,by omega,?_⟩
 have e0:decide (0<(a:Int))=true:=by simpa using ha
 simp only[e0,aW,Bool.not_true,Bool.true_or,if_true,Option.bind_some,hc,decide_false,Bool.false_eq_true,if_false]
 intro t ht
 rw[show sp s (k+a)=sp s k from sp_of (by rw[hd,b0])] at ht
 exact ht
 refine .inr ⟨⟨s,(((k+a:Nat)):Int)⟩,?_,?_⟩
 have e0:decide (0<(a:Int))=false:=by simpa using ha
 simp only[e0,aW,Bool.not_false,if_true,Option.bind_some,hc,decide_false,Bool.or_self,Bool.false_eq_true,if_false]
 have:a=0:=by omega
 subst this
 have hst:sk false r1=r1:=sk_stop (fun b q h=>hhd h) hc'
 rw[show sp s k=k+0 from sp_end hk (by rw[← b0,hst,← hd];rfl)]
 subst ht;exact dj.some rfl
def isW (t:Str):Bool:=decide (t∈gU)
theorem bs_in (G:Nat):gU.all (fun t=>decide (ix (G+100) t=some true))=true:=by kernel_rfl
theorem bs_out {F:Nat} (hF:100<F) {t:Str} (h:t ∉ gU):ix F t=some false:=by
 unfold ix dz
 have hl:(gU.length:Int)=36:=by decide
 rw[hl]
 refine dj.eq (dj.bind (P:=fun o:Int×Bool=>o.2=false) (dj.ln (dj.bind (P:=fun i:Int=>0<=i) (dj.loop (fun s:Int×Int=>0<=s.1/\s.1<=s.2/\s.2<=36) (fun s=>(s.2-s.1).toNat) (by decide) (by show (36:Int).toNat<F;have:(36:Int).toNat=36:=rfl;omega) ?_) (fun i hi=>?_))) ?_)
 rintro⟨i,j⟩ ⟨h0,h1,h2⟩
 simp only at h0 h1 h2
 refine dj.ite (fun hc=>?_) (fun hc=>dj.some (.inr ⟨_,rfl,h0⟩))
 have hc:=of_decide_eq_true hc
 have e1:i64.wrap (i+j)=i+j:=wr (by omega) (by omega)
 have e2:u64.wrap (i+j)=i+j:=by rw[wu64];omega
 have e3:i64.wrap ((i+j)/2)=(i+j)/2:=wr (by omega) (by omega)
 have e5:zm .u64 (i+j) (1:Int)=some ((i+j)/2):=rfl
 simp only[e1,e2,e5,e3,Option.bind_some,bA]
 refine dj.idx (by omega) (by rw[hl];omega) ?_
 unfold lX iA
 rw[Option.bind_some]
 have e4:decide (idx gU ((i+j)/2)≠idx gU ((i+j)/2))=false:=by simp
 rw[e4]
 refine dj.bindE (x:=Op.bytesLess (idx gU ((i+j)/2)) t) (by simp[aW]) ?_
 refine dj.ite (fun _=>dj.some (.inl ⟨_,rfl,?_,?_⟩)) (fun _=>dj.some (.inl ⟨_,rfl,?_,?_⟩))
 rw[wr (by omega) (by omega)];simp only;omega
 rw[wr (by omega) (by omega)];simp only;omega
 simp only;omega
 simp only;omega
 refine dj.ln ?_
 by_cases hc:i<36
 have e0:decide (i<36)=true:=by simpa using hc
 have e1:decide (idx gU i=t)=false:=by
  have hm:idx gU i∈gU:=by
   have:=idx_eq (xs:=gU) hi (by rw[hl];exact hc)
   exact List.mem_of_getElem? this
  simp only[decide_eq_false_iff_not]
  intro e;exact h (e▸hm)
 rw[e0]
 refine dj.g1 rfl (dj.idx hi (by rw[hl];exact hc) ?_)
 rw[e1]
 refine dj.ln (dj.g1 rfl (dj.idx hi (by rw[hl];exact hc) ?_))
 unfold fR
 simp only[Bool.not_false,Bool.and_self,aW,if_true,Option.bind_some,bA]
 have e4:decide (idx gU i≠idx gU i)=false:=by simp
 rw[e4]
 exact dj.some rfl
 have e0:decide (i<36)=false:=by simpa using hc
 rw[e0]
 simp only[Bool.false_and,aW,Bool.false_eq_true,if_false,Option.bind_some,bA]
 exact dj.some rfl
 rintro⟨i,b⟩ hb
 simp only at hb
 subst hb
 exact dj.some rfl
theorem word_ok {F:Nat} (hF:100<F) (t:Str):ix F t=some (isW t):=by
 by_cases h:t∈gU
 obtain⟨G,rfl⟩:∃ G,F=G+100:=⟨F-100,by omega⟩
 have:=of_decide_eq_true (List.all_eq_true.1 (bs_in G) t h)
 rw[this,isW,decide_eq_true h]
 rw[bs_out hF h,isW,decide_eq_false h]
inductive Tk where
 | bad (e:Int)
 | BT (k:Int) (t:Str) (n:Nat)
def Cm (r:Str):Tk:=if 32<(r.takeWhile IQ).length then .bad 2 else .BT (if isW (r.takeWhile IQ) then 1 else 2) (r.takeWhile IQ) (r.takeWhile IQ).length
def sN (r:Str):Nat×Nat:=match r.dropWhile oY with
 | 46::d::q=>if oY d then ((r.takeWhile oY).length+1+((d::q).takeWhile oY).length,(r.takeWhile oY).length+((d::q).takeWhile oY).length) else ((r.takeWhile oY).length,(r.takeWhile oY).length)
 | _=>((r.takeWhile oY).length,(r.takeWhile oY).length)
def hL:Str->Bool
 | []=>false
 | b::_=>isL b
def lu (r:Str):Bool:=hL r||decide (pk r=95)
def J5 (r:Str):Bool:=decide (1<(r.takeWhile oY).length)&&decide (pk r=48)
def IV (r:Str):Tk:=if 40<(sN r).2 then .bad 2 else if J5 r||lu (r.drop (sN r).1) then .bad 281 else .BT 3 (r.take (sN r).1) (sN r).1
def nn:Str->Option (Str×Nat)
 | []=>none
 | [b]=>if b=34 then some ([],1) else none
 | b::c::q=>if b=34 then some ([],1) else if b=92 then (if c=34∨c=92 then (nn q).map fun z=>(c::z.1,z.2+2) else none) else if 32<=b/\b<=126 then (nn (c::q)).map fun z=>(b::z.1,z.2+1) else none
def Cl (r:Str):Tk:=match nn (r.drop 1) with
 | none=>.bad 280
 | some z=>if 80<z.1.length then .bad 2 else .BT 4 z.1 (z.2+1)
def Ac (r:Str):Tk:=match ga.find? (fun g=>g.isPrefixOf r) with
 | none=>.bad 280
 | some g=>.BT 5 g g.length
def tok (r:Str):Tk:=match r with
 | []=>.bad 280
 | b::_=>if isL b then Cm r else if oY b then IV r else if b=34 then Cl r else Ac r
def Tk.res (s:Str) (k:Nat):Tk->(Token×Bool×Str×Int)⊕Problem
 | .bad e=>.inr ⟨(k:Int),e⟩
 | .BT kd t n=>.inl (⟨kd,(k:Int),t⟩,true,s,((k+n:Nat):Int))
theorem Ky {s:Str} {k n:Nat} (h:k+n<=s.length):BW s (k:Int) ((k+n:Nat):Int)=some ((s.drop k).take n):=by
 unfold BW
 rw[if_pos ⟨by omega,by omega,by omega⟩]
 congr 1
 simp only[Int.toNat_natCast]
 rw[List.drop_take]
 congr 1
 omega
theorem take_tw (p:UInt8->Bool) (r:Str):r.take (r.takeWhile p).length=r.takeWhile p:=by
 induction r with
 | nil=>rfl
 | cons b r ih=>
  by_cases hb:p b=true
  rw[List.takeWhile_cons_of_pos hb,List.length_cons,List.take_succ_cons,ih]
  rw[List.takeWhile_cons_of_neg hb];rfl
theorem wu (b:UInt8) (r:Str):pk (b::r)=(b.toNat:Int):=rfl
theorem yn (F:Nat) (r:Str):eO F (pk r)=some (hL r):=by
 cases r with
 | nil=>exact yp F 0
 | cons b r=>exact yp F b
theorem Kc (r:Str):decide (pk r=34)=match r with|[]=>false|b::_=>decide (b=34):=by
 cases r with
 | nil=>rfl
 | cons b r=>exact toNat_eq b 34 (by decide)
theorem pk_46 (r:Str):decide (pk r=46)=match r with|[]=>false|b::_=>decide (b=46):=by
 cases r with
 | nil=>rfl
 | cons b r=>exact toNat_eq b 46 (by decide)
theorem name_no {F:Nat} {s:Str} {k:Nat} {b:UInt8} {q:Str} (hd:s.drop k=b::q) (hb:isL b=false):bY F s (k:Int)=some (.inl (⟨0,0,[]⟩,false,s,(k:Int))):=by
 have hk:=gQ hd
 unfold bY
 rw[oO F (by omega),Option.bind_some,yn,hd,Option.bind_some]
 simp only[hL,hb,Bool.not_false,if_true]
theorem name_ok {F:Nat} {s:Str} {k:Nat} {b:UInt8} {q:Str} (hd:s.drop k=b::q) (hb:isL b=true) (hF:s.length<F) (hF2:100<F) (hs:s.length<=100000000):bY F s (k:Int)=some ((Cm (s.drop k)).res s k):=by
 have hk:=gQ hd
 unfold bY
 rw[oO F (by omega),Option.bind_some,yn,hd,Option.bind_some]
 simp only[hL,hb,Bool.not_true,Bool.false_eq_true,if_false]
 rw[xL (fn_name F) (by omega) hF hs,Option.bind_some]
 have hle:=xK (s:=s) IQ (Nat.le_of_lt hk)
 have htk:=take_tw IQ (s.drop k)
 rw[← hd]
 unfold Cm
 generalize hn:((s.drop k).takeWhile IQ).length=n at *
 simp only[Hl]
 by_cases h32:32<n
 rw[if_pos h32,if_pos (by simp;omega)];rfl
 rw[if_neg h32,if_neg (by simp;omega)]
 simp only[Option.bind_some,cz]
 rw[Ky hle,Option.bind_some,htk,word_ok hF2,Option.bind_some]
 cases isW ((s.drop k).takeWhile IQ)<;>rfl
theorem Ic (r:Str):(sN r).1<=r.length:=by
 have h1:=Hr oY r
 have h2:(r.takeWhile oY).length+(r.dropWhile oY).length=r.length:=by
  conv=>rhs;rw[← List.takeWhile_append_dropWhile (p:=oY) (l:=r),List.length_append]
 unfold sN
 split
 next d q h=>
  rw[h] at h2
  have h3:=Hr oY (d::q)
  split
  simp only[List.length_cons] at *;omega
  simp only;omega
 simp only;omega
theorem LR {r:Str} {d:UInt8} {q:Str} (h:r.dropWhile oY=46::d::q) (hd:oY d=true):sN r=((r.takeWhile oY).length+1+((d::q).takeWhile oY).length,(r.takeWhile oY).length+((d::q).takeWhile oY).length):=by
 unfold sN
 rw[h]
 simp only[hd,if_true]
theorem numL_no {r:Str} (h:∀ d q,r.dropWhile oY=46::d::q->oY d=false):sN r=((r.takeWhile oY).length,(r.takeWhile oY).length):=by
 unfold sN
 split
 next d q e=>rw[h d q e];rfl
 rfl
theorem Jp {F:Nat} {s:Str} {k:Nat} {b:UInt8} {q:Str} (hd:s.drop k=b::q) (hb:oY b=false) (hF:s.length<F) (hs:s.length<=100000000):bP F s (k:Int)=some (.inl (⟨0,0,[]⟩,false,s,(k:Int))):=by
 have hk:=gQ hd
 unfold bP
 rw[xL (AY F) (by omega) hF hs,Option.bind_some,hd,List.takeWhile_cons_of_neg (by simp[hb])]
 rfl
theorem Jo {F:Nat} {s:Str} {k:Nat} {b:UInt8} {q:Str} (hd:s.drop k=b::q) (hb:oY b=true) (hF:s.length<F) (hs:s.length<=100000000):bP F s (k:Int)=some ((IV (s.drop k)).res s k):=by
 have hk:=gQ hd
 unfold bP
 rw[xL (AY F) (by omega) hF hs,Option.bind_some]
 have hle:=xK (s:=s) oY (Nat.le_of_lt hk)
 have b3:=DM (s:=s) (k:=k) oY
 have hnl:=Ic (s.drop k)
 rw[List.length_drop] at hnl
 have ha:0<((s.drop k).takeWhile oY).length:=by rw[hd,List.takeWhile_cons_of_pos hb];simp
 have hz:J5 (s.drop k)=(decide (1<((s.drop k).takeWhile oY).length)&&decide ((b.toNat:Int)=48)):=by unfold J5;rw[hd];rfl
 have c3:=@LR (s.drop k)
 have c2:=@numL_no (s.drop k)
 generalize hA:((s.drop k).takeWhile oY).length=a at *
 simp only[Hl]
 rw[if_neg (by simp;omega)]
 refine dj.eq (dj.bind (P:=fun o:Scan×Int=>o=(⟨s,((k+(sN (s.drop k)).1:Nat):Int)⟩,((sN (s.drop k)).2:Int)-(a:Int))/\(sN (s.drop k)).2<=s.length) ?_ ?_)
 rw[oO F hle,b3,Option.bind_some,pk_46]
 cases h1:(s.drop k).dropWhile oY with
 | nil=>
  rw[c2 (by rw[h1];intro d q h;cases h)]
  simp only[Bool.false_and,aW,Bool.false_eq_true,if_false,Option.bind_some]
  exact dj.some ⟨by simp,by show a<=s.length;omega⟩
 | cons c r1=>
  rw[h1] at b3
  have hlt:=gQ b3
  have b0:=ra b3
  simp only
  by_cases hc:c=46
  subst hc
  cases r1 with
  | nil=>
   have hend:k+a+1=s.length:=drop_nil b0 (by omega)
   rw[c2 (by rw[h1];intro d q h;cases h)]
   have e1:decide (i64.wrap (((k+a:Nat):Int)+1)<(s.length:Int))=false:=by rw[wk (k+a) (by omega)];simp;omega
   simp only[e1,Bool.and_false,aW,Bool.false_eq_true,if_false,Option.bind_some]
   exact dj.some ⟨by simp,by show a<=s.length;omega⟩
  | cons d q1=>
   have hlt2:=gQ b0
   have e1:decide (((k+a+1:Nat):Int)<(s.length:Int))=true:=decide_eq_true (by omega)
   have e2:=tm b0
   simp only[wk (k+a) (by omega),e1,e2,decide_true,Bool.and_self,aW,if_true,Option.bind_some,A0,Bool.true_and]
   by_cases hg:oY d=true
   rw[c3 (d:=d) (q:=q1) (by rw[h1]) hg,hg,if_pos rfl,xL (AY F) (by omega) hF hs,Option.bind_some,b0]
   have h5:=xK (s:=s) (k:=k+a+1) oY (by omega)
   rw[b0] at h5
   generalize ((d::q1).takeWhile oY).length=m at *
   refine dj.some ⟨?_,by show a+m<=s.length;omega⟩
   show ((⟨s,((k+a+1+m:Nat):Int)⟩:Scan),(m:Int))=(⟨s,((k+(a+1+m):Nat):Int)⟩,((a+m:Nat):Int)-(a:Int))
   rw[show k+(a+1+m)=k+a+1+m by omega,show ((a+m:Nat):Int)-(a:Int)=(m:Int) by omega]
   have hg':oY d=false:=by simpa using hg
   rw[c2 (by rw[h1];intro d' q' h;injection h with _ h;injection h with h _;rw[← h];exact hg')]
   simp only[hg',Bool.and_false,Bool.false_eq_true,if_false]
   exact dj.some ⟨by simp,by show a<=s.length;omega⟩
  have e0:decide (c=46)=false:=by simpa using hc
  rw[c2 (by rw[h1];intro d q h;injection h with h _;exact absurd h hc)]
  simp only[e0,Bool.false_and,aW,Bool.false_eq_true,if_false,Option.bind_some]
  exact dj.some ⟨by simp,by show a<=s.length;omega⟩
 rintro o ⟨rfl,hc⟩
 simp only[qz]
 unfold IV
 have b1:k+(sN (s.drop k)).1<=s.length:=by omega
 have hu:=yn F (s.drop (k+(sN (s.drop k)).1))
 rw[← List.drop_drop] at hu
 have hp:=oO F b1
 rw[← List.drop_drop] at hp
 have b2:=Ky b1
 rw[hz]
 generalize sN (s.drop k)=nc at *
 obtain⟨n,c⟩:=nc
 simp only at *
 rw[show (a:Int)+((c:Int)-(a:Int))=(c:Int) by omega,wr (by omega) (by omega)]
 by_cases h40:40<c
 rw[if_pos h40,if_pos (by simp;omega)]
 exact dj.some rfl
 rw[if_neg h40,if_neg (by simp;omega)]
 have hi:=tm hd
 have e0:decide ((1:Int)<(a:Int))=decide (1<a):=by rw[decide_eq_decide];omega
 simp only[hi,hp,b2,e0,lu]
 rcases Bool.eq_false_or_eq_true (decide (1<a)) with hA|hA<;>rcases Bool.eq_false_or_eq_true (hL ((s.drop k).drop n)) with hl|hl<;>rcases Bool.eq_false_or_eq_true (decide (pk ((s.drop k).drop n)=95)) with hU|hU<;>rcases Bool.eq_false_or_eq_true (decide ((b.toNat:Int)=48)) with hB|hB<;>simp only[aW,hA,Bool.not_true,Bool.not_false,Bool.true_and,Bool.false_and,Bool.and_true,Bool.and_false,Bool.or_true,Bool.or_false,Bool.true_or,Bool.false_or,if_true,Bool.false_eq_true,if_false,Option.bind_some,hB,hu,hl,hU,bA,b2,cz,bq]<;>exact dj.some rfl
def inT (b:UInt8):Bool:=decide (32<=b)&&decide (b<=126)
theorem Gy (b:UInt8):(decide ((b.toNat:Int)<32)||decide (126<(b.toNat:Int))) = !inT b:=by
 have h:∀ b:UInt8,decide ((decide ((b.toNat:Int)<32)||decide (126<(b.toNat:Int))) = !inT b)=true:=uB (by decide +kernel)
 exact of_decide_eq_true (h b)
theorem k8 (b:UInt8) (r:Str):nn (b::r)=if b=34 then some ([],1) else if b=92 then (match r with|[]=>none|c::q=>if c=34∨c=92 then (nn q).map fun z=>(c::z.1,z.2+2) else none) else if inT b=true then (nn r).map fun z=>(b::z.1,z.2+1) else none:=by
 cases r with
 | nil=>
  by_cases h1:b=34
  simp[nn,h1]
  by_cases h2:b=92
  simp[nn,h2]
  by_cases h3:inT b=true<;>simp[nn,h1,h2,h3]
 | cons c q=>
  rw[nn]
  simp only[inT,Bool.and_eq_true,decide_eq_true_eq]
theorem uk:∀ (r:Str) (z:Str×Nat),nn r=some z->1<=z.2/\z.2<=r.length/\z.1.length<z.2
 | [],z,h=>by cases h
 | [b],z,h=>by
  rw[nn] at h
  split at h
  cases h;simp
  cases h
 | b::c::q,z,h=>by
  rw[k8] at h
  have h1:=uk q
  have h2:=uk (c::q)
  split at h
  cases h;simp
  split at h
  simp only at h
  split at h
  obtain⟨y,hy,rfl⟩:=Option.map_eq_some_iff.1 h
  have:=h1 y hy
  simp only[List.length_cons] at *
  omega
  cases h
  split at h
  obtain⟨y,hy,rfl⟩:=Option.map_eq_some_iff.1 h
  have:=h2 y hy
  simp only[List.length_cons] at *
  omega
  cases h
theorem Lq (t:Str):toStr (ofStr t)=t:=by
 unfold toStr ofStr
 rw[List.map_map]
 conv=>rhs;rw[← List.map_id t]
 congr 1
 funext c
 show UInt8.ofNat (c.toNat:Int).toNat=c
 simp
theorem text_no {F:Nat} {s:Str} {k:Nat} {b:UInt8} {q:Str} (hd:s.drop k=b::q) (hb:b≠34):bX F s (k:Int)=some (.inl (⟨0,0,[]⟩,false,s,(k:Int))):=by
 have hk:=gQ hd
 unfold bX
 rw[oO F (by omega),Option.bind_some,hd]
 have h34:decide (pk (b::q)=34)=decide (b=34):=Kc (b::q)
 rw[if_pos]
 rw[decide_not,h34];simp[hb]
theorem text_ok {F:Nat} {s:Str} {k:Nat} {q:Str} (hd:s.drop k=34::q) (hF:s.length<F) (hs:s.length<=100000000):bX F s (k:Int)=some ((Cl (s.drop k)).res s k):=by
 have hk:=gQ hd
 unfold bX
 rw[oO F (by omega),Option.bind_some,hd]
 rw[if_neg (by simp[pk]),wk k (by omega)]
 have hds:=ra hd
 refine dj.eq (dj.bind (Fe (ι:=Nat×List Int) (fun j=>((⟨s,(j.1:Int)⟩:Scan),j.2)) (fun j=>s.length-j.1) (fun j=>j.1<=s.length/\j.2.length<=j.1)
  (fun j t=>match nn (s.drop j.1) with|none=>t=.inr (.inr (⟨(k:Int),280⟩:Problem))|some z=>∃ i:Nat,i+1=j.1+z.2/\t=.inl (⟨s,(i:Int)⟩,j.2++ofStr z.1)) ?_ F (k+1,[]) ⟨by simp only;omega,by simp⟩ (by simp only;omega)) fun t ht=>?_)
 rintro⟨j,out⟩ ⟨hj,ho⟩
 simp only at hj ho
 simp only[qz]
 rw[oO F hj,Option.bind_some]
 cases hr:s.drop j with
 | nil=>
  rw[if_pos (by decide)]
  refine .inr ⟨_,?_,rfl⟩
  simp only[Option.bind_some,pk,bq,cz]
  rfl
 | cons b r=>
  have hlt:=gQ hr
  have c2:=ra hr
  have h34:decide (pk (b::r)=34)=decide (b=34):=Kc (b::r)
  have h92:decide (pk (b::r)=92)=decide (b=92):=toNat_eq b 92 (by decide)
  by_cases hb:b=34
  subst hb
  rw[if_neg (by simp[pk])]
  refine .inr ⟨_,rfl,?_⟩
  rw[k8,if_pos rfl]
  exact⟨j,rfl,by simp[ofStr]⟩
  rw[if_pos (by rw[decide_not,h34];simp[hb])]
  simp only[Option.bind_some]
  by_cases hc:b=92
  subst hc
  rw[if_pos (by simp[pk]),wk j (by omega),oO F (by omega),c2,Option.bind_some]
  cases hq:r with
  | nil=>
   refine .inr ⟨.inr (.inr (⟨(k:Int),280⟩:Problem)),?_,?_⟩
   rw[if_pos (by decide)]
   simp only[Option.bind_some,bq,cz]
   rw[k8,if_neg (by decide),if_pos rfl]
  | cons c q1=>
   have b0:=c2
   rw[hq] at b0
   have hlt2:=gQ b0
   have c34:decide (pk (c::q1)=34)=decide (c=34):=Kc (c::q1)
   have c92:decide (pk (c::q1)=92)=decide (c=92):=toNat_eq c 92 (by decide)
   by_cases b3:c=34∨c=92
   have b2:(decide ((pk (c::q1))<32)||decide (126<(pk (c::q1))))=false:=by
    rw[wu,Gy]
    rcases b3 with rfl|rfl<;>rfl
   refine .inl ⟨(j+2,out++[(c.toNat:Int)]),?_,⟨by simp only;omega,by simp;omega⟩,by simp only;omega,?_⟩
   rw[if_neg]
   simp only[Option.bind_some,cz,qz,b2]
   rw[if_neg (by decide)]
   simp only[Option.bind_some]
   rw[DW (by simp only[List.length_cons,List.length_nil];omega)]
   simp only[Option.bind_some,wu,cz,qz]
   rw[wk (j+1) (by omega)]
   rw[decide_not,decide_not,c34,c92]
   rcases b3 with rfl|rfl<;>decide
   intro t ht
   simp only at ht ⊢
   rw[show j+2=j+1+1 from rfl,ra b0] at ht
   rw[k8,if_neg (by decide),if_pos rfl]
   simp only[if_pos b3]
   cases hg:nn q1 with
   | none=>rw[hg] at ht;exact ht
   | some z=>
    rw[hg] at ht
    obtain⟨i,hi,ht⟩:=ht
    exact⟨i,by simp only;omega,by rw[ht];simp[ofStr]⟩
   refine .inr ⟨.inr (.inr (⟨(k:Int),280⟩:Problem)),?_,?_⟩
   rw[if_pos]
   simp only[Option.bind_some,bq,cz]
   rw[decide_not,decide_not,c34,c92]
   simpa using b3
   rw[k8,if_neg (by decide),if_pos rfl]
   simp only[if_neg b3]
  rw[if_neg (by rw[h92];simpa using hc)]
  simp only[Option.bind_some,cz,qz]
  by_cases b2:inT b=true
  have b1:(decide ((pk (b::r))<32)||decide (126<(pk (b::r))))=false:=by
   rw[wu,Gy,b2];rfl
  refine .inl ⟨(j+1,out++[(b.toNat:Int)]),?_,⟨by simp only;omega,by simp;omega⟩,by simp only;omega,?_⟩
  rw[b1,if_neg (by decide)]
  simp only[Option.bind_some]
  rw[DW (by simp only[List.length_cons,List.length_nil];omega)]
  simp only[Option.bind_some,wu,cz,qz]
  rw[wk j (by omega)]
  intro t ht
  simp only at ht ⊢
  rw[c2] at ht
  rw[k8,if_neg hb,if_neg hc,if_pos b2]
  cases hg:nn r with
  | none=>rw[hg] at ht;exact ht
  | some z=>
   rw[hg] at ht
   obtain⟨i,hi,ht⟩:=ht
   exact⟨i,by simp only;omega,by rw[ht];simp[ofStr]⟩
  have b1:(decide ((pk (b::r))<32)||decide (126<(pk (b::r))))=true:=by
   rw[wu,Gy];simpa using b2
  refine .inr ⟨.inr (.inr (⟨(k:Int),280⟩:Problem)),?_,?_⟩
  rw[b1,if_pos rfl]
  simp only[Option.bind_some,bq,cz]
  rw[k8,if_neg hb,if_neg hc,if_neg b2]
 simp only at ht
 rw[hds] at ht
 unfold Cl
 simp only[List.drop_succ_cons,List.drop_zero]
 cases hg:nn q with
 | none=>
  rw[hg] at ht
  subst ht
  exact dj.some rfl
 | some z=>
  rw[hg] at ht
  obtain⟨i,hi,rfl⟩:=ht
  have hp:=uk q z hg
  have hql:q.length+(k+1)=s.length:=by
   have:=congrArg List.length hds
   rw[List.length_drop] at this;omega
  have e0:(([]:List Int)++ofStr z.1)=ofStr z.1:=rfl
  have e1:(ofStr z.1).length=z.1.length:=by simp[ofStr]
  simp only[cz,qz]
  rw[e0,e1]
  by_cases h80:80<z.1.length
  rw[if_pos h80,if_pos (decide_eq_true (by omega))]
  exact dj.some rfl
  rw[if_neg h80,if_neg (by simp;omega)]
  simp only[Option.bind_some]
  rw[Lq,wk i (by omega)]
  refine dj.some ?_
  show _=Sum.inl _
  rw[show i+1=k+(z.2+1) by omega]
theorem JA {l:List Str} {c:Str->Bool} {υ:Type} {Q:Unit⊕υ->Prop} {F:Nat} {A:Int->Option (Int⊕(Unit⊕υ))} (hF:l.length<F) (hL:l.length<=100000000)
 (h1:l.find? c=none->Q (.inl ())) (h0:∀ (i:Int) x,aD l i=some x->c x=false->A i=some (.inl (i64.wrap (i+1))))
 (h2:∀ (i:Int) x,aD l i=some x->0<=i->c x=true->l.find? c=some x->dj (A i) fun o=>∃ t,o=.inr t/\Q t) :
 dj (iter F (fun i=>if decide (i<(l.length:Int))=true then A i else some (.inr (.inl ()))) 0) Q:=by
 refine dj.ea1 (fun pre=>pre.find? c=none) hF (by omega) rfl (fun pre x post e hx hI=>?_) (fun h=>h1 h)
 by_cases hc:c x=true
 refine (h2 _ x hx (by omega) hc ?_).mono fun o ho=>.inr ho
 rw[e,List.find?_append,hI,List.find?_cons,hc];rfl
 have hc':c x=false:=by simpa using hc
 rw[h0 _ x hx hc']
 refine dj.some (.inl ⟨rfl,?_⟩)
 rw[List.find?_append,hI,List.find?_cons,hc'];rfl
theorem sign_ok {F:Nat} {s:Str} {k:Nat} (hk:k<=s.length) (hF:100<F) (hs:s.length<=100000000):cU F s (k:Int)=some (match Ac (s.drop k) with|.bad e=>.inr ⟨(k:Int),e⟩|.BT kd t n=>.inl (⟨kd,(k:Int),t⟩,true,((k+n:Nat):Int))):=by
 unfold cU iy
 have hl:ga.length=25:=rfl
 have hs2:∀ g∈ga,g.length<=2:=by decide
 refine dj.eq (dj.bind (P:=fun i:Int=>(ga.find? (fun g=>g.isPrefixOf (s.drop k))=none/\i = -1)∨∃ g,ga.find? (fun g=>g.isPrefixOf (s.drop k))=some g/\0<=i/\aD ga i=some g) (dj.bind (JA (c:=fun g=>g.isPrefixOf (s.drop k)) (Q:=fun t=>(ga.find? (fun g=>g.isPrefixOf (s.drop k))=none/\t=.inl ())∨∃ g i,ga.find? (fun g=>g.isPrefixOf (s.drop k))=some g/\0<=i/\aD ga i=some g/\t=.inr i) (by omega) (by omega) (fun h=>.inl ⟨h,rfl⟩) (fun i x hx hc=>?_) (fun i x hx h0 hc hf=>?_)) (fun t ht=>?_)) (fun i hi=>?_))
 rw[hx,Option.bind_some]
 unfold dT fe p6
 rw[if_pos ⟨by omega,by omega⟩]
 simp only[Option.bind_some,Int.toNat_natCast,Lib.hasPrefix,hc,Bool.false_eq_true,if_false]
 rw[hx,Option.bind_some]
 unfold dT fe p6
 rw[if_pos ⟨by omega,by omega⟩]
 simp only[Option.bind_some,Int.toNat_natCast,Lib.hasPrefix,hc,if_true]
 exact dj.some ⟨_,rfl,.inr ⟨x,i,hf,h0,hx,rfl⟩⟩
 rcases ht with ⟨h,rfl⟩|⟨g,i,h,h0,hi,rfl⟩
 exact dj.some (.inl ⟨h,rfl⟩)
 exact dj.some (.inr ⟨g,h,h0,hi⟩)
 unfold Ac
 rcases hi with ⟨h,rfl⟩|⟨g,h,h0,hi⟩
 rw[h,if_pos (by decide)]
 exact dj.some rfl
 rw[h,if_neg (by simp;omega)]
 simp only[Option.bind_some,cz,hi]
 have hg:=hs2 g (List.mem_of_find?_eq_some h)
 rw[show (k:Int)+(g.length:Int)=((k+g.length:Nat):Int) by omega,wr (by omega) (by omega)]
 exact dj.some rfl
theorem LG {g r:Str}:g.isPrefixOf r=true↔g.length<=r.length/\r.take g.length=g:=by
 rw[List.isPrefixOf_iff_prefix]
 constructor
 rintro⟨t,rfl⟩
 exact⟨by simp,by simp⟩
 rintro⟨h1,h2⟩
 exact⟨r.drop g.length,by conv=>lhs;lhs;rw[← h2]
                          exact List.take_append_drop _ _⟩
inductive Lx:Nat->Str->List Token⊕Problem->Prop
 | done {k:Nat} {r:Str} (h:sk false r=[]):Lx k r (.inl [])
 | bad {k j:Nat} {r q:Str} {b:UInt8} {e:Int} (h:sk false r=b::q) (hj:k+r.length=j+(q.length+1)) (ht:tok (b::q)=.bad e):Lx k r (.inr ⟨(j:Int),e⟩)
 | err {k j:Nat} {r q:Str} {b:UInt8} {kd:Int} {t:Str} {m:Nat} {p:Problem} (h:sk false r=b::q) (hj:k+r.length=j+(q.length+1)) (ht:tok (b::q)=.BT kd t m) (hl:Lx (j+m) ((b::q).drop m) (.inr p)):Lx k r (.inr p)
 | one {k j:Nat} {r q:Str} {b:UInt8} {kd:Int} {t:Str} {m:Nat} {l:List Token} (h:sk false r=b::q) (hj:k+r.length=j+(q.length+1)) (ht:tok (b::q)=.BT kd t m) (hl:Lx (j+m) ((b::q).drop m) (.inl l)):Lx k r (.inl (⟨kd,(j:Int),t⟩::l))
theorem Lz {r:Str} {kd:Int} {t:Str} {m:Nat} (h:Ac r=.BT kd t m):t∈ga/\m=t.length/\kd=5/\t.isPrefixOf r=true:=by
 unfold Ac at h
 cases hf:ga.find? (fun g=>g.isPrefixOf r) with
 | none=>rw[hf] at h;cases h
 | some g=>
  rw[hf] at h
  cases h
  exact⟨List.mem_of_find?_eq_some hf,rfl,rfl,by simpa using List.find?_some hf⟩
theorem LQ {b:UInt8} {q:Str} (h:oY b=true):1<=(sN (b::q)).1:=by
 have h0:1<=((b::q).takeWhile oY).length:=by rw[List.takeWhile_cons_of_pos h];simp
 unfold sN
 split
 split<;>simp only<;>omega
 exact h0
theorem Dh {b:UInt8} {q:Str} {kd:Int} {t:Str} {m:Nat} (h:tok (b::q)=.BT kd t m):1<=m/\m<=q.length+1:=by
 unfold tok at h
 simp only at h
 split at h
 next hb=>
  unfold Cm at h
  split at h
  cases h
  cases h
  have hn:IQ b=true:=by unfold IQ;rw[hb];rfl
  have:=Hr IQ (b::q)
  rw[List.takeWhile_cons_of_pos hn] at this ⊢
  simp only[List.length_cons] at *
  omega
 split at h
 next hb=>
  unfold IV at h
  split at h
  cases h
  split at h
  cases h
  cases h
  have h1:=LQ (q:=q) hb
  have h2:=Ic (b::q)
  simp only[List.length_cons] at h2
  omega
 split at h
 unfold Cl at h
 simp only[List.drop_succ_cons,List.drop_zero] at h
 cases hg:nn q with
 | none=>rw[hg] at h;cases h
 | some z=>
  rw[hg] at h
  simp only at h
  split at h
  cases h
  cases h
  have:=uk q z hg
  omega
 obtain⟨h1,h2,h3,h4⟩:=Lz h
 have hs:∀ g∈ga,1<=g.length:=by decide
 have:=hs t h1
 have:=(LG.1 h4).1
 simp only[List.length_cons] at this
 omega
theorem Js {σ τ:Type} {s:Str} {body:σ->Option (σ⊕τ)} (st:List Token->Nat->σ) (fin:List Token->τ) (fail:Problem->τ)
 (h0:∀ out,body (st out s.length)=some (.inr (fin out)))
 (h1:∀ out k b q,s.drop k=b::q->out.length<=k->dj (body (st out k)) fun o=>match tok (b::q) with|.bad e=>o=.inr (fail ⟨(k:Int),e⟩)|.BT kd t m=>o=.inl (st (out++[⟨kd,(k:Int),t⟩]) (sp s (k+m))))
 {k:Nat} {r:Str} {res:List Token⊕Problem} (h:Lx k r res):∀ (out:List Token) (G:Nat),s.drop k=r->k<=s.length->out.length<=k->s.length-k<G ->
 iter G body (st out (sp s k))=some (match res with|.inl l=>fin (out++l)|.inr p=>fail p):=by
 induction h with
 | @done k r h=>
  intro out G hr hk ho hG
  obtain⟨G,rfl⟩:∃ g,G=g+1:=⟨G-1,by omega⟩
  have:sp s k=s.length:=by unfold sp;rw[hr,h];simp
  rw[this,gi,h0]
  simp[cz]
 | @bad k j r q b e h hj ht=>
  intro out G hr hk ho hG
  obtain⟨G,rfl⟩:∃ g,G=g+1:=⟨G-1,by omega⟩
  have hl:r.length=s.length-k:=by rw[← hr,List.length_drop]
  have e1:sp s k=j:=by unfold sp;rw[hr,h];simp only[List.length_cons];omega
  have e2:=Dk hk
  rw[e1,hr,h] at e2
  have b0:=J7 hk
  rw[e1] at b0
  obtain⟨o,b1,hq⟩:=h1 out j b q e2 (by omega)
  rw[ht] at hq
  rw[e1,gi,b1,hq]
  rfl
 | @err k j r q b kd t m p h hj ht hl ih=>
  intro out G hr hk ho hG
  obtain⟨G,rfl⟩:∃ g,G=g+1:=⟨G-1,by omega⟩
  have hl:r.length=s.length-k:=by rw[← hr,List.length_drop]
  have e1:sp s k=j:=by unfold sp;rw[hr,h];simp only[List.length_cons];omega
  have e2:=Dk hk
  rw[e1,hr,h] at e2
  have b0:=J7 hk
  rw[e1] at b0
  obtain⟨o,b1,hq⟩:=h1 out j b q e2 (by omega)
  rw[ht] at hq
  have hp:=Dh ht
  rw[e1,gi,b1,hq]
  exact ih _ _ (by rw[← List.drop_drop,e2]) (by omega) (by simp;omega) (by omega)
 | @one k j r q b kd t m l h hj ht hl ih=>
  intro out G hr hk ho hG
  obtain⟨G,rfl⟩:∃ g,G=g+1:=⟨G-1,by omega⟩
  have hl:r.length=s.length-k:=by rw[← hr,List.length_drop]
  have e1:sp s k=j:=by unfold sp;rw[hr,h];simp only[List.length_cons];omega
  have e2:=Dk hk
  rw[e1,hr,h] at e2
  have b0:=J7 hk
  rw[e1] at b0
  obtain⟨o,b1,hq⟩:=h1 out j b q e2 (by omega)
  rw[ht] at hq
  have hp:=Dh ht
  rw[e1,gi,b1,hq]
  have:=ih (out++[⟨kd,(j:Int),t⟩]) G (by rw[← List.drop_drop,e2]) (by omega) (by simp;omega) (by omega)
  simp only[cz,Option.bind_some]
  rw[this]
  simp
theorem ux {σ τ:Type} {body:σ->Option (σ⊕τ)} {F:Nat} {s:σ} (h:0<F):iter F body s=(body s).bind (cz (iter (F-1) body) some):=by
 obtain⟨G,rfl⟩:∃ g,F=g+1:=⟨F-1,by omega⟩
 rfl
def outP:List Token⊕Problem->List Token×Problem
 | .inl l=>(l,⟨0,0⟩)
 | .inr p=>([],p)
theorem Jb {F:Nat} {s:Str} {res:List Token⊕Problem} (hs:s.length<=100000) (hF:s.length+1000<F) (h:Lx 0 s res):cQ F s=some (outP res):=by
 unfold cQ
 rw[if_neg (by simp;omega)]
 have hsk:=H6 (F:=F) (s:=s) (k:=0) (by omega) (by omega) (by omega)
 rw[show (((0:Nat):Int))=0 from rfl] at hsk
 rw[hsk]
 simp only[Option.bind_some,qz]
 rw[Js (s:=s) (fun out k=>(out,(⟨s,(k:Int)⟩:Scan))) (fun l=>.inl l) (fun p=>.inr ([],p)) ?_ ?_ h [] F rfl (by omega) (by simp) (by omega)]
 cases res<;>rfl
 intro out
 simp only[qz]
 rw[if_neg (by simp)]
 intro out k b q hd ho
 have hk:=gQ hd
 simp only[qz]
 rw[if_pos (decide_eq_true (by omega))]
 refine dj.bind (P:=fun o=>match tok (b::q) with|.bad e=>o=.inr ([],⟨(k:Int),e⟩)|.BT kd t m=>o=.inl (out++[⟨kd,(k:Int),t⟩],⟨s,((k+m:Nat):Int)⟩)) (dj.bind (P:=fun o=>match tok (b::q) with|.bad e=>o=.inr ([],⟨(k:Int),e⟩)|.BT kd t m=>o=.inl (out++[⟨kd,(k:Int),t⟩],⟨s,((k+m:Nat):Int)⟩)) ?_ ?_) ?_
 have b0:∀ x:Token,bU out [x]=some (out++[x]):=fun x=>DW (by simp only[List.length_cons,List.length_nil];omega)
 rw[ux (by omega)]
 try simp only[qz]
 rw[if_pos (by simp),if_pos (by simp)]
 by_cases hl:isL b=true
 have e:tok (b::q)=Cm (b::q):=by simp only[tok,if_pos hl]
 rw[e,name_ok hd hl (by omega) (by omega) (by omega),hd,Option.bind_some]
 cases Cm (b::q) with
 | bad e=>exact dj.some rfl
 | BT kd t m=>
  simp only[Tk.res,bu,un4,if_true,b0,Option.bind_some]
  exact dj.some rfl
 have hl':isL b=false:=by simpa using hl
 rw[name_no hd hl']
 simp only[Option.bind_some,bu,un4,Bool.false_eq_true,if_false,cz]
 rw[show i64.wrap (0+1)=1 from rfl,ux (by omega)]
 try simp only[qz]
 rw[if_pos (by simp),if_neg (by simp),if_pos (by simp)]
 by_cases hg:oY b=true
 have e:tok (b::q)=IV (b::q):=by simp only[tok,if_neg hl,if_pos hg]
 rw[e,Jo hd hg (by omega) (by omega),hd,Option.bind_some]
 cases IV (b::q) with
 | bad e=>exact dj.some rfl
 | BT kd t m=>
  simp only[Tk.res,bu,un4,if_true,b0,Option.bind_some]
  exact dj.some rfl
 have hg':oY b=false:=by simpa using hg
 rw[Jp hd hg' (by omega) (by omega)]
 simp only[Option.bind_some,bu,un4,Bool.false_eq_true,if_false,cz]
 rw[show i64.wrap (1+1)=2 from rfl,ux (by omega)]
 try simp only[qz]
 rw[if_pos (by simp),if_neg (by simp),if_neg (by simp),if_pos (by simp)]
 by_cases hb:b=34
 subst hb
 have e:tok (34::q)=Cl (34::q):=by simp only[tok,if_neg hl,if_neg hg,if_true]
 rw[e,text_ok hd (by omega) (by omega),hd,Option.bind_some]
 cases Cl (34::q) with
 | bad e=>exact dj.some rfl
 | BT kd t m=>
  simp only[Tk.res,bu,un4,if_true,b0,Option.bind_some]
  exact dj.some rfl
 rw[text_no hd hb]
 simp only[Option.bind_some,bu,un4,Bool.false_eq_true,if_false,cz]
 rw[show i64.wrap (2+1)=3 from rfl,ux (by omega)]
 try simp only[qz]
 rw[if_pos (by simp),if_neg (by simp),if_neg (by simp),if_neg (by simp),if_pos (by simp)]
 have e:tok (b::q)=Ac (b::q):=by simp only[tok,if_neg hl,if_neg hg,if_neg hb]
 rw[e,sign_ok (by omega) (by omega) (by omega),hd,Option.bind_some]
 cases Ac (b::q) with
 | bad e=>exact dj.some rfl
 | BT kd t m=>
  simp only[bu,Hl,if_true,b0,Option.bind_some]
  exact dj.some rfl
 intro o b1
 cases ht:tok (b::q) with
 | bad e=>rw[ht] at b1;subst b1;exact dj.some rfl
 | BT kd t m=>rw[ht] at b1;subst b1;exact dj.some rfl
 intro o b1
 cases ht:tok (b::q) with
 | bad e=>rw[ht] at b1;subst b1;exact dj.some rfl
 | BT kd t m=>
  rw[ht] at b1
  subst b1
  have hp:=Dh ht
  have hlen:q.length+1=s.length-k:=by
   have:=congrArg List.length hd
   rw[List.length_drop,List.length_cons] at this;omega
  simp only[cz,qz]
  rw[H6 (by omega) (by omega) (by omega),Option.bind_some]
  exact dj.some rfl
def wd:Nat->Str
 | 0=>[111,114]
 | 1=>[97,110,100]
 | 2=>[43]
 | 3=>[45]
 | 4=>[42]
 | _=>[47]
def oc:Nat->Int
 | 0=>17
 | 1=>16
 | 2=>5
 | 3=>6
 | 4=>7
 | _=>8
def kn:Nat->Int
 | 0=>1
 | 1=>1
 | _=>5
def wt:Nat->Nat
 | 0=>1
 | 1=>2
 | 2=>5
 | 3=>5
 | 4=>6
 | _=>6
def nm:Nat->Str
 | 0=>[97]
 | i+1=>if i%3=0 then [97] else if i%3=1 then [98] else [99]
def ot:Nat->Nat->List Nat->List Token
 | _,_,[]=>[]
 | at0,i,k::ks=>⟨kn k,(at0:Int),wd k⟩::⟨2,((at0+(wd k).length+1:Nat):Int),nm (i+1)⟩::ot (at0+(wd k).length+3) (i+1) ks
def xo (x:ab):Nat:=if x.Op=17 then 1 else if x.Op=16 then 2 else if x.Op=5 then 5 else if x.Op=6 then 5 else if x.Op=7 then 6 else if x.Op=8 then 6 else 9
theorem xo_oc {k:Nat} {V:eE} {u n:Str} {l:List ab} {a:Int}:xo ⟨oc k,V,u,n,l,a⟩=wt k:=by
 unfold xo oc wt
 rcases k with _|_|_|_|_|k<;>simp
inductive Tree:Nat->List Nat->ab->Prop
 | leaf {i:Nat} {V:eE} {u:Str} {a:Int}:Tree i [] ⟨2,V,u,nm i,[],a⟩
 | node {i k:Nat} {a b:List Nat} {x y:ab} {V:eE} {u n:Str} {p:Int} (h1:Tree i a x) (h2:Tree (i+a.length+1) b y) (h3:wt k<=xo x) (h4:wt k<xo y):Tree i (a++k::b) ⟨oc k,V,u,n,[x,y],p⟩
def Ends (w:Nat):List Nat->Prop
 | []=>True
 | k::_=>wt k<w
def Spec (w:Nat) (f:reader->Option ((ab×reader)⊕Problem)):Prop :=
 ∀ (l:List Token) (fin:Int) (p at0 a1 i:Nat) (ks:List Nat),l.length<=1000->(∀ k∈ks,k<6)->l.drop p=⟨2,(a1:Int),nm i⟩::ot at0 i ks ->
  ∃ (x:ab) (a b:List Nat) (at1:Nat),ks=a++b/\f ⟨l,(p:Int),fin⟩=some (.inl (x,⟨l,((p+2*a.length+1:Nat):Int),fin⟩))/\l.drop (p+2*a.length+1)=ot at1 (i+a.length) b/\Tree i a x/\w<=xo x/\Ends w b
theorem qb {F:Nat} {l:List Token} {p:Nat} {fin:Int} {t:Token} {r:List Token} (h:l.drop p=t::r):az F ⟨l,(p:Int),fin⟩=some t:=by
 have hp:p<l.length:=by
  rcases Nat.lt_or_ge p l.length with h1|h1
  exact h1
  rw[List.drop_eq_nil_of_le h1] at h;cases h
 have hi:aD l (p:Int)=some t:=by
  unfold aD
  rw[if_pos ⟨by omega,by omega⟩]
  rw[List.drop_eq_getElem_cons hp] at h
  cases h
  simp[idx,hp]
 unfold az
 have:¬ ((p:Int)=(l.length:Int)):=by omega
 simp[this,hi]
theorem LH {F:Nat} {l:List Token} {p:Nat} {fin:Int} (h:p=l.length):az F ⟨l,(p:Int),fin⟩=some ⟨0,fin,[]⟩:=by
 unfold az
 simp[h]
theorem AO {F:Nat} {rd:reader} {s:Str} {t:Token} (hp:az (F+2) rd=some t) (h:t.S=s->t.Kind≠1/\t.Kind≠5):au (F+2) s rd=some (false,rd):=by
 have hb:(decide (t.S=s)&&(decide (t.Kind=1)||decide (t.Kind=5)))=false:=by
  by_cases e:t.S=s
  obtain⟨h1,h2⟩:=h e;simp[h1,h2]
  simp[e]
 have:eG (F+2) [s] rd=some false:=by
  unfold eG
  rw[hp]
  have h0:aD [s] (0:Int)=some s:=rfl
  have hw:i64.wrap (1:Int)=1:=rfl
  have hb':¬ (t.S=s/\(t.Kind=1∨t.Kind=5)):=by simpa using hb
  simp only[Option.bind_some,iter,List.length_cons,List.length_nil]
  simp[h0,hb',hw,cz]
 unfold au
 rw[this]
 rfl
theorem next_ok {F:Nat} {l:List Token} {p:Nat} {fin a1:Int} {n:Str} {r:List Token} (hl:l.length<=1000) (h:l.drop p=⟨2,a1,n⟩::r):cS F 2 3 ⟨l,(p:Int),fin⟩=some (.inl (⟨2,a1,n⟩,⟨l,((p+1:Nat):Int),fin⟩)):=by
 have hp:p<l.length:=by
  rcases Nat.lt_or_ge p l.length with h1|h1
  exact h1
  rw[List.drop_eq_nil_of_le h1] at h;cases h
 unfold cS
 rw[qb h]
 have hw:i64.wrap ((p:Int)+1)=((p+1:Nat):Int):=wk p (by omega)
 simp[hw]
theorem see {F:Nat} {l:List Token} {p at0 i:Nat} {fin:Int} {b:List Nat} (hp:p<=l.length) (h:l.drop p=ot at0 i b) :
 ∃ t,az F ⟨l,(p:Int),fin⟩=some t/\(b=[]/\t=⟨0,fin,[]⟩∨∃ k q,b=k::q/\t=⟨kn k,(at0:Int),wd k⟩/\l.drop (p+1)=⟨2,((at0+(wd k).length+1:Nat):Int),nm (i+1)⟩::ot (at0+(wd k).length+3) (i+1) q):=by
 cases b with
 | nil=>
  have:p=l.length:=by
   have:=List.drop_eq_nil_iff.mp h
   omega
  exact⟨_,LH this,.inl ⟨rfl,rfl⟩⟩
 | cons k q=>
  refine⟨_,qb h,.inr ⟨k,q,rfl,rfl,?_⟩⟩
  have:=congrArg (List.drop 1) h
  rw[List.drop_drop] at this
  exact this
theorem DN {l:List Token} {p:Nat} {t:Token} {r:List Token} (h:l.drop p=t::r):p+1<=l.length:=by
 rcases Nat.lt_or_ge p l.length with h1|h1
 exact h1
 rw[List.drop_eq_nil_of_le h1] at h;cases h
def lbd (F:Nat) (tb:List (Str×Int)) (next:reader->Option ((ab×reader)⊕Problem)) (x2:reader×ab×ab):Option ((reader×ab×ab)⊕((reader×ab)⊕Problem)) :=
 Option.bind (az F x2.1) fun x3=>bA ((dJ tb x3.S).getD (0:Int)) fun x4=>(if ((decide (x4=(0:Int)))||((decide (x3.Kind≠(1:Int)))&&(decide (x3.Kind≠(5:Int)))))=true then some (.inr (.inl (x2.1,x2.2.2))) else Option.bind (next ({ x2.1 with pos:=(i64.wrap (x2.1.pos+(1:Int))) })) (bu (fun p=>some (.inr (.inr p))) fun x11=>some (.inl (x11.2,x2.2.1,(⟨x4,Go.Dn.CX,([]:Str),([]:Str),([x2.2.2,x11.1]:List ab),x3.At⟩:ab)))))
theorem Gq {F:Nat} {tb:List (Str×Int)} {next:reader->Option ((ab×reader)⊕Problem)} {rd:reader} {z x:ab} {t:Token} (h:az F rd=some t) (hk:dJ tb t.S=none):lbd F tb next (rd,z,x)=some (.inr (.inl (rd,x))):=by
 unfold lbd
 simp only[h,Option.bind_some,bA,hk,Option.getD_none,decide_true,Bool.true_or,if_true]
theorem lbd_go {F:Nat} {tb:List (Str×Int)} {next:reader->Option ((ab×reader)⊕Problem)} {l:List Token} {p fin:Int} {z x y:ab} {t:Token} {o:Int} {rd:reader} (h:az F ⟨l,p,fin⟩=some t) (hk:dJ tb t.S=some o) (ho:o≠0) (ht:t.Kind=1∨t.Kind=5) (hn:next ⟨l,i64.wrap (p+1),fin⟩=some (.inl (y,rd))):lbd F tb next (⟨l,p,fin⟩,z,x)=some (.inl (rd,z,⟨o,Go.Dn.CX,[],[],[x,y],t.At⟩)):=by
 unfold lbd
 have hkn:(decide (t.Kind≠1)&&decide (t.Kind≠5))=false:=by rcases ht with h|h<;>simp[h]
 simp only[h,Option.bind_some,bA,hk,Option.getD_some,decide_eq_false ho,Bool.false_or,hkn,Bool.false_eq_true,if_false,hn,bu]
def lvl (F:Nat) (tb:List (Str×Int)) (next:reader->Option ((ab×reader)⊕Problem)) (b1:reader):Option ((ab×reader)⊕Problem) :=
 Option.bind (next b1) (bu (fun p=>some (.inr p)) fun x1=>Option.bind (iter F (lbd F tb next) (x1.2,fZ,x1.1)) (cz (fun x13=>some (.inl (x13.2,x13.1))) (fun x14=>some (.inr x14))))
theorem wt_pos (k:Nat):0<wt k:=by unfold wt;split<;>omega
theorem kn_or (k:Nat):kn k=1∨kn k=5:=by unfold kn;split<;>simp
theorem oc_ne (k:Nat):oc k≠0:=by unfold oc;split<;>simp
theorem LY {F:Nat} {tb:List (Str×Int)} {next:reader->Option ((ab×reader)⊕Problem)} {w w':Nat} (hn:Spec w' next) (hww:w<w')
 (ht:∀ k,k<6->dJ tb (wd k)=if wt k=w then some (oc k) else none) (h0:dJ tb []=none) (b1:∀ k,wt k<w'->wt k<=w) {l:List Token} {fin:Int} (hl:l.length<=1000) {z:ab} :
 ∀ (n:Nat) (G:Nat),n<G->∀ (b:List Nat) (p at0 i:Nat) (x:ab) (a:List Nat) (i0:Nat),b.length<=n->(∀ k∈b,k<6)->p<=l.length->l.drop p=ot at0 i b->i=i0+a.length->Tree i0 a x->w<=xo x->Ends w' b ->
  ∃ (y:ab) (c d:List Nat) (b2:Nat),b=c++d/\iter G (lbd F tb next) (⟨l,(p:Int),fin⟩,z,x)=some (.inl (⟨l,((p+2*c.length:Nat):Int),fin⟩,y))/\l.drop (p+2*c.length)=ot b2 (i+c.length) d/\Tree i0 (a++c) y/\w<=xo y/\Ends w d:=by
 intro n
 induction n with
 | zero=>
  intro G hG b p at0 i x a i0 hb hk hp hd hi b0 hx he
  obtain⟨G,rfl⟩:∃ g,G=g+1:=⟨G-1,by omega⟩
  obtain rfl:b=[]:=List.length_eq_zero_iff.mp (by omega)
  obtain⟨t,h1,h2⟩:=see (F:=F) (fin:=fin) hp hd
  rcases h2 with ⟨_,rfl⟩|⟨k,q,h,_⟩
  refine⟨x,[],[],at0,rfl,?_,hd,by simpa using b0,hx,trivial⟩
  rw[iter,Gq h1 h0]
  rfl
  cases h
 | succ n ih=>
  intro G hG b p at0 i x a i0 hb hk hp hd hi b0 hx he
  obtain⟨G,rfl⟩:∃ g,G=g+1:=⟨G-1,by omega⟩
  obtain⟨t,h1,h2⟩:=see (F:=F) (fin:=fin) hp hd
  rcases h2 with ⟨rfl,rfl⟩|⟨k,q,rfl,rfl,h3⟩
  refine⟨x,[],[],at0,rfl,?_,hd,by simpa using b0,hx,trivial⟩
  rw[iter,Gq h1 h0]
  rfl
  have hk6:=hk k (List.mem_cons_self ..)
  by_cases hw:wt k=w
  have hp1:=DN h3
  obtain⟨y,c,d,b2,hq,hy,hd2,hty,hwy,hed⟩:=hn l fin (p+1) _ _ _ _ hl (fun j hj=>hk j (List.mem_cons_of_mem _ hj)) h3
  have hy1:next ⟨l,i64.wrap ((p:Int)+1),fin⟩=some (.inl (y,⟨l,((p+1+2*c.length+1:Nat):Int),fin⟩)):=by
   rw[wk p (by omega)];exact hy
  have b3:p+1+2*c.length+1<=l.length:=by
   have e1:=congrArg List.length h3
   have e2:∀ (ks:List Nat) (u v:Nat),(ot u v ks).length=2*ks.length:=by
    intro ks
    induction ks with
    | nil=>intro u v;rfl
    | cons k r ih=>intro u v;simp only[ot,List.length_cons,ih];omega
   rw[List.length_drop,List.length_cons,e2,hq,List.length_append] at e1
   omega
  have htn:Tree i0 (a++k::c) ⟨oc k,Go.Dn.CX,[],[],[x,y],((at0:Nat):Int)⟩:=.node b0 (by rw[← hi];exact hty) (by omega) (by omega)
  obtain⟨y2,c2,d2,at2,hq2,hy2,hd3,c3,c4,c5⟩:=ih G (by omega) d (p+1+2*c.length+1) b2 (i+1+c.length) ⟨oc k,Go.Dn.CX,[],[],[x,y],((at0:Nat):Int)⟩ (a++k::c) i0 (by have:=congrArg List.length hq;rw[List.length_append] at this;simp only[List.length_cons] at hb;omega) (fun j hj=>hk j (by rw[hq];simp[hj])) b3 hd2 (by simp only[List.length_append,List.length_cons];omega) htn (by rw[xo_oc];omega) hed
  refine⟨y2,k::c++c2,d2,at2,by rw[hq,hq2];simp,?_,?_,?_,c4,c5⟩
  rw[iter,lbd_go h1 ((ht k hk6).trans (if_pos hw)) (oc_ne k) (kn_or k) hy1]
  show iter G _ _=_
  rw[hy2]
  have:p+1+2*c.length+1+2*c2.length=p+2*(k::c++c2).length:=by simp only[List.length_append,List.length_cons];omega
  rw[this]
  have:p+2*(k::c++c2).length=p+1+2*c.length+1+2*c2.length:=by simp only[List.length_append,List.length_cons];omega
  rw[this,hd3]
  congr 1
  simp only[List.length_append,List.length_cons];omega
  simpa using c3
  have hlt:wt k<w:=by
   have:wt k<=w:=b1 k he
   omega
  refine⟨x,[],k::q,at0,rfl,?_,hd,by simpa using b0,hx,hlt⟩
  rw[iter,Gq h1 ((ht k hk6).trans (if_neg hw))]
  rfl
theorem Ai:∀ (ks:List Nat) (u v:Nat),(ot u v ks).length=2*ks.length
 | [],_,_=>rfl
 | k::r,u,v=>by simp only[ot,List.length_cons,Ai r];omega
theorem wS {F:Nat} {tb:List (Str×Int)} {next:reader->Option ((ab×reader)⊕Problem)} {w w':Nat} (hF:1000<F) (hn:Spec w' next) (hww:w<w')
 (ht:∀ k,k<6->dJ tb (wd k)=if wt k=w then some (oc k) else none) (h0:dJ tb []=none) (b0:∀ k,wt k<w'->wt k<=w):Spec w (lvl F tb next):=by
 intro l fin p at0 a1 i ks hl hk hd
 obtain⟨x,a,b,at1,hq,hx,hd2,htx,hwx,he⟩:=hn l fin p at0 a1 i ks hl hk hd
 have hlen:=congrArg List.length hd
 rw[List.length_drop,List.length_cons,Ai,hq,List.length_append] at hlen
 obtain⟨y,c,d,at2,hq2,hy,hd3,hty,hwy,hed⟩:=LY (F:=F) hn hww ht h0 b0 (fin:=fin) hl (z:=fZ) b.length F (by omega) b (p+2*a.length+1) at1 (i+a.length) x a i (Nat.le_refl _) (fun j hj=>hk j (by rw[hq];simp[hj])) (by omega) hd2 rfl htx (by omega) he
 refine⟨y,a++c,d,at2,by rw[hq,hq2];simp,?_,?_,hty,hwy,hed⟩
 unfold lvl
 rw[hx]
 simp only[Option.bind_some,bu]
 rw[hy]
 have:p+2*a.length+1+2*c.length=p+2*(a++c).length+1:=by simp only[List.length_append];omega
 rw[this]
 rfl
 have:p+2*(a++c).length+1=p+2*a.length+1+2*c.length:=by simp only[List.length_append];omega
 rw[this,hd3]
 congr 1
 simp only[List.length_append];omega
theorem k2:(2:Int)≠1/\(2:Int)≠5:=by decide
theorem JF {F:Nat}:Spec 9 (gz (F+3)):=by
 intro l fin p at0 a1 i ks hl hk hd
 have hm:∀ s:Str,au (F+2) s ⟨l,(p:Int),fin⟩=some (false,⟨l,(p:Int),fin⟩):=fun s=>AO (qb hd) (fun _=>k2)
 refine⟨⟨2,Go.Dn.CX,[],nm i,[],(a1:Int)⟩,[],ks,at0,rfl,?_,?_,.leaf,Nat.le_refl _,?_⟩
 rw[gz]
 rw[qb hd]
 simp only[Option.bind_some,hm,Bool.false_eq_true,if_false,next_ok hl hd,bu,decide_true,if_true]
 rfl
 have:=congrArg (List.drop 1) hd
 rw[List.drop_drop] at this
 simpa using this
 cases ks with
 | nil=>trivial
 | cons k q=>show wt k<9;unfold wt;split<;>omega
theorem Je {F:Nat}:Spec 9 (dB (F+4)):=by
 intro l fin p at0 a1 i ks hl hk hd
 obtain⟨x,a,b,at1,hq,hx,h⟩:=JF (F:=F) l fin p at0 a1 i ks hl hk hd
 refine⟨x,a,b,at1,hq,?_,h⟩
 have hm:au (F+3) [45] ⟨l,(p:Int),fin⟩=some (false,⟨l,(p:Int),fin⟩):=AO (F:=F+1) (qb hd) (fun _=>k2)
 rw[dB,qb hd]
 simp only[Option.bind_some,hm,Bool.false_eq_true,if_false,hx,bu]
theorem D0 {F:Nat} (hF:1000<F):Spec 6 (dI (F+6)):=by
 have h:Spec 6 (fM (F+5)):=wS (F:=F+4) (tb:=[([42],7),([47],8)]) (by omega) (Je (F:=F)) (by omega) (fun k hk=>by
  rcases k with _|_|_|_|_|_|k<;>first|rfl|omega) rfl (fun k _=>by unfold wt;split<;>omega)
 intro l fin p at0 a1 i ks hl hk hd
 obtain⟨x,a,b,at1,hq,hx,h⟩:=h l fin p at0 a1 i ks hl hk hd
 refine⟨x,a,b,at1,hq,?_,h⟩
 rw[dI,hx]
 rfl
theorem Lv {F:Nat} (hF:1000<F):Spec 5 (ff (F+8)):=by
 have h:Spec 5 (gg (F+7)):=wS (F:=F+6) (tb:=[([43],5),([45],6)]) (by omega) (D0 (F:=F) hF) (by omega) (fun k hk=>by
  rcases k with _|_|_|_|_|_|k<;>first|rfl|omega) rfl (fun k=>by unfold wt;split<;>omega)
 intro l fin p at0 a1 i ks hl hk hd
 obtain⟨x,a,b,at1,hq,hx,h⟩:=h l fin p at0 a1 i ks hl hk hd
 refine⟨x,a,b,at1,hq,?_,h⟩
 rw[ff,hx]
 rfl
theorem Jv {F:Nat} (hF:1000<F):Spec 5 (gy (F+9)):=by
 intro l fin p at0 a1 i ks hl hk hd
 obtain⟨x,a,b,at1,hq,hx,hd2,h⟩:=Lv (F:=F) hF l fin p at0 a1 i ks hl hk hd
 have hlen:=congrArg List.length hd
 rw[List.length_drop,List.length_cons,Ai,hq,List.length_append] at hlen
 obtain⟨t,h1,h2⟩:=see (F:=F+8) (fin:=fin) (p:=p+2*a.length+1) (by omega) hd2
 refine⟨x,a,b,at1,hq,?_,hd2,h⟩
 rw[gy,hx]
 simp only[Option.bind_some,bu,h1]
 rcases h2 with ⟨_,rfl⟩|⟨k,q,hb,rfl,_⟩
 rfl
 have hk6:k<6:=hk k (by rw[hq,hb];simp)
 rcases k with _|_|_|_|_|_|k<;>first|rfl|omega
theorem LS {F:Nat} (hF:1000<F):Spec 5 (dZ (F+10)):=by
 intro l fin p at0 a1 i ks hl hk hd
 obtain⟨x,a,b,at1,hq,hx,h⟩:=Jv (F:=F) hF l fin p at0 a1 i ks hl hk hd
 refine⟨x,a,b,at1,hq,?_,h⟩
 have hm:au (F+9) [110,111,116] ⟨l,(p:Int),fin⟩=some (false,⟨l,(p:Int),fin⟩):=AO (F:=F+7) (qb hd) (fun _=>k2)
 rw[dZ,qb hd]
 simp only[Option.bind_some,hm,Bool.false_eq_true,if_false,hx,bu]
theorem Mu {F:Nat} (hF:1000<F):Spec 2 (fh (F+12)):=by
 have h:Spec 2 (gL (F+11)):=wS (F:=F+10) (tb:=[([97,110,100],16)]) (by omega) (LS (F:=F) hF) (by omega) (fun k hk=>by
  rcases k with _|_|_|_|_|_|k<;>first|rfl|omega) rfl (fun k=>by unfold wt;split<;>omega)
 intro l fin p at0 a1 i ks hl hk hd
 obtain⟨x,a,b,at1,hq,hx,h⟩:=h l fin p at0 a1 i ks hl hk hd
 refine⟨x,a,b,at1,hq,?_,h⟩
 rw[fh,hx]
 rfl
theorem or_spec {F:Nat} (hF:1000<F):Spec 1 (bM (F+14)):=by
 have h:Spec 1 (iP (F+13)):=wS (F:=F+12) (tb:=[([111,114],17)]) (by omega) (Mu (F:=F) hF) (by omega) (fun k hk=>by
  rcases k with _|_|_|_|_|_|k<;>first|rfl|omega) rfl (fun k=>by unfold wt;split<;>omega)
 intro l fin p at0 a1 i ks hl hk hd
 obtain⟨x,a,b,at1,hq,hx,h⟩:=h l fin p at0 a1 i ks hl hk hd
 refine⟨x,a,b,at1,hq,?_,h⟩
 rw[bM,hx]
 rfl
theorem or_all {F:Nat} (hF:1000<F) {l:List Token} {fin:Int} {at0 a1:Nat} {ks:List Nat} (hl:l.length<=1000) (hk:∀ k∈ks,k<6) (hd:l=⟨2,(a1:Int),nm 0⟩::ot at0 0 ks) :
 ∃ x,bM (F+14) ⟨l,0,fin⟩=some (.inl (x,⟨l,(l.length:Int),fin⟩))/\Tree 0 ks x:=by
 obtain⟨x,a,b,at1,hq,hx,hd2,htx,hwx,he⟩:=or_spec (F:=F) hF l fin 0 at0 a1 0 ks hl hk hd
 have hb:b=[]:=by
  cases b with
  | nil=>rfl
  | cons k q=>have:wt k<1:=he;have:=wt_pos k;omega
 subst hb
 rw[List.append_nil] at hq
 subst hq
 refine⟨x,?_,htx⟩
 have:l.length=0+2*ks.length+1:=by rw[hd];simp only[List.length_cons,Ai];omega
 rw[this]
 exact hx
def tx:Nat->List Nat->Str
 | _,[]=>[]
 | i,k::ks=>32::(wd k++32::(nm (i+1)++tx (i+1) ks))
theorem KI (i:Nat):∃ b,nm i=[b]/\(b=97∨b=98∨b=99):=by
 cases i with
 | zero=>exact⟨97,rfl,.inl rfl⟩
 | succ i=>
  show ∃ b,(if i%3=0 then [97] else if i%3=1 then [98] else [99])=[b]/\_
  split
  exact⟨97,rfl,.inl rfl⟩
  split
  exact⟨98,rfl,.inr (.inl rfl)⟩
  exact⟨99,rfl,.inr (.inr rfl)⟩
theorem Da (i:Nat):(nm i).length=1:=by
 obtain⟨b,h,_⟩:=KI i
 rw[h];rfl
theorem Kv (i:Nat) (ks:List Nat):∃ b,nm i=[b]/\F4 b=false/\b≠35/\tok (b::tx i ks)=.BT 2 [b] 1:=by
 obtain⟨b,h,hb⟩:=KI i
 refine⟨b,h,?_⟩
 cases ks with
 | nil=>rcases hb with rfl|rfl|rfl<;>exact⟨rfl,by decide,rfl⟩
 | cons k ks=>rcases hb with rfl|rfl|rfl<;>exact⟨rfl,by decide,rfl⟩
theorem tok_wd {k:Nat} (hk:k<6) (r:Str):∃ b q,wd k=b::q/\F4 b=false/\b≠35/\tok (b::(q++32::r))=.BT (kn k) (wd k) (wd k).length:=by
 rcases k with _|_|_|_|_|_|k
 exact⟨_,_,rfl,rfl,by decide,rfl⟩
 exact⟨_,_,rfl,rfl,by decide,rfl⟩
 exact⟨_,_,rfl,rfl,by decide,rfl⟩
 exact⟨_,_,rfl,rfl,by decide,rfl⟩
 exact⟨_,_,rfl,rfl,by decide,rfl⟩
 exact⟨_,_,rfl,rfl,by decide,rfl⟩
 omega
theorem sk_at {b:UInt8} {r:Str} (h1:F4 b=false) (h2:b≠35):sk false (32::b::r)=b::r:=by
 simp[sk,h1,h2,show F4 32=true from rfl]
theorem lx_tx:∀ (ks:List Nat) (k i:Nat),(∀ x∈ks,x<6)->Lx k (tx i ks) (.inl (ot (k+1) i ks))
 | [],k,i,_=>.done rfl
 | x::ks,k,i,hk=>by
  obtain⟨b,q,hb,hb1,hb2,hb3⟩:=tok_wd (hk x (List.mem_cons_self ..)) (nm (i+1)++tx (i+1) ks)
  obtain⟨c,hc,hc1,hc2,hc3⟩:=Kv (i+1) ks
  have e1:tx i (x::ks)=32::b::(q++32::(nm (i+1)++tx (i+1) ks)):=by
   rw[tx,hb];rfl
  have e2:ot (k+1) i (x::ks)=⟨kn x,((k+1:Nat):Int),wd x⟩::⟨2,((k+1+(wd x).length+1:Nat):Int),nm (i+1)⟩::ot (k+1+(wd x).length+3) (i+1) ks:=rfl
  have e3:(b::(q++32::(nm (i+1)++tx (i+1) ks))).drop (wd x).length=32::c::tx (i+1) ks:=by
   rw[hb,hc]
   simp
  rw[e1,e2]
  refine .one (j:=k+1) (sk_at hb1 hb2) (by simp only[List.length_cons];omega) hb3 ?_
  rw[e3]
  have e4:nm (i+1)=[c]:=hc
  rw[e4]
  refine .one (j:=k+1+(wd x).length+1) (sk_at hc1 hc2) (by simp only[List.length_cons];omega) hc3 ?_
  have:=lx_tx ks (k+1+(wd x).length+2) (i+1) (fun z hz=>hk z (List.mem_cons_of_mem _ hz))
  exact this
def yJ (ks:List Nat):Str:=97::tx 0 ks
def tkl (ks:List Nat):List Token:=⟨2,((0:Nat):Int),nm 0⟩::ot 2 0 ks
theorem lx_txt {ks:List Nat} (hk:∀ x∈ks,x<6):Lx 0 (yJ ks) (.inl (tkl ks)):=by
 obtain⟨c,hc,hc1,hc2,hc3⟩:=Kv 0 ks
 cases hc
 exact .one (j:=0) (q:=tx 0 ks) (by unfold yJ;simp[sk,hc1]) rfl hc3 (lx_tx ks 1 0 hk)
theorem Gi (k:Nat):(wd k).length<=3:=by unfold wd;split<;>simp
theorem Af:∀ (ks:List Nat) (i:Nat),(tx i ks).length<=6*ks.length
 | [],_=>by simp[tx]
 | k::ks,i=>by
  have:=Af ks (i+1)
  have:=Gi k
  simp only[tx,List.length_cons,List.length_append,Da];omega
theorem Lp {F:Nat} {ks:List Nat} (hk:∀ x∈ks,x<6) (hl:ks.length<=40) (hF:1300<F):cQ F (yJ ks)=some (tkl ks,⟨0,0⟩):=by
 have:=Af ks 0
 exact Jb (by unfold yJ;simp only[List.length_cons];omega) (by unfold yJ;simp only[List.length_cons];omega) (lx_txt hk)
def obd (v0:List Token) (x2:Int×Int×Int):Option ((Int×Int×Int)⊕(Unit⊕Int)):=(if (decide (x2.2.2<(v0.length:Int)))=true then Option.bind (aD v0 x2.2.2) fun x4=>(if ((decide ((8000:Int)<=x2.2.2))||(decide ((40:Int)<(i64.wrap (x2.1+x2.2.1)))))=true then some (.inr (.inr x2.2.2)) else Option.bind (bA (((decide (x4.Kind=(1:Int)))&&(decide (x4.S=([110,111,116]:Str))))) fun x12=>(if x12=true then some x12 else some ((decide (x4.Kind=(5:Int)))&&(decide (x4.S=([45]:Str))))):Option (Bool)) fun x16=>(if x16=true then some (.inl (x2.1,(i64.wrap (x2.2.1+(1:Int))),(i64.wrap (x2.2.2+(1:Int))))) else (if (decide (x4.Kind≠(5:Int)))=true then some (.inl (x2.1,(0:Int),(i64.wrap (x2.2.2+(1:Int))))) else Option.bind (bA (decide (x4.S=([40]:Str))) fun x20=>(if x20=true then some x20 else some (decide (x4.S=([123]:Str)))):Option (Bool)) fun x22=>(if x22=true then some (.inl ((i64.wrap (x2.1+(1:Int))),(0:Int),(i64.wrap (x2.2.2+(1:Int))))) else Option.bind (bA (decide (x4.S=([41]:Str))) fun x25=>(if x25=true then some x25 else some (decide (x4.S=([125]:Str)))):Option (Bool)) fun x27=>(if x27=true then some (.inl ((i64.wrap (x2.1-(1:Int))),(0:Int),(i64.wrap (x2.2.2+(1:Int))))) else some (.inl (x2.1,(0:Int),(i64.wrap (x2.2.2+(1:Int)))))))))) else some (.inr (.inl ())))
theorem open_eq (F:Nat) (v0:List Token):nj F v0=Option.bind (iter F (obd v0) ((0:Int),(0:Int),(0:Int))) (cz (fun x31=>some (v0.length:Int)) (fun x33=>some x33)):=rfl
theorem idx_at {l:List Token} {p:Nat} {t:Token} {r:List Token} (h:l.drop p=t::r):aD l (p:Int)=some t/\p<l.length:=by
 have hp:p<l.length:=DN h
 refine⟨?_,hp⟩
 unfold aD
 rw[if_pos ⟨by omega,by omega⟩]
 rw[List.drop_eq_getElem_cons hp] at h
 cases h
 simp[idx,hp]
theorem Gm {l:List Token} {p:Nat} {t:Token} {r:List Token} {s:Int} (h:l.drop p=t::r) (hl:l.length<=1000) (hs:s=0∨s=1) :
 obd l (0,s,(p:Int))=if (decide (t.Kind=1)&&decide (t.S=[110,111,116]))=true then some (.inl (0,s+1,((p+1:Nat):Int))) else if (decide (t.Kind=5)&&decide (t.S=[45]))=true then some (.inl (0,s+1,((p+1:Nat):Int))) else
  if t.Kind≠5 then some (.inl (0,0,((p+1:Nat):Int))) else if t.S=[40]∨t.S=[123] then some (.inl (1,0,((p+1:Nat):Int))) else if t.S=[41]∨t.S=[125] then some (.inl (-1,0,((p+1:Nat):Int))) else some (.inl (0,0,((p+1:Nat):Int))):=by
 obtain⟨h1,h2⟩:=idx_at h
 have e1:decide ((p:Int)<(l.length:Int))=true:=by simpa using h2
 have e2:(decide ((8000:Int)<=(p:Int))||decide ((40:Int)<i64.wrap (0+s)))=false:=by
  rcases hs with rfl|rfl
  have:¬ (8000:Int)<=(p:Int):=by omega
  simp[this,show i64.wrap 0=0 from rfl]
  have:¬ (8000:Int)<=(p:Int):=by omega
  simp[this,show i64.wrap 1=1 from rfl]
 have e3:i64.wrap ((p:Int)+1)=((p+1:Nat):Int):=wk p (by omega)
 have e4:i64.wrap (s+1)=s+1:=by rcases hs with rfl|rfl<;>rfl
 unfold obd
 simp only[e1,if_true,h1,Option.bind_some,e2,Bool.false_eq_true,if_false,bA,e3,e4]
 by_cases c1:(decide (t.Kind=1)&&decide (t.S=[110,111,116]))=true
 simp only[c1,if_true,Option.bind_some]
 simp only[c1,if_false,Option.bind_some,Bool.false_eq_true]
 by_cases c2:(decide (t.Kind=5)&&decide (t.S=[45]))=true
 simp only[c2,if_true]
 simp only[c2,if_false,Bool.false_eq_true]
 by_cases c3:t.Kind≠5
 simp only[c3,decide_true,if_true,not_false_eq_true,ne_eq]
 have c3':decide (t.Kind≠5)=false:=by simpa using c3
 simp only[c3',if_neg c3,Bool.false_eq_true,if_false]
 by_cases c4:t.S=[40]
 simp[c4,show i64.wrap 1=1 from rfl]
 by_cases c5:t.S=[123]
 simp[c5,show i64.wrap 1=1 from rfl]
 by_cases c6:t.S=[41]
 simp[c6,show i64.wrap (-1) = -1 from rfl]
 by_cases c7:t.S=[125]
 simp[c7,show i64.wrap (-1) = -1 from rfl]
 simp[c4,c5,c6,c7]
theorem obd_end {l:List Token} {s:Int}:obd l (0,s,(l.length:Int))=some (.inr (.inl ())):=by
 unfold obd
 simp
theorem CA {l:List Token} (hl:l.length<=1000):∀ (ks:List Nat) (G p at0 i:Nat),2*ks.length<G->(∀ x∈ks,x<6)->p<=l.length->l.drop p=ot at0 i ks->iter G (obd l) (0,0,(p:Int))=some (.inl ())
 | [],G,p,at0,i,hG,hk,hp,hd=>by
  obtain⟨G,rfl⟩:∃ g,G=g+1:=⟨G-1,by omega⟩
  have:=List.drop_eq_nil_iff.mp hd
  have:p=l.length:=by omega
  rw[iter,this,obd_end]
  rfl
 | k::ks,G,p,at0,i,hG,hk,hp,hd=>by
  simp only[List.length_cons] at hG
  obtain⟨G,rfl⟩:∃ g,G=g+2:=⟨G-2,by omega⟩
  have h1:=Gm (s:=0) hd hl (.inl rfl)
  have b0:l.drop (p+1)=⟨2,((at0+(wd k).length+1:Nat):Int),nm (i+1)⟩::ot (at0+(wd k).length+3) (i+1) ks:=by
   have:=congrArg (List.drop 1) hd
   rw[List.drop_drop] at this
   exact this
  have hd3:l.drop (p+1+1)=ot (at0+(wd k).length+3) (i+1) ks:=by
   have:=congrArg (List.drop 1) b0
   rw[List.drop_drop] at this
   exact this
  have h2:∀ s:Int,s=0∨s=1->obd l (0,s,((p+1:Nat):Int))=some (.inl (0,0,((p+1+1:Nat):Int))):=fun s hs=>by
   rw[Gm b0 hl hs]
   rfl
  have ih:=CA hl ks G (p+1+1) _ _ (by omega) (fun x hx=>hk x (List.mem_cons_of_mem _ hx)) (DN b0) hd3
  have hs:∃ s:Int,(s=0∨s=1)/\obd l (0,0,(p:Int))=some (.inl (0,s,((p+1:Nat):Int))):=by
   have hk6:=hk k (List.mem_cons_self ..)
   rw[h1]
   rcases k with _|_|_|_|_|_|k
   exact⟨0,.inl rfl,rfl⟩
   exact⟨0,.inl rfl,rfl⟩
   exact⟨0,.inl rfl,rfl⟩
   exact⟨1,.inr rfl,rfl⟩
   exact⟨0,.inl rfl,rfl⟩
   exact⟨0,.inl rfl,rfl⟩
   omega
  obtain⟨s,hs,h3⟩:=hs
  rw[iter,h3]
  show iter (G+1) _ _=_
  rw[iter,h2 s hs]
  exact ih
theorem HZ (ks:List Nat):(tkl ks).length=2*ks.length+1:=by simp only[tkl,List.length_cons,Ai]
theorem open_ok {F:Nat} {ks:List Nat} (hk:∀ x∈ks,x<6) (hl:ks.length<=40) (hF:100<F):nj F (tkl ks)=some ((tkl ks).length:Int):=by
 rw[open_eq]
 obtain⟨F,rfl⟩:∃ g,F=g+1:=⟨F-1,by omega⟩
 have hln:=HZ ks
 have h1:=Gm (l:=tkl ks) (p:=0) (s:=0) rfl (by omega) (.inl rfl)
 have h2:=CA (l:=tkl ks) (by omega) ks F 1 2 0 (by omega) hk (by omega) rfl
 rw[iter,show ((0:Int),(0:Int),(0:Int))=(0,0,((0:Nat):Int)) from rfl,h1]
 show Option.bind (iter F _ _) _=_
 rw[h2]
 rfl
theorem expr_ok {F:Nat} {ks:List Nat} (hk:∀ x∈ks,x<6) (hl:ks.length<=40) (hF:1300<F):∃ x,kM (F+14) (yJ ks)=some (x,⟨0,0⟩)/\Tree 0 ks x:=by
 obtain⟨x,hx,ht⟩:=or_all (F:=F) (by omega) (l:=tkl ks) (fin:=((yJ ks).length:Int)) (at0:=2) (a1:=0) (ks:=ks) (by rw[HZ];omega) hk rfl
 refine⟨x,?_,ht⟩
 unfold kM vF Dp zM tB iK
 rw[Lp hk hl (by omega),Option.bind_some]
 simp only[ne_eq,not_true_eq_false,if_false,open_ok hk hl (show 100<F+14 by omega),Option.bind_some,Int.lt_irrefl,decide_false,Bool.false_eq_true,hx,bu]
end Go.Dn.X
namespace Go.Dn
open Go Go.Sk Go.Proofs
open X
set_option maxRecDepth 100000
theorem sane:dP 2000=some true:=by decide +kernel
end Go.Dn
namespace Go.Dn.X
open Go Go.Sk Go.Dn Go.Proofs
theorem Gk:∀ (a:List Nat) (i k:Nat) (b:List Nat),tx i (a++k::b)=tx i a++32::(wd k++32::(nm (i+a.length+1)++tx (i+a.length+1) b))
 | [],i,k,b=>rfl
 | c::a,i,k,b=>by
  have:=Gk a (i+1) k b
  simp only[List.cons_append,tx,this,List.length_cons,List.append_assoc,List.cons.injEq,true_and]
  rw[show i+1+a.length+1=i+(a.length+1)+1 by omega]
theorem HU (F:Nat) (k:Nat):eQ F (oc k)=some (wd k):=by
 rcases k with _|_|_|_|_|k<;>rfl
theorem Cs (F:Nat) (x:ab):cn F x.Op=some (xo x:Int):=by
 unfold cn xo
 by_cases h1:x.Op=17
 simp[h1]
 by_cases h2:x.Op=16
 simp[h2]
 by_cases h3:x.Op=5
 simp[h3,bA]
 by_cases h4:x.Op=6
 simp[h4,bA]
 by_cases h5:x.Op=7
 simp[h5,bA]
 by_cases h6:x.Op=8
 simp[h6,bA]
 simp[h1,h2,h3,h4,h5,h6,bA]
theorem tc {α:Type} {a b:List α} (h:a.length+b.length<=1000000000):bU a b=some (a++b):=if_pos h
theorem flat_ok {i:Nat} {a:List Nat} {x:ab} (h:Tree i a x):∀ F,a.length<F->a.length<=1000->cR F x=some (nm i++tx i a,true):=by
 induction h with
 | leaf=>
  intro F hF _
  obtain⟨F,rfl⟩:∃ g,F=g+1:=⟨F-1,by omega⟩
  rw[cR]
  simp[tx]
 | @node i k a b x y V u n p h1 h2 h3 h4 ih1 ih2=>
  intro F hF hl
  obtain⟨F,rfl⟩:∃ g,F=g+1:=⟨F-1,by omega⟩
  simp only[List.length_append,List.length_cons] at hF hl
  have e1:=ih1 F (by omega) (by omega)
  have e2:=ih2 F (by omega) (by omega)
  have l1:=Af a i
  have l2:=Af b (i+a.length+1)
  have l3:=Gi k
  have l4:=Da i
  have l5:=Da (i+a.length+1)
  have i0:aD [x,y] (0:Int)=some x:=rfl
  have i1:aD [x,y] (1:Int)=some y:=rfl
  have hw:cn F (oc k)=some (wt k:Int):=by
   have:=Cs F ⟨oc k,V,u,n,[x,y],p⟩
   rw[xo_oc] at this
   exact this
  have w1:decide ((wt k:Int)<=(xo x:Int))=true:=by simpa using h3
  have w2:decide ((wt k:Int)<(xo y:Int))=true:=by simpa using h4
  have a1:bU (nm i++tx i a) [32]=some (nm i++tx i a++[32]):=tc (by simp only[List.length_append,List.length_cons,List.length_nil];omega)
  have a2:bU (nm i++tx i a++[32]) (wd k)=some (nm i++tx i a++[32]++wd k):=tc (by simp only[List.length_append,List.length_cons,List.length_nil];omega)
  have a3:bU (nm i++tx i a++[32]++wd k) [32]=some (nm i++tx i a++[32]++wd k++[32]):=tc (by simp only[List.length_append,List.length_cons,List.length_nil];omega)
  have a4:bU (nm i++tx i a++[32]++wd k++[32]) (nm (i+a.length+1)++tx (i+a.length+1) b)=some (nm i++tx i a++[32]++wd k++[32]++(nm (i+a.length+1)++tx (i+a.length+1) b)):=tc (by simp only[List.length_append,List.length_cons,List.length_nil];omega)
  have hn:decide (((([x,y]:List ab).length:Nat):Int)≠2)=false:=rfl
  rw[cR]
  simp only[hn,Bool.false_eq_true,if_false,i0,i1,Option.bind_some,e1,e2,hw,HU,a1,a2,a3,a4,bA,Bool.and_self,aW,if_true,Cs,w1,w2,Bool.and_true]
  rw[Gk]
  simp
def oL (l:List Int):List Nat:=l.map fun z=>(z%6).toNat
theorem oc_idx {z:Int} (h:0<=z):∃ r,lG z 6=some r/\aD [(17:Int),16,5,6,7,8] r=some (oc (z%6).toNat):=by
 refine⟨z%6,?_,?_⟩
 unfold lG
 rw[if_neg (by decide),Int.tmod_eq_emod_of_nonneg h]
 have h1:=Int.emod_nonneg z (show (6:Int)≠0 by decide)
 have h2:=Int.emod_lt_of_pos z (show (0:Int)<6 by decide)
 obtain⟨k,hk⟩:=Int.eq_ofNat_of_zero_le h1
 rw[hk] at h2 ⊢
 rcases k with _|_|_|_|_|_|k<;>first|rfl|omega
theorem nm_idx (i:Nat):∃ r,lG (i:Int) 3=some r/\aD ([[97],[98],[99]]:List Str) r=some (nm (i+1)):=by
 refine⟨((i%3:Nat):Int),?_,?_⟩
 unfold lG
 rw[if_neg (by decide),Int.tmod_eq_emod_of_nonneg (by omega)]
 rfl
 have h:i%3=0∨i%3=1∨i%3=2:=by omega
 have e:nm (i+1)=if i%3=0 then [97] else if i%3=1 then [98] else [99]:=rfl
 rw[e]
 rcases h with h|h|h<;>(rw[h];rfl)
def tbd (F:Nat) (v0:List Int) (x5:Str×Int):Option ((Str×Int)⊕Str):=(if (decide (x5.2<(v0.length:Int)))=true then Option.bind (bU x5.1 ([32]:Str)) fun x8=>Option.bind (aD v0 x5.2) fun x9=>Option.bind (lG x9 (6:Int)) fun x10=>Option.bind (aD ([(17:Int),(16:Int),(5:Int),(6:Int),(7:Int),(8:Int)]:List Int) x10) fun x11=>Option.bind (lG x5.2 (3:Int)) fun x13=>Option.bind (aD ([([97]:Str),([98]:Str),([99]:Str)]:List Str) x13) fun x14=>Option.bind (eQ F x11) fun x15=>Option.bind (bU x8 x15) fun x16=>Option.bind (bU x16 ([32]:Str)) fun x17=>Option.bind (bU x17 x14) fun x18=>some (.inl (x18,(i64.wrap (x5.2+(1:Int))))) else some (.inr x5.1))
theorem tbd_go {F:Nat} {a b:List Int} {z:Int} (hz:0<=z) (ha:a.length<=1000):tbd F (a++z::b) (yJ (oL a),(a.length:Int))=some (.inl (yJ (oL (a++[z])),((a++[z]).length:Int))):=by
 obtain⟨r,h1,h2⟩:=oc_idx hz
 obtain⟨r2,h3,h4⟩:=nm_idx a.length
 have hl:=Af (oL a) 0
 have hkl:(oL a).length=a.length:=List.length_map ..
 have hi:aD (a++z::b) (a.length:Int)=some z:=by
  unfold aD
  rw[if_pos ⟨by omega,by simp only[List.length_append,List.length_cons];omega⟩]
  simp[idx]
 have hc:decide ((a.length:Int)<((a++z::b).length:Int))=true:=decide_eq_true (by simp only[List.length_append,List.length_cons];omega)
 have l3:=Gi (z%6).toNat
 have l4:=Da (a.length+1)
 have lt:(yJ (oL a)).length<=6001:=by unfold yJ;simp only[List.length_cons];omega
 have a1:bU (yJ (oL a)) [32]=some (yJ (oL a)++[32]):=tc (by simp only[List.length_cons,List.length_nil];omega)
 have a2:bU (yJ (oL a)++[32]) (wd (z%6).toNat)=some (yJ (oL a)++[32]++wd (z%6).toNat):=tc (by simp only[List.length_append,List.length_cons,List.length_nil];omega)
 have a3:bU (yJ (oL a)++[32]++wd (z%6).toNat) [32]=some (yJ (oL a)++[32]++wd (z%6).toNat++[32]):=tc (by simp only[List.length_append,List.length_cons,List.length_nil];omega)
 have a4:bU (yJ (oL a)++[32]++wd (z%6).toNat++[32]) (nm (a.length+1))=some (yJ (oL a)++[32]++wd (z%6).toNat++[32]++nm (a.length+1)):=tc (by simp only[List.length_append,List.length_cons,List.length_nil];omega)
 unfold tbd
 simp only[hc,if_true,a1,hi,h1,h2,h3,h4,HU,a2,a3,a4,Option.bind_some,wk a.length (by omega)]
 have e1:oL (a++[z])=oL a++[(z%6).toNat]:=List.map_append ..
 have e2:yJ (oL (a++[z]))=yJ (oL a)++[32]++wd (z%6).toNat++[32]++nm (a.length+1):=by
  rw[e1]
  unfold yJ
  rw[Gk,hkl]
  simp[tx]
 rw[e2,List.length_append]
 rfl
theorem tbd_end {F:Nat} {a:List Int} {t:Str}:tbd F a (t,(a.length:Int))=some (.inr t):=by
 unfold tbd
 simp
theorem ER {F:Nat}:∀ (b a:List Int) (G:Nat),b.length<G->(∀ z∈b,0<=z)->a.length+b.length<=1000->iter G (tbd F (a++b)) (yJ (oL a),(a.length:Int))=some (yJ (oL (a++b)))
 | [],a,G,hG,_,_=>by
  obtain⟨G,rfl⟩:∃ g,G=g+1:=⟨G-1,by omega⟩
  rw[List.append_nil,iter,tbd_end]
  rfl
 | z::b,a,G,hG,hz,hl=>by
  simp only[List.length_cons] at hG hl
  obtain⟨G,rfl⟩:∃ g,G=g+1:=⟨G-1,by omega⟩
  have:=ER (F:=F) b (a++[z]) G (by omega) (fun y hy=>hz y (List.mem_cons_of_mem _ hy)) (by simp only[List.length_append,List.length_cons,List.length_nil];omega)
  rw[List.append_assoc,List.singleton_append] at this
  rw[iter,tbd_go (hz z (List.mem_cons_self ..)) (by omega)]
  exact this
theorem ks_lt (l:List Int):∀ k∈oL l,k<6:=by
 intro k hk
 obtain⟨z,_,rfl⟩:=List.mem_map.1 hk
 have h1:=Int.emod_nonneg z (show (6:Int)≠0 by decide)
 have h2:=Int.emod_lt_of_pos z (show (0:Int)<6 by decide)
 omega
theorem L9 {l:List Int} (hl:∀ z∈l,0<=z/\z<=255) (hs:dP 2000=some true):df 2000 l=some true:=by
 unfold df
 by_cases h:(40:Int)<(l.length:Int)
 simp[h,hs]
 have h':decide ((40:Int)<(l.length:Int))=false:=by simpa using h
 rw[h']
 show Option.bind (iter 2000 (tbd 2000 l) (yJ (oL []),(([]:List Int).length:Int))) _=_
 have e1:=ER (F:=2000) l [] 2000 (by omega) (fun z hz=>(hl z hz).1) (by simp only[List.length_nil];omega)
 rw[List.nil_append] at e1
 rw[e1]
 have hkl:(oL l).length=l.length:=List.length_map ..
 obtain⟨x,hx,ht⟩:=expr_ok (F:=1986) (ks_lt l) (by omega) (by omega)
 have hf:=flat_ok ht 2000 (by omega) (by omega)
 simp only[Option.bind_some,hx,hf,hs,decide_true,Bool.and_self]
 have:nm 0++tx 0 (oL l)=yJ (oL l):=rfl
 simp[this]
end Go.Dn.X
namespace Go.Proofs.YthjfhibfcchjoaaGreatDoor
open Go Go.Sk Go.Dn
theorem L8 {l:List Int} {h:PH} {v:Value} (hx:(BV.one (.sl 1 (l.map fun z=>[.int .u8 z]))).rel h (fun _=>.bool false) v):∀ z∈l,0<=z/\z<=255:=fun z hz=>by
 have h1:(CP.sl 1 (l.map fun z=>[CP.int .u8 z])).rel h v:=hx
 obtain⟨u,hu⟩:=GV h1 (List.mem_map.2 ⟨z,hz,rfl⟩) (List.mem_singleton.2 rfl)
 obtain⟨_,h2⟩:=(show u=.int .u8 z/\_ from hu)
 simpa[mf,IntKind.min,IntKind.max,IntKind.signed,IntKind.bits] using h2
theorem has_ctr {mx:Int} (x0:List Int) (h:∀ z∈x0,0<=z/\z<=255):aI Tryz.prog (Go.Dn.ax mx) 3 [] [.one (.sl 1 (x0.map fun z=>[.int .u8 z]))] (Is [] (.b (.one (.bool true)))) :=
 (kD (mx:=mx) 2000).2.2 (x0,()) () true (X.L9 h sane)
end Go.Proofs.YthjfhibfcchjoaaGreatDoor
namespace Go.Proofs.YthjfhibfcchjoaaGreatDoor.eR
open Go Go.Sk Go.Dn Go.ChangeShapes Go.WideShapes Go.ChangeAt Go.RowKit
theorem and2 {a b:Bool} (h1:a=true) (h2:b=true):(a&&b)=true:=by rw[h1,h2];rfl
set_option maxHeartbeats 40000000 in
theorem closed:joinedFacts Tryz.pinned.checked.prog 3 Tryz.f3 (OpenSpec.ofChange Rows.parserHasPrecedencesSpec).bare Rows.parserHasPrecedencesRow=true:=by
 unfold joinedFacts
 repeat' with_reducible refine and2 ?_ ?_
 all_goals as_aux_lemma=>kernel_rfl
end Go.Proofs.YthjfhibfcchjoaaGreatDoor.eR
