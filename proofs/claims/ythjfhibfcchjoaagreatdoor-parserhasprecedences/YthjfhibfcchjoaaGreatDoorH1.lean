/- printed walks -/
import Derived.Test.YthjfhibfcchjoaaGreatDoorW1
set_option linter.unusedSimpArgs false
set_option linter.unusedVariables false
open Go.IntKind (i8 i16 i32 i64 u8 u16 u32 u64)
namespace Go.Dn
open Go Go.Sk Go.Proofs X
variable {mx:Int}
def jt (F:Nat):bL DD pk:=⟨30,[.d (.str)],[],[],[],[.sl (.st .Token),.st .Problem],true,false,false,false,fun a l=>cP F a.1⟩
theorem lU (F:Nat):av Tryz.prog (ax mx) (jt F):=n5 ⟨Tryz.call30⟩ fun a r h=>xB (mx:=mx) h
def vj (F:Nat):bL DD pk:=⟨209,[.d (.str)],[],[],[],[.st .bc,.int .i64],true,false,false,false,fun a l=>kL F a.1⟩
theorem B8 (F:Nat):av Tryz.prog (ax mx) (vj F):=n5 ⟨Tryz.call209⟩ fun a r h=>yA (mx:=mx) h
def xm (F:Nat):bL DD pk:=⟨161,[.d (.st .bc)],[],[],[],[.str],true,false,false,false,fun a l=>oS F a.1⟩
theorem D8 (F:Nat):av Tryz.prog (ax mx) (xm F):=n5 ⟨Tryz.call161⟩ fun a r h=>zo (mx:=mx) h
end Go.Dn
namespace Go.Dn
open Go Go.Sk
open X
def ni (F:Nat) (v0:List Token):Option Int:=Option.bind (iter F (fun (x2:Int×Int×Int)=>((if (decide (x2.2.2<(v0.length:Int)))=true then Option.bind (aD v0 x2.2.2) fun x4=>(if ((decide ((8000:Int)<=x2.2.2))||(decide ((40:Int)<(i64.wrap (x2.1+x2.2.1)))))=true then some (.inr (.inr x2.2.2)) else Option.bind (bA (((decide (x4.Kind=(1:Int)))&&(decide (x4.S=([110,111,116]:Str))))) fun x12=>(if x12=true then some x12 else some ((decide (x4.Kind=(5:Int)))&&(decide (x4.S=([45]:Str))))):Option (Bool)) fun x16=>(if x16=true then some (.inl (x2.1,(i64.wrap (x2.2.1+(1:Int))),(i64.wrap (x2.2.2+(1:Int))))) else (if (decide (x4.Kind≠(5:Int)))=true then some (.inl (x2.1,(0:Int),(i64.wrap (x2.2.2+(1:Int))))) else Option.bind (bA (decide (x4.S=([40]:Str))) fun x20=>(if x20=true then some x20 else some (decide (x4.S=([123]:Str)))):Option (Bool)) fun x22=>(if x22=true then some (.inl ((i64.wrap (x2.1+(1:Int))),(0:Int),(i64.wrap (x2.2.2+(1:Int))))) else Option.bind (bA (decide (x4.S=([41]:Str))) fun x25=>(if x25=true then some x25 else some (decide (x4.S=([125]:Str)))):Option (Bool)) fun x27=>(if x27=true then some (.inl ((i64.wrap (x2.1-(1:Int))),(0:Int),(i64.wrap (x2.2.2+(1:Int))))) else some (.inl (x2.1,(0:Int),(i64.wrap (x2.2.2+(1:Int)))))))))) else some (.inr (.inl ()))):Option ((Int×Int×Int)⊕(Unit⊕Int)))) ((0:Int),(0:Int),(0:Int))) (cy (fun x31=>some (v0.length:Int)) (fun x33=>some x33))
def az (F:Nat) (b1:reader):Option Token:=(if (decide (b1.pos=(b1.l.length:Int)))=true then some (⟨(0:Int),b1.fin,([]:Str)⟩:Token) else Option.bind (aD b1.l b1.pos) fun x3=>some x3)
def aP (F:Nat) (e:Int) (b1:reader):Option ((Unit)⊕Problem):=Option.bind (az F b1) fun x1=>some (.inr (⟨x1.At,e⟩:Problem))
def eD (F:Nat) (v1:List Str) (b1:reader):Option Bool:=Option.bind (az F b1) fun x1=>Option.bind (iter F (fun (x3:Int)=>((if (decide (x3<(v1.length:Int)))=true then Option.bind (aD v1 x3) fun x5=>(if ((decide (x1.S=x5))&&((decide (x1.Kind=(1:Int)))||(decide (x1.Kind=(5:Int)))))=true then some (.inr (.inr true)) else some (.inl (i64.wrap (x3+(1:Int))))) else some (.inr (.inl ()))):Option (Int⊕(Unit⊕Bool)))) (0:Int)) (cy (fun x12=>some false) (fun x13=>some x13))
def au (F:Nat) (s:Str) (b1:reader):Option (Bool×reader):=Option.bind (eD F ([s]:List Str) b1) fun x2=>(if x2=true then some (x2,{ b1 with pos:=(i64.wrap (b1.pos+(1:Int))) }) else some (x2,b1))
def aG (F:Nat) (v1:List Str) (b1:reader):Option ((reader)⊕Problem):=Option.bind (iter F (fun (x2:Int×reader)=>((if (decide (x2.1<(v1.length:Int)))=true then Option.bind (aD v1 x2.1) fun x4=>Option.bind (au F x4 x2.2) fun x5=>(if (!x5.1)=true then Option.bind (aP F (280:Int) x5.2) (bt (fun p=>some (.inr (.inr p))) fun x7=>some (.inl ((i64.wrap (x2.1+(1:Int))),x5.2))) else some (.inl ((i64.wrap (x2.1+(1:Int))),x5.2))) else some (.inr (.inl x2.2))):Option ((Int×reader)⊕(reader⊕Problem)))) ((0:Int),b1)) (cy (fun x10=>some (.inl x10)) (fun x11=>some (.inr x11)))
def cR (F:Nat) (kind:Int) (other:Int) (b1:reader):Option ((Token×reader)⊕Problem):=Option.bind (az F b1) fun x1=>Option.bind ((if (((decide (x1.Kind≠kind))&&(decide (x1.Kind≠other)))||(decide (x1.Kind=(0:Int))))=true then Option.bind (aP F (280:Int) b1) (bt (fun p=>some (.inr p)) fun x7=>some (.inl ())) else some (.inl ())):Option (Unit⊕Problem)) (cy (fun x8=>some (.inl (x1,{ b1 with pos:=(i64.wrap (b1.pos+(1:Int))) }))) (fun x10=>some (.inr x10)))
def sC (F:Nat) (t:Token):Option Str:=(if (decide (t.Kind≠(4:Int)))=true then some t.S else none)
def re (F:Nat) (t:Token):Option Bool:=Option.bind (sC F t) fun x1=>Option.bind (cP F x1) fun x2=>bA (((decide (x2.2=(⟨(0:Int),(0:Int)⟩:Problem)))&&(decide ((x2.1.length:Int)=(1:Int))))) fun x6=>Option.bind (aT x6 (aD x2.1 (0:Int))) fun x7=>some (x6&&(decide (x7=({ t with At:=(0:Int) }))))
def lZ (F:Nat) (s:Str) (c:Int):Option Str:=Option.bind (iter F (fun (x1:Str)=>(bA (decide ((0:Int)<(x1.length:Int))) fun x3=>Option.bind (aT x3 (aD x1 (0:Int))) fun x4=>(if (x3&&(decide ((x4.toNat:Int)=c)))=true then Option.bind (p5 x1 (1:Int)) fun x8=>some (.inl x8) else some (.inr x1)):Option (Str⊕Str))) s) (fun x9=>some x9)
def pG (F:Nat) (s:Str) (cutset:Str):Option Str:=(if ((decide (s=([]:Str)))||(decide (cutset=([]:Str))))=true then some s else bA (decide ((cutset.length:Int)=(1:Int))) fun x5=>Option.bind (aT x5 (aD cutset (0:Int))) fun x6=>(if (x5&&(decide ((x6.toNat:Int)<(128:Int))))=true then Option.bind (aD cutset (0:Int)) fun x10=>Option.bind (lZ F s (x10.toNat:Int)) fun x12=>some x12 else none))
def lR (F:Nat) (x:bc):Option Bool:=bA (!x.Bad) fun x1=>Option.bind (aT x1 (qI F x)) fun x2=>some (x1&&x2)
def jW (F:Nat) (x:bc):Option Int:=Option.bind (dx F ([x]:List bc)) fun x2=>(if ((!x2)||(decide (x.W=(⟨(0:Int),(0:Int),(0:Int),(0:Int),(0:Int),(0:Int),(0:Int),(0:Int),(0:Int),(0:Int),(0:Int),(0:Int),(0:Int),(0:Int),(0:Int),(0:Int)⟩:aY))))=true then some (0:Int) else (if x.Neg=true then some (-1:Int) else some (1:Int)))
def qh (F:Nat)  : Option bc:=Option.bind (gH F (1:Int)) fun x1=>some x1
def yT (F:Nat)  : Option ez:=Option.bind (cN F) fun x1=>Option.bind (qh F) fun x2=>some (⟨x1,x2⟩:ez)
def yP (F:Nat) (x:bc):Option bc:=Option.bind (dx F ([x]:List bc)) fun x2=>(if (!x2)=true then Option.bind (cN F) fun x4=>some x4 else Option.bind (cO F false x.W) fun x5=>some x5)
def tv (F:Nat) (v0:bc) (b:bc):Option bc:=Option.bind (dx F ([v0,b]:List bc)) fun x2=>(if (!x2)=true then Option.bind (cN F) fun x4=>some x4 else Option.bind (ir F v0.W) fun x5=>bA (decide (x5<=(2:Int))) fun x6=>Option.bind (aT x6 (ir F b.W)) fun x7=>(if (x6&&(decide (x7<=(2:Int))))=true then Option.bind (Es .u64 (u64.wrap v0.W.a1) (32:Int)) fun x11=>Option.bind (Es .u64 (u64.wrap b.W.a1) (32:Int)) fun x15=>Option.bind (iter F (fun (x18:Int×Int)=>((if (decide (x18.2≠(0:Int)))=true then Option.bind (lG x18.1 x18.2) fun x20=>some (.inl (x18.2,x20)) else some (.inr x18.1)):Option ((Int×Int)⊕Int))) ((JF .u64 x11 (u64.wrap v0.W.a0)),(JF .u64 x15 (u64.wrap b.W.a0)))) (fun x21=>Option.bind (zj .u64 x21 (32:Int)) fun x23=>Option.bind (cO F false (⟨(u32.wrap x21),(u32.wrap x23),(0:Int),(0:Int),(0:Int),(0:Int),(0:Int),(0:Int),(0:Int),(0:Int),(0:Int),(0:Int),(0:Int),(0:Int),(0:Int),(0:Int)⟩:aY)) fun x25=>some x25) else (if (!(decide (b.W=(⟨(0:Int),(0:Int),(0:Int),(0:Int),(0:Int),(0:Int),(0:Int),(0:Int),(0:Int),(0:Int),(0:Int),(0:Int),(0:Int),(0:Int),(0:Int),(0:Int)⟩:aY))))=true then none else Option.bind (yP F v0) fun x27=>some x27)))
def yO (F:Nat) (x:bc):Option bc:=Option.bind (dx F ([x]:List bc)) fun x2=>(if (!x2)=true then Option.bind (cN F) fun x4=>some x4 else Option.bind (cO F (!x.Neg) x.W) fun x6=>some x6)
def xr (F:Nat) (x:Int):Option Int:=Option.bind ((if (decide ((65536:Int)<=x))=true then Option.bind (zj .u32 x (16:Int)) fun x2=>some (x2,(16:Int)) else some (x,(0:Int))):Option (Int×Int)) fun x3=>Option.bind ((if (decide ((256:Int)<=x3.1))=true then Option.bind (zj .u32 x3.1 (8:Int)) fun x5=>some (x5,(i64.wrap (x3.2+(8:Int)))) else some (x3.1,x3.2)):Option (Int×Int)) fun x7=>Option.bind (aD ([0,1,2,2,3,3,3,3,4,4,4,4,4,4,4,4,5,5,5,5,5,5,5,5,5,5,5,5,5,5,5,5,6,6,6,6,6,6,6,6,6,6,6,6,6,6,6,6,6,6,6,6,6,6,6,6,6,6,6,6,6,6,6,6,7,7,7,7,7,7,7,7,7,7,7,7,7,7,7,7,7,7,7,7,7,7,7,7,7,7,7,7,7,7,7,7,7,7,7,7,7,7,7,7,7,7,7,7,7,7,7,7,7,7,7,7,7,7,7,7,7,7,7,7,7,7,7,7,8,8,8,8,8,8,8,8,8,8,8,8,8,8,8,8,8,8,8,8,8,8,8,8,8,8,8,8,8,8,8,8,8,8,8,8,8,8,8,8,8,8,8,8,8,8,8,8,8,8,8,8,8,8,8,8,8,8,8,8,8,8,8,8,8,8,8,8,8,8,8,8,8,8,8,8,8,8,8,8,8,8,8,8,8,8,8,8,8,8,8,8,8,8,8,8,8,8,8,8,8,8,8,8,8,8,8,8,8,8,8,8,8,8,8,8,8,8,8,8,8,8,8,8,8,8,8,8]:Str) (u8.wrap x7.1)) fun x9=>some (i64.wrap (x7.2+(i64.wrap (x9.toNat:Int))))
def wZ (F:Nat) (x:bc):Option Int:=Option.bind (ir F x.W) fun x1=>Option.bind (dx F ([x]:List bc)) fun x3=>(if ((!x3)||(decide (x1=(0:Int))))=true then some (0:Int) else bA (i64.wrap (x1-(1:Int))) fun x9=>Option.bind (aD (aY.al x.W) x9) fun x10=>Option.bind (aD (aY.al x.W) x9) fun x11=>Option.bind (xr F x11) fun x12=>some (i64.wrap ((i64.wrap ((32:Int)*(i64.wrap (x1-(1:Int)))))+x12)))
def nh (F:Nat) (x:bc):Option (Int×Bool):=Option.bind (dx F ([x]:List bc)) fun x2=>bA (!x2) fun x3=>Option.bind (aT (!x3) (wZ F x)) fun x4=>(if (x3||(decide ((64:Int)<x4)))=true then some ((0:Int),false) else Option.bind (Es .u64 (u64.wrap x.W.a1) (32:Int)) fun x8=>bA (JF .u64 x8 (u64.wrap x.W.a0)) fun x10=>(if (x.Neg&&(decide (x10<=(9223372036854775808:Int))))=true then some ((i64.wrap (u64.wrap (-x10))),true) else (if ((!x.Neg)&&(decide (x10<(9223372036854775808:Int))))=true then some ((i64.wrap x10),true) else some ((0:Int),false))))
def su (F:Nat) (v0:bc) (b:bc):Option (bc×bc):=Option.bind (dx F ([v0,b]:List bc)) fun x2=>bA (!x2) fun x3=>Option.bind (aT (!x3) (jW F b)) fun x4=>(if (x3||(decide (x4=(0:Int))))=true then Option.bind (cN F) fun x7=>Option.bind (cN F) fun x8=>some (x7,x8) else Option.bind (Option.bind (nh F v0) fun x9=>(if (x9.2&&(decide (x9.1≠(-9223372036854775808:Int))))=true then Option.bind (nh F b) fun x12=>(if (x12.2&&(decide (x12.1≠(-9223372036854775808:Int))))=true then Option.bind (o8 .i64 x9.1 x12.1) fun x15=>Option.bind (lG x9.1 x12.1) fun x16=>Option.bind ((if ((decide (x16≠(0:Int)))&&((decide (x16<(0:Int))) != (decide (x12.1<(0:Int)))))=true then some ((i64.wrap (x15-(1:Int))),(i64.wrap (x16+x12.1))) else some (x15,x16)):Option (Int×Int)) fun x24=>Option.bind (gH F x24.1) fun x25=>Option.bind (gH F x24.2) fun x26=>some (.inr (x25,x26)) else some (.inl ((⟨false,false,(⟨(0:Int),(0:Int),(0:Int),(0:Int),(0:Int),(0:Int),(0:Int),(0:Int),(0:Int),(0:Int),(0:Int),(0:Int),(0:Int),(0:Int),(0:Int),(0:Int)⟩:aY)⟩:bc),(⟨false,false,(⟨(0:Int),(0:Int),(0:Int),(0:Int),(0:Int),(0:Int),(0:Int),(0:Int),(0:Int),(0:Int),(0:Int),(0:Int),(0:Int),(0:Int),(0:Int),(0:Int)⟩:aY)⟩:bc)))) else some (.inl ((⟨false,false,(⟨(0:Int),(0:Int),(0:Int),(0:Int),(0:Int),(0:Int),(0:Int),(0:Int),(0:Int),(0:Int),(0:Int),(0:Int),(0:Int),(0:Int),(0:Int),(0:Int)⟩:aY)⟩:bc),(⟨false,false,(⟨(0:Int),(0:Int),(0:Int),(0:Int),(0:Int),(0:Int),(0:Int),(0:Int),(0:Int),(0:Int),(0:Int),(0:Int),(0:Int),(0:Int),(0:Int),(0:Int)⟩:aY)⟩:bc)))):Option ((bc×bc)⊕(bc×bc))) (cy (fun x27=>none) (fun x28=>some (x28.1,x28.2))))
def tt (F:Nat) (v0:bc) (b:bc):Option bc:=Option.bind (su F v0 b) fun x1=>some x1.1
def rU (F:Nat) (n:bc) (d:bc):Option ez:=Option.bind (lR F n) fun x1=>bA (!x1) fun x2=>Option.bind (aT (!x2) (lR F d)) fun x3=>bA ((x2||(!x3))) fun x5=>Option.bind (aT (!x5) (jW F d)) fun x6=>(if (x5||(decide (x6=(0:Int))))=true then Option.bind (yT F) fun x9=>some x9 else Option.bind (tv F n d) fun x10=>Option.bind (Option.bind (jW F d) fun x11=>(if (decide (x11<(0:Int)))=true then Option.bind (yO F x10) fun x13=>some x13 else some x10):Option (bc)) fun x14=>Option.bind (tt F n x14) fun x15=>Option.bind (tt F d x14) fun x16=>some (⟨x15,x16⟩:ez))
def qK (F:Nat) (t:Token):Option (ez×Int):=bA (decide (t.Kind≠(3:Int))) fun x1=>Option.bind (aT (!x1) (re F t)) fun x2=>(if (x1||(!x2))=true then some ((⟨(⟨false,false,(⟨(0:Int),(0:Int),(0:Int),(0:Int),(0:Int),(0:Int),(0:Int),(0:Int),(0:Int),(0:Int),(0:Int),(0:Int),(0:Int),(0:Int),(0:Int),(0:Int)⟩:aY)⟩:bc),(⟨false,false,(⟨(0:Int),(0:Int),(0:Int),(0:Int),(0:Int),(0:Int),(0:Int),(0:Int),(0:Int),(0:Int),(0:Int),(0:Int),(0:Int),(0:Int),(0:Int),(0:Int)⟩:aY)⟩:bc)⟩:ez),(1:Int)) else Option.bind (uZ F t.S ([46]:Str)) fun x5=>Option.bind (bT x5.1 x5.2.1) fun x6=>Option.bind (pG F x6 ([48]:Str)) fun x7=>Option.bind ((if (decide (x7=([]:Str)))=true then some ([48]:Str) else some x7):Option (Str)) fun x9=>Option.bind (kL F x9) fun x10=>Option.bind (fA F ([48]:Str) (x5.2.1.length:Int)) fun x12=>Option.bind (bT ([49]:Str) x12) fun x13=>Option.bind (kL F x13) fun x14=>Option.bind (rU F x10.1 x14.1) fun x15=>some (x15,(0:Int)))
def di (F:Nat) (s:Str) (b1:Builder) (b2:List Int):Option (Int×Unit×Builder×(List Int)):=Option.bind (K2 F b1 b2) fun x1=>Option.bind (Cn x1.2 s) fun x2=>some ((s.length:Int),(),x1.1,x2)
def ob (F:Nat) (s:Str) (substr:Str):Option Int:=bA ((substr.length:Int)) fun x1=>(if ((decide (x1=(0:Int)))||(decide (substr=s)))=true then some (0:Int) else (if (decide (x1=(1:Int)))=true then Option.bind (aD substr (0:Int)) fun x6=>Option.bind (j9 F s (x6.toNat:Int)) fun x8=>some x8 else (if (decide ((s.length:Int)<=x1))=true then some (-1:Int) else none)))
def sx (F:Nat) (s:Str) (substr:Str):Option Int:=Option.bind (ob F s substr) fun x1=>some x1
def pH (F:Nat) (s:Str) (substr:Str):Option Bool:=Option.bind (sx F s substr) fun x1=>some (decide ((0:Int)<=x1))
def hJ (F:Nat) (most:Int) (b1:reader):Option ((Int×Str×reader)⊕Problem):=Option.bind (au F ([45]:Str) b1) fun x1=>Option.bind (cR F (3:Int) (3:Int) x1.2) (bt (fun p=>some (.inr p)) fun x2=>Option.bind (qK F x2.1) fun x3=>Option.bind (nh F x3.1.N) fun x4=>Option.bind (bA (((!x4.2)||(decide (most<x4.1)))) fun x7=>Option.bind (aT (!x7) (pH F x2.1.S ([46]:Str))) fun x8=>(if (x7||x8)=true then bA (i64.wrap (x2.2.pos-(1:Int))) fun x10=>Option.bind (aP F (281:Int) ({ x2.2 with pos:=x10 })) (bt (fun p=>some (.inr p)) fun x11=>some (.inl ({ x2.2 with pos:=x10 }))) else some (.inl x2.2)):Option (reader⊕Problem)) (cy (fun x12=>(if x1.1=true then Option.bind (bT ([45]:Str) x2.1.S) fun x14=>some (.inl ((i64.wrap (-x4.1)),x14,x12)) else some (.inl (x4.1,x2.1.S,x12)))) (fun x15=>some (.inr x15))))
def kO (F:Nat) (b1:Builder) (b2:List Int):Option (Str×Builder×(List Int)):=Option.bind (Et (!b2.isEmpty)) fun x1=>Option.bind (Et (decide ((b2.length:Int)=(b2.length:Int)) && !b2.isEmpty)) fun x3=>some ((toStr b2),b1,([]:List Int))
def nB (F:Nat) (b1:reader):Option ((Str×reader)⊕Problem):=Option.bind (iter F (fun (x1:reader×Builder×(List Int))=>(Option.bind (cR F (2:Int) (3:Int) x1.1) (bt (fun p=>some (.inr (.inr p))) fun x2=>Option.bind ((if ((decide (x2.1.Kind=(3:Int)))&&(decide (x2.1.S≠([49]:Str))))=true then bA (i64.wrap (x2.2.pos-(1:Int))) fun x6=>Option.bind (aP F (281:Int) ({ x2.2 with pos:=x6 })) (bt (fun p=>some (.inr p)) fun x7=>some (.inl ({ x2.2 with pos:=x6 }))) else some (.inl x2.2)):Option (reader⊕Problem)) (cy (fun x8=>Option.bind (di F x2.1.S x1.2.1 x1.2.2) fun x9=>Option.bind (Option.bind (au F ([94]:Str) x8) fun x10=>(if x10.1=true then Option.bind (hJ F (1000000:Int) x10.2) (bt (fun p=>some (.inr p)) fun x11=>Option.bind (bT ([94]:Str) x11.2.1) fun x12=>Option.bind (di F x12 x9.2.2.1 x9.2.2.2) fun x13=>some (.inl (x11.2.2,x13.2.2.1,x13.2.2.2))) else some (.inl (x10.2,x9.2.2.1,x9.2.2.2))):Option ((reader×Builder×(List Int))⊕Problem)) (cy (fun x14=>Option.bind (eD F ([([42]:Str),([47]:Str)]:List Str) x14.1) fun x16=>(if (!x16)=true then Option.bind (kO F x14.2.1 x14.2.2) fun x18=>some (.inr (.inl (x18.1,x14.1))) else Option.bind (az F x14.1) fun x19=>Option.bind (di F x19.S x14.2.1 x14.2.2) fun x20=>some (.inl ({ x14.1 with pos:=(i64.wrap (x14.1.pos+(1:Int))) },x20.2.2.1,x20.2.2.2)))) (fun x22=>some (.inr (.inr x22))))) (fun x23=>some (.inr (.inr x23))))):Option ((reader×Builder×(List Int))⊕((Str×reader)⊕Problem)))) (b1,(⟨false,([]:List Int)⟩:Builder),([]:List Int))) (cy (fun x24=>some (.inl (x24.1,x24.2))) (fun x25=>some (.inr x25)))
mutual
def gx:Nat->reader->Option ((ab×reader)⊕Problem)
 | 0,_=>none
 | F+1,b1=>Option.bind (az F b1) fun x1=>Option.bind (au F ([116,114,117,101]:Str) b1) fun x2=>(if x2.1=true then some (.inl ((⟨(3:Int),(⟨(⟨false,false,(⟨(0:Int),(0:Int),(0:Int),(0:Int),(0:Int),(0:Int),(0:Int),(0:Int),(0:Int),(0:Int),(0:Int),(0:Int),(0:Int),(0:Int),(0:Int),(0:Int)⟩:aY)⟩:bc),(⟨false,false,(⟨(0:Int),(0:Int),(0:Int),(0:Int),(0:Int),(0:Int),(0:Int),(0:Int),(0:Int),(0:Int),(0:Int),(0:Int),(0:Int),(0:Int),(0:Int),(0:Int)⟩:aY)⟩:bc)⟩:ez),([]:Str),([]:Str),([]:List ab),x1.At⟩:ab),x2.2)) else Option.bind (au F ([102,97,108,115,101]:Str) x2.2) fun x3=>(if x3.1=true then some (.inl ((⟨(4:Int),(⟨(⟨false,false,(⟨(0:Int),(0:Int),(0:Int),(0:Int),(0:Int),(0:Int),(0:Int),(0:Int),(0:Int),(0:Int),(0:Int),(0:Int),(0:Int),(0:Int),(0:Int),(0:Int)⟩:aY)⟩:bc),(⟨false,false,(⟨(0:Int),(0:Int),(0:Int),(0:Int),(0:Int),(0:Int),(0:Int),(0:Int),(0:Int),(0:Int),(0:Int),(0:Int),(0:Int),(0:Int),(0:Int),(0:Int)⟩:aY)⟩:bc)⟩:ez),([]:Str),([]:Str),([]:List ab),x1.At⟩:ab),x3.2)) else Option.bind (au F ([40]:Str) x3.2) fun x4=>(if x4.1=true then Option.bind (bM F x4.2) (bt (fun p=>some (.inr p)) fun x5=>Option.bind (aG F ([([41]:Str)]:List Str) x5.2) (bt (fun p=>some (.inr p)) fun x7=>some (.inl (x5.1,x7)))) else Option.bind (cR F (2:Int) (3:Int) x4.2) (bt (fun p=>some (.inr p)) fun x8=>(if (decide (x1.Kind=(2:Int)))=true then some (.inl ((⟨(2:Int),(⟨(⟨false,false,(⟨(0:Int),(0:Int),(0:Int),(0:Int),(0:Int),(0:Int),(0:Int),(0:Int),(0:Int),(0:Int),(0:Int),(0:Int),(0:Int),(0:Int),(0:Int),(0:Int)⟩:aY)⟩:bc),(⟨false,false,(⟨(0:Int),(0:Int),(0:Int),(0:Int),(0:Int),(0:Int),(0:Int),(0:Int),(0:Int),(0:Int),(0:Int),(0:Int),(0:Int),(0:Int),(0:Int),(0:Int)⟩:aY)⟩:bc)⟩:ez),([]:Str),x1.S,([]:List ab),x1.At⟩:ab),x8.2)) else Option.bind (qK F x1) fun x10=>Option.bind (au F ([91]:Str) x8.2) fun x11=>(if x11.1=true then Option.bind (nB F x11.2) (bt (fun p=>some (.inr p)) fun x12=>Option.bind (aG F ([([93]:Str)]:List Str) x12.2) (bt (fun p=>some (.inr p)) fun x14=>some (.inl ((⟨(1:Int),x10.1,x12.1,([]:Str),([]:List ab),x1.At⟩:ab),x14)))) else some (.inl ((⟨(1:Int),x10.1,([]:Str),([]:Str),([]:List ab),x1.At⟩:ab),x11.2))))))))
def dB:Nat->reader->Option ((ab×reader)⊕Problem)
 | 0,_=>none
 | F+1,b1=>Option.bind (az F b1) fun x1=>Option.bind (au F ([45]:Str) b1) fun x2=>(if x2.1=true then Option.bind (dB F x2.2) (bt (fun p=>some (.inr p)) fun x3=>some (.inl ((⟨(9:Int),(⟨(⟨false,false,(⟨(0:Int),(0:Int),(0:Int),(0:Int),(0:Int),(0:Int),(0:Int),(0:Int),(0:Int),(0:Int),(0:Int),(0:Int),(0:Int),(0:Int),(0:Int),(0:Int)⟩:aY)⟩:bc),(⟨false,false,(⟨(0:Int),(0:Int),(0:Int),(0:Int),(0:Int),(0:Int),(0:Int),(0:Int),(0:Int),(0:Int),(0:Int),(0:Int),(0:Int),(0:Int),(0:Int),(0:Int)⟩:aY)⟩:bc)⟩:ez),([]:Str),([]:Str),([x3.1]:List ab),x1.At⟩:ab),x3.2))) else Option.bind (gx F x2.2) (bt (fun p=>some (.inr p)) fun x5=>some (.inl (x5.1,x5.2))))
def fL:Nat->reader->Option ((ab×reader)⊕Problem)
 | 0,_=>none
 | F+1,b1=>Option.bind (dB F b1) (bt (fun p=>some (.inr p)) fun x1=>Option.bind (iter F (fun (x2:reader×ab×ab)=>(Option.bind (az F x2.1) fun x3=>bA ((dH ([(([42]:Str),(7:Int)),(([47]:Str),(8:Int))]:List (Str×Int)) x3.S).getD (0:Int)) fun x4=>(if ((decide (x4=(0:Int)))||((decide (x3.Kind≠(1:Int)))&&(decide (x3.Kind≠(5:Int)))))=true then some (.inr (.inl (x2.1,x2.2.2))) else Option.bind (dB F ({ x2.1 with pos:=(i64.wrap (x2.1.pos+(1:Int))) })) (bt (fun p=>some (.inr (.inr p))) fun x11=>some (.inl (x11.2,x2.2.1,(⟨x4,(⟨(⟨false,false,(⟨(0:Int),(0:Int),(0:Int),(0:Int),(0:Int),(0:Int),(0:Int),(0:Int),(0:Int),(0:Int),(0:Int),(0:Int),(0:Int),(0:Int),(0:Int),(0:Int)⟩:aY)⟩:bc),(⟨false,false,(⟨(0:Int),(0:Int),(0:Int),(0:Int),(0:Int),(0:Int),(0:Int),(0:Int),(0:Int),(0:Int),(0:Int),(0:Int),(0:Int),(0:Int),(0:Int),(0:Int)⟩:aY)⟩:bc)⟩:ez),([]:Str),([]:Str),([x2.2.2,x11.1]:List ab),x3.At⟩:ab))))):Option ((reader×ab×ab)⊕((reader×ab)⊕Problem)))) (x1.2,(⟨(0:Int),(⟨(⟨false,false,(⟨(0:Int),(0:Int),(0:Int),(0:Int),(0:Int),(0:Int),(0:Int),(0:Int),(0:Int),(0:Int),(0:Int),(0:Int),(0:Int),(0:Int),(0:Int),(0:Int)⟩:aY)⟩:bc),(⟨false,false,(⟨(0:Int),(0:Int),(0:Int),(0:Int),(0:Int),(0:Int),(0:Int),(0:Int),(0:Int),(0:Int),(0:Int),(0:Int),(0:Int),(0:Int),(0:Int),(0:Int)⟩:aY)⟩:bc)⟩:ez),([]:Str),([]:Str),([]:List ab),(0:Int)⟩:ab),x1.1)) (cy (fun x13=>some (.inl (x13.2,x13.1))) (fun x14=>some (.inr x14))))
def dG:Nat->reader->Option ((ab×reader)⊕Problem)
 | 0,_=>none
 | F+1,b1=>Option.bind (fL F b1) (bt (fun p=>some (.inr p)) fun x1=>some (.inl (x1.1,x1.2)))
def ga:Nat->reader->Option ((ab×reader)⊕Problem)
 | 0,_=>none
 | F+1,b1=>Option.bind (dG F b1) (bt (fun p=>some (.inr p)) fun x1=>Option.bind (iter F (fun (x2:reader×ab×ab)=>(Option.bind (az F x2.1) fun x3=>bA ((dH ([(([43]:Str),(5:Int)),(([45]:Str),(6:Int))]:List (Str×Int)) x3.S).getD (0:Int)) fun x4=>(if ((decide (x4=(0:Int)))||((decide (x3.Kind≠(1:Int)))&&(decide (x3.Kind≠(5:Int)))))=true then some (.inr (.inl (x2.1,x2.2.2))) else Option.bind (dG F ({ x2.1 with pos:=(i64.wrap (x2.1.pos+(1:Int))) })) (bt (fun p=>some (.inr (.inr p))) fun x11=>some (.inl (x11.2,x2.2.1,(⟨x4,(⟨(⟨false,false,(⟨(0:Int),(0:Int),(0:Int),(0:Int),(0:Int),(0:Int),(0:Int),(0:Int),(0:Int),(0:Int),(0:Int),(0:Int),(0:Int),(0:Int),(0:Int),(0:Int)⟩:aY)⟩:bc),(⟨false,false,(⟨(0:Int),(0:Int),(0:Int),(0:Int),(0:Int),(0:Int),(0:Int),(0:Int),(0:Int),(0:Int),(0:Int),(0:Int),(0:Int),(0:Int),(0:Int),(0:Int)⟩:aY)⟩:bc)⟩:ez),([]:Str),([]:Str),([x2.2.2,x11.1]:List ab),x3.At⟩:ab))))):Option ((reader×ab×ab)⊕((reader×ab)⊕Problem)))) (x1.2,(⟨(0:Int),(⟨(⟨false,false,(⟨(0:Int),(0:Int),(0:Int),(0:Int),(0:Int),(0:Int),(0:Int),(0:Int),(0:Int),(0:Int),(0:Int),(0:Int),(0:Int),(0:Int),(0:Int),(0:Int)⟩:aY)⟩:bc),(⟨false,false,(⟨(0:Int),(0:Int),(0:Int),(0:Int),(0:Int),(0:Int),(0:Int),(0:Int),(0:Int),(0:Int),(0:Int),(0:Int),(0:Int),(0:Int),(0:Int),(0:Int)⟩:aY)⟩:bc)⟩:ez),([]:Str),([]:Str),([]:List ab),(0:Int)⟩:ab),x1.1)) (cy (fun x13=>some (.inl (x13.2,x13.1))) (fun x14=>some (.inr x14))))
def fa:Nat->reader->Option ((ab×reader)⊕Problem)
 | 0,_=>none
 | F+1,b1=>Option.bind (ga F b1) (bt (fun p=>some (.inr p)) fun x1=>some (.inl (x1.1,x1.2)))
def gw:Nat->reader->Option ((ab×reader)⊕Problem)
 | 0,_=>none
 | F+1,b1=>Option.bind (fa F b1) (bt (fun p=>some (.inr p)) fun x1=>Option.bind (az F x1.2) fun x2=>bA ((dH ([(([60]:Str),(10:Int)),(([60,61]:Str),(13:Int)),(([62]:Str),(12:Int)),(([62,61]:Str),(11:Int)),(([61,61]:Str),(14:Int)),(([33,61]:Str),(15:Int))]:List (Str×Int)) x2.S).getD (0:Int)) fun x3=>(if ((decide (x3=(0:Int)))||(decide (x2.Kind≠(5:Int))))=true then some (.inl (x1.1,x1.2)) else Option.bind (fa F ({ x1.2 with pos:=(i64.wrap (x1.2.pos+(1:Int))) })) (bt (fun p=>some (.inr p)) fun x8=>some (.inl ((⟨x3,(⟨(⟨false,false,(⟨(0:Int),(0:Int),(0:Int),(0:Int),(0:Int),(0:Int),(0:Int),(0:Int),(0:Int),(0:Int),(0:Int),(0:Int),(0:Int),(0:Int),(0:Int),(0:Int)⟩:aY)⟩:bc),(⟨false,false,(⟨(0:Int),(0:Int),(0:Int),(0:Int),(0:Int),(0:Int),(0:Int),(0:Int),(0:Int),(0:Int),(0:Int),(0:Int),(0:Int),(0:Int),(0:Int),(0:Int)⟩:aY)⟩:bc)⟩:ez),([]:Str),([]:Str),([x1.1,x8.1]:List ab),x2.At⟩:ab),x8.2)))))
def dW:Nat->reader->Option ((ab×reader)⊕Problem)
 | 0,_=>none
 | F+1,b1=>Option.bind (az F b1) fun x1=>Option.bind (au F ([110,111,116]:Str) b1) fun x2=>(if x2.1=true then Option.bind (dW F x2.2) (bt (fun p=>some (.inr p)) fun x3=>some (.inl ((⟨(18:Int),(⟨(⟨false,false,(⟨(0:Int),(0:Int),(0:Int),(0:Int),(0:Int),(0:Int),(0:Int),(0:Int),(0:Int),(0:Int),(0:Int),(0:Int),(0:Int),(0:Int),(0:Int),(0:Int)⟩:aY)⟩:bc),(⟨false,false,(⟨(0:Int),(0:Int),(0:Int),(0:Int),(0:Int),(0:Int),(0:Int),(0:Int),(0:Int),(0:Int),(0:Int),(0:Int),(0:Int),(0:Int),(0:Int),(0:Int)⟩:aY)⟩:bc)⟩:ez),([]:Str),([]:Str),([x3.1]:List ab),x1.At⟩:ab),x3.2))) else Option.bind (gw F x2.2) (bt (fun p=>some (.inr p)) fun x5=>some (.inl (x5.1,x5.2))))
def gK:Nat->reader->Option ((ab×reader)⊕Problem)
 | 0,_=>none
 | F+1,b1=>Option.bind (dW F b1) (bt (fun p=>some (.inr p)) fun x1=>Option.bind (iter F (fun (x2:reader×ab×ab)=>(Option.bind (az F x2.1) fun x3=>bA ((dH ([(([97,110,100]:Str),(16:Int))]:List (Str×Int)) x3.S).getD (0:Int)) fun x4=>(if ((decide (x4=(0:Int)))||((decide (x3.Kind≠(1:Int)))&&(decide (x3.Kind≠(5:Int)))))=true then some (.inr (.inl (x2.1,x2.2.2))) else Option.bind (dW F ({ x2.1 with pos:=(i64.wrap (x2.1.pos+(1:Int))) })) (bt (fun p=>some (.inr (.inr p))) fun x11=>some (.inl (x11.2,x2.2.1,(⟨x4,(⟨(⟨false,false,(⟨(0:Int),(0:Int),(0:Int),(0:Int),(0:Int),(0:Int),(0:Int),(0:Int),(0:Int),(0:Int),(0:Int),(0:Int),(0:Int),(0:Int),(0:Int),(0:Int)⟩:aY)⟩:bc),(⟨false,false,(⟨(0:Int),(0:Int),(0:Int),(0:Int),(0:Int),(0:Int),(0:Int),(0:Int),(0:Int),(0:Int),(0:Int),(0:Int),(0:Int),(0:Int),(0:Int),(0:Int)⟩:aY)⟩:bc)⟩:ez),([]:Str),([]:Str),([x2.2.2,x11.1]:List ab),x3.At⟩:ab))))):Option ((reader×ab×ab)⊕((reader×ab)⊕Problem)))) (x1.2,(⟨(0:Int),(⟨(⟨false,false,(⟨(0:Int),(0:Int),(0:Int),(0:Int),(0:Int),(0:Int),(0:Int),(0:Int),(0:Int),(0:Int),(0:Int),(0:Int),(0:Int),(0:Int),(0:Int),(0:Int)⟩:aY)⟩:bc),(⟨false,false,(⟨(0:Int),(0:Int),(0:Int),(0:Int),(0:Int),(0:Int),(0:Int),(0:Int),(0:Int),(0:Int),(0:Int),(0:Int),(0:Int),(0:Int),(0:Int),(0:Int)⟩:aY)⟩:bc)⟩:ez),([]:Str),([]:Str),([]:List ab),(0:Int)⟩:ab),x1.1)) (cy (fun x13=>some (.inl (x13.2,x13.1))) (fun x14=>some (.inr x14))))
def fb:Nat->reader->Option ((ab×reader)⊕Problem)
 | 0,_=>none
 | F+1,b1=>Option.bind (gK F b1) (bt (fun p=>some (.inr p)) fun x1=>some (.inl (x1.1,x1.2)))
def iO:Nat->reader->Option ((ab×reader)⊕Problem)
 | 0,_=>none
 | F+1,b1=>Option.bind (fb F b1) (bt (fun p=>some (.inr p)) fun x1=>Option.bind (iter F (fun (x2:reader×ab×ab)=>(Option.bind (az F x2.1) fun x3=>bA ((dH ([(([111,114]:Str),(17:Int))]:List (Str×Int)) x3.S).getD (0:Int)) fun x4=>(if ((decide (x4=(0:Int)))||((decide (x3.Kind≠(1:Int)))&&(decide (x3.Kind≠(5:Int)))))=true then some (.inr (.inl (x2.1,x2.2.2))) else Option.bind (fb F ({ x2.1 with pos:=(i64.wrap (x2.1.pos+(1:Int))) })) (bt (fun p=>some (.inr (.inr p))) fun x11=>some (.inl (x11.2,x2.2.1,(⟨x4,(⟨(⟨false,false,(⟨(0:Int),(0:Int),(0:Int),(0:Int),(0:Int),(0:Int),(0:Int),(0:Int),(0:Int),(0:Int),(0:Int),(0:Int),(0:Int),(0:Int),(0:Int),(0:Int)⟩:aY)⟩:bc),(⟨false,false,(⟨(0:Int),(0:Int),(0:Int),(0:Int),(0:Int),(0:Int),(0:Int),(0:Int),(0:Int),(0:Int),(0:Int),(0:Int),(0:Int),(0:Int),(0:Int),(0:Int)⟩:aY)⟩:bc)⟩:ez),([]:Str),([]:Str),([x2.2.2,x11.1]:List ab),x3.At⟩:ab))))):Option ((reader×ab×ab)⊕((reader×ab)⊕Problem)))) (x1.2,(⟨(0:Int),(⟨(⟨false,false,(⟨(0:Int),(0:Int),(0:Int),(0:Int),(0:Int),(0:Int),(0:Int),(0:Int),(0:Int),(0:Int),(0:Int),(0:Int),(0:Int),(0:Int),(0:Int),(0:Int)⟩:aY)⟩:bc),(⟨false,false,(⟨(0:Int),(0:Int),(0:Int),(0:Int),(0:Int),(0:Int),(0:Int),(0:Int),(0:Int),(0:Int),(0:Int),(0:Int),(0:Int),(0:Int),(0:Int),(0:Int)⟩:aY)⟩:bc)⟩:ez),([]:Str),([]:Str),([]:List ab),(0:Int)⟩:ab),x1.1)) (cy (fun x13=>some (.inl (x13.2,x13.1))) (fun x14=>some (.inr x14))))
def bM:Nat->reader->Option ((ab×reader)⊕Problem)
 | 0,_=>none
 | F+1,b1=>Option.bind (iO F b1) (bt (fun p=>some (.inr p)) fun x1=>some (.inl (x1.1,x1.2)))
end
def iJ (F:Nat) (b1:reader) (b2:ab):Option ((reader×ab)⊕Problem):=Option.bind (bM F b1) (bt (fun p=>some (.inr p)) fun x1=>some (.inl (x1.2,x1.1)))
def dC (F:Nat) (b1:reader):Option ((Str×reader)⊕Problem):=Option.bind (cR F (2:Int) (2:Int) b1) (bt (fun p=>some (.inr p)) fun x1=>some (.inl (x1.1.S,x1.2)))
def kz (F:Nat) (b1:reader) (b2:aA):Option ((reader×aA)⊕Problem):=Option.bind (dC F b1) (bt (fun p=>some (.inr p)) fun x1=>Option.bind (aG F ([([61]:Str)]:List Str) x1.2) (bt (fun p=>some (.inr p)) fun x3=>Option.bind (bM F x3) (bt (fun p=>some (.inr p)) fun x4=>Option.bind (aG F ([([59]:Str)]:List Str) x4.2) (bt (fun p=>some (.inr p)) fun x6=>some (.inl (x6,{ b2 with Name:=x1.1,X:=x4.1 }))))))
def cq (F:Nat) (b1:reader):Option ((af×reader)⊕Problem):=Option.bind (iter F (fun (x1:Int×reader×af)=>((if (decide (x1.1<(3:Int)))=true then Option.bind (aD (b4.al (⟨([40]:Str),([44]:Str),([44]:Str)⟩:b4)) x1.1) fun x3=>Option.bind (aG F ([x3]:List Str) x1.2.1) (bt (fun p=>some (.inr (.inr p))) fun x5=>Option.bind (bM F x5) (bt (fun p=>some (.inr (.inr p))) fun x6=>Option.bind (aD (af.al x1.2.2) x1.1) fun x7=>Option.bind (aD (af.al x1.2.2) x1.1) fun x8=>some (.inl ((i64.wrap (x1.1+(1:Int))),x6.2,af.ao ((af.al x1.2.2).set x1.1.toNat x6.1))))) else some (.inr (.inl (x1.2.1,x1.2.2)))):Option ((Int×reader×af)⊕((reader×af)⊕Problem)))) ((0:Int),b1,(⟨(⟨(0:Int),(⟨(⟨false,false,(⟨(0:Int),(0:Int),(0:Int),(0:Int),(0:Int),(0:Int),(0:Int),(0:Int),(0:Int),(0:Int),(0:Int),(0:Int),(0:Int),(0:Int),(0:Int),(0:Int)⟩:aY)⟩:bc),(⟨false,false,(⟨(0:Int),(0:Int),(0:Int),(0:Int),(0:Int),(0:Int),(0:Int),(0:Int),(0:Int),(0:Int),(0:Int),(0:Int),(0:Int),(0:Int),(0:Int),(0:Int)⟩:aY)⟩:bc)⟩:ez),([]:Str),([]:Str),([]:List ab),(0:Int)⟩:ab),(⟨(0:Int),(⟨(⟨false,false,(⟨(0:Int),(0:Int),(0:Int),(0:Int),(0:Int),(0:Int),(0:Int),(0:Int),(0:Int),(0:Int),(0:Int),(0:Int),(0:Int),(0:Int),(0:Int),(0:Int)⟩:aY)⟩:bc),(⟨false,false,(⟨(0:Int),(0:Int),(0:Int),(0:Int),(0:Int),(0:Int),(0:Int),(0:Int),(0:Int),(0:Int),(0:Int),(0:Int),(0:Int),(0:Int),(0:Int),(0:Int)⟩:aY)⟩:bc)⟩:ez),([]:Str),([]:Str),([]:List ab),(0:Int)⟩:ab),(⟨(0:Int),(⟨(⟨false,false,(⟨(0:Int),(0:Int),(0:Int),(0:Int),(0:Int),(0:Int),(0:Int),(0:Int),(0:Int),(0:Int),(0:Int),(0:Int),(0:Int),(0:Int),(0:Int),(0:Int)⟩:aY)⟩:bc),(⟨false,false,(⟨(0:Int),(0:Int),(0:Int),(0:Int),(0:Int),(0:Int),(0:Int),(0:Int),(0:Int),(0:Int),(0:Int),(0:Int),(0:Int),(0:Int),(0:Int),(0:Int)⟩:aY)⟩:bc)⟩:ez),([]:Str),([]:Str),([]:List ab),(0:Int)⟩:ab)⟩:af))) (cy (fun x10=>Option.bind (aG F ([([41]:Str)]:List Str) x10.1) (bt (fun p=>some (.inr p)) fun x12=>some (.inl (x10.2,x12)))) (fun x13=>some (.inr x13)))
def gu (F:Nat) (b1:reader):Option ((bm×reader)⊕Problem):=Option.bind (cq F b1) (bt (fun p=>some (.inr p)) fun x1=>Option.bind (au F ([116,117,114,110]:Str) x1.2) fun x2=>(if x2.1=true then Option.bind (iter F (fun (x3:Int×reader×bm)=>((if (decide (x3.1<(4:Int)))=true then Option.bind (aD (bZ.al (⟨([40]:Str),([44]:Str),([44]:Str),([44]:Str)⟩:bZ)) x3.1) fun x5=>Option.bind (aG F ([x5]:List Str) x3.2.1) (bt (fun p=>some (.inr (.inr p))) fun x7=>Option.bind (hJ F (64:Int) x7) (bt (fun p=>some (.inr (.inr p))) fun x8=>Option.bind (aD (A4.al x3.2.2.Turn) x3.1) fun x9=>Option.bind (aD (A4.al x3.2.2.Turn) x3.1) fun x10=>some (.inl ((i64.wrap (x3.1+(1:Int))),x8.2.2,(⟨x3.2.2.X,A4.ao ((A4.al x3.2.2.Turn).set x3.1.toNat x8.1)⟩:bm))))) else some (.inr (.inl (x3.2.1,x3.2.2)))):Option ((Int×reader×bm)⊕((reader×bm)⊕Problem)))) ((0:Int),x2.2,(⟨x1.1,(⟨(1:Int),(0:Int),(0:Int),(0:Int)⟩:A4)⟩:bm))) (cy (fun x12=>Option.bind (aG F ([([41]:Str)]:List Str) x12.1) (bt (fun p=>some (.inr p)) fun x14=>some (.inl (x12.2,x14)))) (fun x15=>some (.inr x15))) else some (.inl ((⟨x1.1,(⟨(1:Int),(0:Int),(0:Int),(0:Int)⟩:A4)⟩:bm),x2.2))))
def oo (F:Nat) (sign:Str) (b1:reader):Option (((List bm)×reader)⊕Problem):=Option.bind (gu F b1) (bt (fun p=>some (.inr p)) fun x2=>Option.bind (iter F (fun (x3:reader×(List bm))=>(Option.bind (au F sign x3.1) fun x4=>(if x4.1=true then Option.bind (gu F x4.2) (bt (fun p=>some (.inr (.inr p))) fun x5=>Option.bind (bT x3.2 ([x5.1]:List bm)) fun x7=>some (.inl (x5.2,x7))) else some (.inr (.inl (x4.2,x3.2)))):Option ((reader×(List bm))⊕((reader×(List bm))⊕Problem)))) (x2.2,([x2.1]:List bm))) (cy (fun x8=>some (.inl (x8.2,x8.1))) (fun x9=>some (.inr x9))))
def jw (F:Nat) (b1:reader) (b2:aA):Option ((reader×aA)⊕Problem):=Option.bind (dC F b1) (bt (fun p=>some (.inr p)) fun x1=>Option.bind (aG F ([([98,121]:Str)]:List Str) x1.2) (bt (fun p=>some (.inr p)) fun x3=>Option.bind (oo F ([44]:Str) x3) (bt (fun p=>some (.inr p)) fun x4=>Option.bind (aG F ([([59]:Str)]:List Str) x4.2) (bt (fun p=>some (.inr p)) fun x6=>some (.inl (x6,{ b2 with Name:=x1.1,Poses:=x4.1 }))))))
def iN (F:Nat) (b1:reader) (b2:aA):Option ((reader×aA)⊕Problem):=Option.bind (aG F ([([59]:Str)]:List Str) b1) (bt (fun p=>some (.inr p)) fun x2=>some (.inl (x2,b2)))
def ky (F:Nat) (b1:reader) (b2:aA):Option ((reader×aA)⊕Problem):=Option.bind (bM F b1) (bt (fun p=>some (.inr p)) fun x1=>Option.bind (aG F ([([59]:Str)]:List Str) x1.2) (bt (fun p=>some (.inr p)) fun x3=>some (.inl (x3,{ b2 with X:=x1.1 }))))
def fi (F:Nat) (b1:reader):Option (((List ab)×reader)⊕Problem):=Option.bind (bM F b1) (bt (fun p=>some (.inr p)) fun x2=>Option.bind (au F ([46,46]:Str) x2.2) fun x3=>(if x3.1=true then Option.bind (bM F x3.2) (bt (fun p=>some (.inr p)) fun x4=>Option.bind (bT ([x2.1]:List ab) ([x4.1]:List ab)) fun x6=>some (.inl (x6,x4.2))) else some (.inl (([x2.1]:List ab),x3.2))))
def oq (F:Nat) (sign:Str) (b1:reader):Option (((List af)×reader)⊕Problem):=Option.bind (cq F b1) (bt (fun p=>some (.inr p)) fun x2=>Option.bind (iter F (fun (x3:reader×(List af))=>(Option.bind (au F sign x3.1) fun x4=>(if x4.1=true then Option.bind (cq F x4.2) (bt (fun p=>some (.inr (.inr p))) fun x5=>Option.bind (bT x3.2 ([x5.1]:List af)) fun x7=>some (.inl (x5.2,x7))) else some (.inr (.inl (x4.2,x3.2)))):Option ((reader×(List af))⊕((reader×(List af))⊕Problem)))) (x2.2,([x2.1]:List af))) (cy (fun x8=>some (.inl (x8.2,x8.1))) (fun x9=>some (.inr x9))))
def mn (F:Nat) (b1:reader):Option ((aL×reader)⊕Problem):=Option.bind (az F b1) fun x1=>Option.bind (Option.bind (au F ([98,111,120]:Str) b1) fun x2=>(if x2.1=true then Option.bind (cq F x2.2) (bt (fun p=>some (.inr (.inr p))) fun x3=>Option.bind (aG F ([([116,111]:Str)]:List Str) x3.2) (bt (fun p=>some (.inr (.inr p))) fun x5=>Option.bind (cq F x5) (bt (fun p=>some (.inr (.inr p))) fun x6=>some (.inl (x6.2,(⟨(0:Int),([]:List ab),([]:List af),(⟨(⟨(⟨(0:Int),(⟨(⟨false,false,(⟨(0:Int),(0:Int),(0:Int),(0:Int),(0:Int),(0:Int),(0:Int),(0:Int),(0:Int),(0:Int),(0:Int),(0:Int),(0:Int),(0:Int),(0:Int),(0:Int)⟩:aY)⟩:bc),(⟨false,false,(⟨(0:Int),(0:Int),(0:Int),(0:Int),(0:Int),(0:Int),(0:Int),(0:Int),(0:Int),(0:Int),(0:Int),(0:Int),(0:Int),(0:Int),(0:Int),(0:Int)⟩:aY)⟩:bc)⟩:ez),([]:Str),([]:Str),([]:List ab),(0:Int)⟩:ab),(⟨(0:Int),(⟨(⟨false,false,(⟨(0:Int),(0:Int),(0:Int),(0:Int),(0:Int),(0:Int),(0:Int),(0:Int),(0:Int),(0:Int),(0:Int),(0:Int),(0:Int),(0:Int),(0:Int),(0:Int)⟩:aY)⟩:bc),(⟨false,false,(⟨(0:Int),(0:Int),(0:Int),(0:Int),(0:Int),(0:Int),(0:Int),(0:Int),(0:Int),(0:Int),(0:Int),(0:Int),(0:Int),(0:Int),(0:Int),(0:Int)⟩:aY)⟩:bc)⟩:ez),([]:Str),([]:Str),([]:List ab),(0:Int)⟩:ab),(⟨(0:Int),(⟨(⟨false,false,(⟨(0:Int),(0:Int),(0:Int),(0:Int),(0:Int),(0:Int),(0:Int),(0:Int),(0:Int),(0:Int),(0:Int),(0:Int),(0:Int),(0:Int),(0:Int),(0:Int)⟩:aY)⟩:bc),(⟨false,false,(⟨(0:Int),(0:Int),(0:Int),(0:Int),(0:Int),(0:Int),(0:Int),(0:Int),(0:Int),(0:Int),(0:Int),(0:Int),(0:Int),(0:Int),(0:Int),(0:Int)⟩:aY)⟩:bc)⟩:ez),([]:Str),([]:Str),([]:List ab),(0:Int)⟩:ab)⟩:af),(⟨(0:Int),(0:Int),(0:Int),(0:Int)⟩:A4)⟩:bm),(0:Int)⟩:aL),(⟨(1:Int),([]:List ab),([x3.1,x6.1]:List af),(⟨(⟨(⟨(0:Int),(⟨(⟨false,false,(⟨(0:Int),(0:Int),(0:Int),(0:Int),(0:Int),(0:Int),(0:Int),(0:Int),(0:Int),(0:Int),(0:Int),(0:Int),(0:Int),(0:Int),(0:Int),(0:Int)⟩:aY)⟩:bc),(⟨false,false,(⟨(0:Int),(0:Int),(0:Int),(0:Int),(0:Int),(0:Int),(0:Int),(0:Int),(0:Int),(0:Int),(0:Int),(0:Int),(0:Int),(0:Int),(0:Int),(0:Int)⟩:aY)⟩:bc)⟩:ez),([]:Str),([]:Str),([]:List ab),(0:Int)⟩:ab),(⟨(0:Int),(⟨(⟨false,false,(⟨(0:Int),(0:Int),(0:Int),(0:Int),(0:Int),(0:Int),(0:Int),(0:Int),(0:Int),(0:Int),(0:Int),(0:Int),(0:Int),(0:Int),(0:Int),(0:Int)⟩:aY)⟩:bc),(⟨false,false,(⟨(0:Int),(0:Int),(0:Int),(0:Int),(0:Int),(0:Int),(0:Int),(0:Int),(0:Int),(0:Int),(0:Int),(0:Int),(0:Int),(0:Int),(0:Int),(0:Int)⟩:aY)⟩:bc)⟩:ez),([]:Str),([]:Str),([]:List ab),(0:Int)⟩:ab),(⟨(0:Int),(⟨(⟨false,false,(⟨(0:Int),(0:Int),(0:Int),(0:Int),(0:Int),(0:Int),(0:Int),(0:Int),(0:Int),(0:Int),(0:Int),(0:Int),(0:Int),(0:Int),(0:Int),(0:Int)⟩:aY)⟩:bc),(⟨false,false,(⟨(0:Int),(0:Int),(0:Int),(0:Int),(0:Int),(0:Int),(0:Int),(0:Int),(0:Int),(0:Int),(0:Int),(0:Int),(0:Int),(0:Int),(0:Int),(0:Int)⟩:aY)⟩:bc)⟩:ez),([]:Str),([]:Str),([]:List ab),(0:Int)⟩:ab)⟩:af),(⟨(0:Int),(0:Int),(0:Int),(0:Int)⟩:A4)⟩:bm),x1.At⟩:aL)))))) else Option.bind (au F ([112,111,105,110,116,115]:Str) x2.2) fun x8=>(if x8.1=true then Option.bind (aG F ([([123]:Str)]:List Str) x8.2) (bt (fun p=>some (.inr (.inr p))) fun x10=>Option.bind (oq F ([44]:Str) x10) (bt (fun p=>some (.inr (.inr p))) fun x11=>Option.bind (aG F ([([125]:Str)]:List Str) x11.2) (bt (fun p=>some (.inr (.inr p))) fun x13=>some (.inr (.inl (x13,(⟨(2:Int),([]:List ab),x11.1,(⟨(⟨(⟨(0:Int),(⟨(⟨false,false,(⟨(0:Int),(0:Int),(0:Int),(0:Int),(0:Int),(0:Int),(0:Int),(0:Int),(0:Int),(0:Int),(0:Int),(0:Int),(0:Int),(0:Int),(0:Int),(0:Int)⟩:aY)⟩:bc),(⟨false,false,(⟨(0:Int),(0:Int),(0:Int),(0:Int),(0:Int),(0:Int),(0:Int),(0:Int),(0:Int),(0:Int),(0:Int),(0:Int),(0:Int),(0:Int),(0:Int),(0:Int)⟩:aY)⟩:bc)⟩:ez),([]:Str),([]:Str),([]:List ab),(0:Int)⟩:ab),(⟨(0:Int),(⟨(⟨false,false,(⟨(0:Int),(0:Int),(0:Int),(0:Int),(0:Int),(0:Int),(0:Int),(0:Int),(0:Int),(0:Int),(0:Int),(0:Int),(0:Int),(0:Int),(0:Int),(0:Int)⟩:aY)⟩:bc),(⟨false,false,(⟨(0:Int),(0:Int),(0:Int),(0:Int),(0:Int),(0:Int),(0:Int),(0:Int),(0:Int),(0:Int),(0:Int),(0:Int),(0:Int),(0:Int),(0:Int),(0:Int)⟩:aY)⟩:bc)⟩:ez),([]:Str),([]:Str),([]:List ab),(0:Int)⟩:ab),(⟨(0:Int),(⟨(⟨false,false,(⟨(0:Int),(0:Int),(0:Int),(0:Int),(0:Int),(0:Int),(0:Int),(0:Int),(0:Int),(0:Int),(0:Int),(0:Int),(0:Int),(0:Int),(0:Int),(0:Int)⟩:aY)⟩:bc),(⟨false,false,(⟨(0:Int),(0:Int),(0:Int),(0:Int),(0:Int),(0:Int),(0:Int),(0:Int),(0:Int),(0:Int),(0:Int),(0:Int),(0:Int),(0:Int),(0:Int),(0:Int)⟩:aY)⟩:bc)⟩:ez),([]:Str),([]:Str),([]:List ab),(0:Int)⟩:ab)⟩:af),(⟨(0:Int),(0:Int),(0:Int),(0:Int)⟩:A4)⟩:bm),x1.At⟩:aL))))))) else Option.bind (au F ([109,97,115,115]:Str) x8.2) fun x14=>(if x14.1=true then Option.bind (fi F x14.2) (bt (fun p=>some (.inr (.inr p))) fun x15=>some (.inl (x15.2,(⟨(0:Int),([]:List ab),([]:List af),(⟨(⟨(⟨(0:Int),(⟨(⟨false,false,(⟨(0:Int),(0:Int),(0:Int),(0:Int),(0:Int),(0:Int),(0:Int),(0:Int),(0:Int),(0:Int),(0:Int),(0:Int),(0:Int),(0:Int),(0:Int),(0:Int)⟩:aY)⟩:bc),(⟨false,false,(⟨(0:Int),(0:Int),(0:Int),(0:Int),(0:Int),(0:Int),(0:Int),(0:Int),(0:Int),(0:Int),(0:Int),(0:Int),(0:Int),(0:Int),(0:Int),(0:Int)⟩:aY)⟩:bc)⟩:ez),([]:Str),([]:Str),([]:List ab),(0:Int)⟩:ab),(⟨(0:Int),(⟨(⟨false,false,(⟨(0:Int),(0:Int),(0:Int),(0:Int),(0:Int),(0:Int),(0:Int),(0:Int),(0:Int),(0:Int),(0:Int),(0:Int),(0:Int),(0:Int),(0:Int),(0:Int)⟩:aY)⟩:bc),(⟨false,false,(⟨(0:Int),(0:Int),(0:Int),(0:Int),(0:Int),(0:Int),(0:Int),(0:Int),(0:Int),(0:Int),(0:Int),(0:Int),(0:Int),(0:Int),(0:Int),(0:Int)⟩:aY)⟩:bc)⟩:ez),([]:Str),([]:Str),([]:List ab),(0:Int)⟩:ab),(⟨(0:Int),(⟨(⟨false,false,(⟨(0:Int),(0:Int),(0:Int),(0:Int),(0:Int),(0:Int),(0:Int),(0:Int),(0:Int),(0:Int),(0:Int),(0:Int),(0:Int),(0:Int),(0:Int),(0:Int)⟩:aY)⟩:bc),(⟨false,false,(⟨(0:Int),(0:Int),(0:Int),(0:Int),(0:Int),(0:Int),(0:Int),(0:Int),(0:Int),(0:Int),(0:Int),(0:Int),(0:Int),(0:Int),(0:Int),(0:Int)⟩:aY)⟩:bc)⟩:ez),([]:Str),([]:Str),([]:List ab),(0:Int)⟩:ab)⟩:af),(⟨(0:Int),(0:Int),(0:Int),(0:Int)⟩:A4)⟩:bm),(0:Int)⟩:aL),(⟨(3:Int),x15.1,([]:List af),(⟨(⟨(⟨(0:Int),(⟨(⟨false,false,(⟨(0:Int),(0:Int),(0:Int),(0:Int),(0:Int),(0:Int),(0:Int),(0:Int),(0:Int),(0:Int),(0:Int),(0:Int),(0:Int),(0:Int),(0:Int),(0:Int)⟩:aY)⟩:bc),(⟨false,false,(⟨(0:Int),(0:Int),(0:Int),(0:Int),(0:Int),(0:Int),(0:Int),(0:Int),(0:Int),(0:Int),(0:Int),(0:Int),(0:Int),(0:Int),(0:Int),(0:Int)⟩:aY)⟩:bc)⟩:ez),([]:Str),([]:Str),([]:List ab),(0:Int)⟩:ab),(⟨(0:Int),(⟨(⟨false,false,(⟨(0:Int),(0:Int),(0:Int),(0:Int),(0:Int),(0:Int),(0:Int),(0:Int),(0:Int),(0:Int),(0:Int),(0:Int),(0:Int),(0:Int),(0:Int),(0:Int)⟩:aY)⟩:bc),(⟨false,false,(⟨(0:Int),(0:Int),(0:Int),(0:Int),(0:Int),(0:Int),(0:Int),(0:Int),(0:Int),(0:Int),(0:Int),(0:Int),(0:Int),(0:Int),(0:Int),(0:Int)⟩:aY)⟩:bc)⟩:ez),([]:Str),([]:Str),([]:List ab),(0:Int)⟩:ab),(⟨(0:Int),(⟨(⟨false,false,(⟨(0:Int),(0:Int),(0:Int),(0:Int),(0:Int),(0:Int),(0:Int),(0:Int),(0:Int),(0:Int),(0:Int),(0:Int),(0:Int),(0:Int),(0:Int),(0:Int)⟩:aY)⟩:bc),(⟨false,false,(⟨(0:Int),(0:Int),(0:Int),(0:Int),(0:Int),(0:Int),(0:Int),(0:Int),(0:Int),(0:Int),(0:Int),(0:Int),(0:Int),(0:Int),(0:Int),(0:Int)⟩:aY)⟩:bc)⟩:ez),([]:Str),([]:Str),([]:List ab),(0:Int)⟩:ab)⟩:af),(⟨(0:Int),(0:Int),(0:Int),(0:Int)⟩:A4)⟩:bm),x1.At⟩:aL)))) else Option.bind (au F ([114,111,117,103,104]:Str) x14.2) fun x16=>(if x16.1=true then Option.bind (fi F x16.2) (bt (fun p=>some (.inr (.inr p))) fun x17=>some (.inl (x17.2,(⟨(0:Int),([]:List ab),([]:List af),(⟨(⟨(⟨(0:Int),(⟨(⟨false,false,(⟨(0:Int),(0:Int),(0:Int),(0:Int),(0:Int),(0:Int),(0:Int),(0:Int),(0:Int),(0:Int),(0:Int),(0:Int),(0:Int),(0:Int),(0:Int),(0:Int)⟩:aY)⟩:bc),(⟨false,false,(⟨(0:Int),(0:Int),(0:Int),(0:Int),(0:Int),(0:Int),(0:Int),(0:Int),(0:Int),(0:Int),(0:Int),(0:Int),(0:Int),(0:Int),(0:Int),(0:Int)⟩:aY)⟩:bc)⟩:ez),([]:Str),([]:Str),([]:List ab),(0:Int)⟩:ab),(⟨(0:Int),(⟨(⟨false,false,(⟨(0:Int),(0:Int),(0:Int),(0:Int),(0:Int),(0:Int),(0:Int),(0:Int),(0:Int),(0:Int),(0:Int),(0:Int),(0:Int),(0:Int),(0:Int),(0:Int)⟩:aY)⟩:bc),(⟨false,false,(⟨(0:Int),(0:Int),(0:Int),(0:Int),(0:Int),(0:Int),(0:Int),(0:Int),(0:Int),(0:Int),(0:Int),(0:Int),(0:Int),(0:Int),(0:Int),(0:Int)⟩:aY)⟩:bc)⟩:ez),([]:Str),([]:Str),([]:List ab),(0:Int)⟩:ab),(⟨(0:Int),(⟨(⟨false,false,(⟨(0:Int),(0:Int),(0:Int),(0:Int),(0:Int),(0:Int),(0:Int),(0:Int),(0:Int),(0:Int),(0:Int),(0:Int),(0:Int),(0:Int),(0:Int),(0:Int)⟩:aY)⟩:bc),(⟨false,false,(⟨(0:Int),(0:Int),(0:Int),(0:Int),(0:Int),(0:Int),(0:Int),(0:Int),(0:Int),(0:Int),(0:Int),(0:Int),(0:Int),(0:Int),(0:Int),(0:Int)⟩:aY)⟩:bc)⟩:ez),([]:Str),([]:Str),([]:List ab),(0:Int)⟩:ab)⟩:af),(⟨(0:Int),(0:Int),(0:Int),(0:Int)⟩:A4)⟩:bm),(0:Int)⟩:aL),(⟨(4:Int),x17.1,([]:List af),(⟨(⟨(⟨(0:Int),(⟨(⟨false,false,(⟨(0:Int),(0:Int),(0:Int),(0:Int),(0:Int),(0:Int),(0:Int),(0:Int),(0:Int),(0:Int),(0:Int),(0:Int),(0:Int),(0:Int),(0:Int),(0:Int)⟩:aY)⟩:bc),(⟨false,false,(⟨(0:Int),(0:Int),(0:Int),(0:Int),(0:Int),(0:Int),(0:Int),(0:Int),(0:Int),(0:Int),(0:Int),(0:Int),(0:Int),(0:Int),(0:Int),(0:Int)⟩:aY)⟩:bc)⟩:ez),([]:Str),([]:Str),([]:List ab),(0:Int)⟩:ab),(⟨(0:Int),(⟨(⟨false,false,(⟨(0:Int),(0:Int),(0:Int),(0:Int),(0:Int),(0:Int),(0:Int),(0:Int),(0:Int),(0:Int),(0:Int),(0:Int),(0:Int),(0:Int),(0:Int),(0:Int)⟩:aY)⟩:bc),(⟨false,false,(⟨(0:Int),(0:Int),(0:Int),(0:Int),(0:Int),(0:Int),(0:Int),(0:Int),(0:Int),(0:Int),(0:Int),(0:Int),(0:Int),(0:Int),(0:Int),(0:Int)⟩:aY)⟩:bc)⟩:ez),([]:Str),([]:Str),([]:List ab),(0:Int)⟩:ab),(⟨(0:Int),(⟨(⟨false,false,(⟨(0:Int),(0:Int),(0:Int),(0:Int),(0:Int),(0:Int),(0:Int),(0:Int),(0:Int),(0:Int),(0:Int),(0:Int),(0:Int),(0:Int),(0:Int),(0:Int)⟩:aY)⟩:bc),(⟨false,false,(⟨(0:Int),(0:Int),(0:Int),(0:Int),(0:Int),(0:Int),(0:Int),(0:Int),(0:Int),(0:Int),(0:Int),(0:Int),(0:Int),(0:Int),(0:Int),(0:Int)⟩:aY)⟩:bc)⟩:ez),([]:Str),([]:Str),([]:List ab),(0:Int)⟩:ab)⟩:af),(⟨(0:Int),(0:Int),(0:Int),(0:Int)⟩:A4)⟩:bm),x1.At⟩:aL)))) else Option.bind (au F ([97,116]:Str) x16.2) fun x18=>(if x18.1=true then Option.bind (gu F x18.2) (bt (fun p=>some (.inr (.inr p))) fun x19=>some (.inl (x19.2,(⟨(0:Int),([]:List ab),([]:List af),(⟨(⟨(⟨(0:Int),(⟨(⟨false,false,(⟨(0:Int),(0:Int),(0:Int),(0:Int),(0:Int),(0:Int),(0:Int),(0:Int),(0:Int),(0:Int),(0:Int),(0:Int),(0:Int),(0:Int),(0:Int),(0:Int)⟩:aY)⟩:bc),(⟨false,false,(⟨(0:Int),(0:Int),(0:Int),(0:Int),(0:Int),(0:Int),(0:Int),(0:Int),(0:Int),(0:Int),(0:Int),(0:Int),(0:Int),(0:Int),(0:Int),(0:Int)⟩:aY)⟩:bc)⟩:ez),([]:Str),([]:Str),([]:List ab),(0:Int)⟩:ab),(⟨(0:Int),(⟨(⟨false,false,(⟨(0:Int),(0:Int),(0:Int),(0:Int),(0:Int),(0:Int),(0:Int),(0:Int),(0:Int),(0:Int),(0:Int),(0:Int),(0:Int),(0:Int),(0:Int),(0:Int)⟩:aY)⟩:bc),(⟨false,false,(⟨(0:Int),(0:Int),(0:Int),(0:Int),(0:Int),(0:Int),(0:Int),(0:Int),(0:Int),(0:Int),(0:Int),(0:Int),(0:Int),(0:Int),(0:Int),(0:Int)⟩:aY)⟩:bc)⟩:ez),([]:Str),([]:Str),([]:List ab),(0:Int)⟩:ab),(⟨(0:Int),(⟨(⟨false,false,(⟨(0:Int),(0:Int),(0:Int),(0:Int),(0:Int),(0:Int),(0:Int),(0:Int),(0:Int),(0:Int),(0:Int),(0:Int),(0:Int),(0:Int),(0:Int),(0:Int)⟩:aY)⟩:bc),(⟨false,false,(⟨(0:Int),(0:Int),(0:Int),(0:Int),(0:Int),(0:Int),(0:Int),(0:Int),(0:Int),(0:Int),(0:Int),(0:Int),(0:Int),(0:Int),(0:Int),(0:Int)⟩:aY)⟩:bc)⟩:ez),([]:Str),([]:Str),([]:List ab),(0:Int)⟩:ab)⟩:af),(⟨(0:Int),(0:Int),(0:Int),(0:Int)⟩:A4)⟩:bm),(0:Int)⟩:aL),(⟨(5:Int),([]:List ab),([]:List af),x19.1,x1.At⟩:aL)))) else Option.bind (aP F (280:Int) x18.2) (bt (fun p=>some (.inr (.inr p))) fun x20=>some (.inl (x18.2,(⟨(0:Int),([]:List ab),([]:List af),(⟨(⟨(⟨(0:Int),(⟨(⟨false,false,(⟨(0:Int),(0:Int),(0:Int),(0:Int),(0:Int),(0:Int),(0:Int),(0:Int),(0:Int),(0:Int),(0:Int),(0:Int),(0:Int),(0:Int),(0:Int),(0:Int)⟩:aY)⟩:bc),(⟨false,false,(⟨(0:Int),(0:Int),(0:Int),(0:Int),(0:Int),(0:Int),(0:Int),(0:Int),(0:Int),(0:Int),(0:Int),(0:Int),(0:Int),(0:Int),(0:Int),(0:Int)⟩:aY)⟩:bc)⟩:ez),([]:Str),([]:Str),([]:List ab),(0:Int)⟩:ab),(⟨(0:Int),(⟨(⟨false,false,(⟨(0:Int),(0:Int),(0:Int),(0:Int),(0:Int),(0:Int),(0:Int),(0:Int),(0:Int),(0:Int),(0:Int),(0:Int),(0:Int),(0:Int),(0:Int),(0:Int)⟩:aY)⟩:bc),(⟨false,false,(⟨(0:Int),(0:Int),(0:Int),(0:Int),(0:Int),(0:Int),(0:Int),(0:Int),(0:Int),(0:Int),(0:Int),(0:Int),(0:Int),(0:Int),(0:Int),(0:Int)⟩:aY)⟩:bc)⟩:ez),([]:Str),([]:Str),([]:List ab),(0:Int)⟩:ab),(⟨(0:Int),(⟨(⟨false,false,(⟨(0:Int),(0:Int),(0:Int),(0:Int),(0:Int),(0:Int),(0:Int),(0:Int),(0:Int),(0:Int),(0:Int),(0:Int),(0:Int),(0:Int),(0:Int),(0:Int)⟩:aY)⟩:bc),(⟨false,false,(⟨(0:Int),(0:Int),(0:Int),(0:Int),(0:Int),(0:Int),(0:Int),(0:Int),(0:Int),(0:Int),(0:Int),(0:Int),(0:Int),(0:Int),(0:Int),(0:Int)⟩:aY)⟩:bc)⟩:ez),([]:Str),([]:Str),([]:List ab),(0:Int)⟩:ab)⟩:af),(⟨(0:Int),(0:Int),(0:Int),(0:Int)⟩:A4)⟩:bm),(0:Int)⟩:aL),(⟨(0:Int),([]:List ab),([]:List af),(⟨(⟨(⟨(0:Int),(⟨(⟨false,false,(⟨(0:Int),(0:Int),(0:Int),(0:Int),(0:Int),(0:Int),(0:Int),(0:Int),(0:Int),(0:Int),(0:Int),(0:Int),(0:Int),(0:Int),(0:Int),(0:Int)⟩:aY)⟩:bc),(⟨false,false,(⟨(0:Int),(0:Int),(0:Int),(0:Int),(0:Int),(0:Int),(0:Int),(0:Int),(0:Int),(0:Int),(0:Int),(0:Int),(0:Int),(0:Int),(0:Int),(0:Int)⟩:aY)⟩:bc)⟩:ez),([]:Str),([]:Str),([]:List ab),(0:Int)⟩:ab),(⟨(0:Int),(⟨(⟨false,false,(⟨(0:Int),(0:Int),(0:Int),(0:Int),(0:Int),(0:Int),(0:Int),(0:Int),(0:Int),(0:Int),(0:Int),(0:Int),(0:Int),(0:Int),(0:Int),(0:Int)⟩:aY)⟩:bc),(⟨false,false,(⟨(0:Int),(0:Int),(0:Int),(0:Int),(0:Int),(0:Int),(0:Int),(0:Int),(0:Int),(0:Int),(0:Int),(0:Int),(0:Int),(0:Int),(0:Int),(0:Int)⟩:aY)⟩:bc)⟩:ez),([]:Str),([]:Str),([]:List ab),(0:Int)⟩:ab),(⟨(0:Int),(⟨(⟨false,false,(⟨(0:Int),(0:Int),(0:Int),(0:Int),(0:Int),(0:Int),(0:Int),(0:Int),(0:Int),(0:Int),(0:Int),(0:Int),(0:Int),(0:Int),(0:Int),(0:Int)⟩:aY)⟩:bc),(⟨false,false,(⟨(0:Int),(0:Int),(0:Int),(0:Int),(0:Int),(0:Int),(0:Int),(0:Int),(0:Int),(0:Int),(0:Int),(0:Int),(0:Int),(0:Int),(0:Int),(0:Int)⟩:aY)⟩:bc)⟩:ez),([]:Str),([]:Str),([]:List ab),(0:Int)⟩:ab)⟩:af),(⟨(0:Int),(0:Int),(0:Int),(0:Int)⟩:A4)⟩:bm),x1.At⟩:aL))))))))):Option ((reader×aL×aL)⊕((reader×aL)⊕Problem))) (cy (fun x21=>Option.bind (aG F ([([59]:Str)]:List Str) x21.1) (bt (fun p=>some (.inr p)) fun x23=>some (.inl (x21.2.2,x23)))) (cy (fun x24=>some (.inl (x24.2,x24.1))) (fun x25=>some (.inr x25))))
def ml (F:Nat) (sign:Str) (b1:reader):Option (((List aL)×reader)⊕Problem):=Option.bind (iter F (fun (x2:reader×(List aL))=>(Option.bind (au F sign x2.1) fun x3=>(if (!x3.1)=true then Option.bind (mn F x3.2) (bt (fun p=>some (.inr (.inr p))) fun x5=>Option.bind (bT x2.2 ([x5.1]:List aL)) fun x7=>some (.inl (x5.2,x7))) else some (.inr (.inl (x3.2,x2.2)))):Option ((reader×(List aL))⊕((reader×(List aL))⊕Problem)))) (b1,([]:List aL))) (cy (fun x8=>some (.inl (x8.2,x8.1))) (fun x9=>some (.inr x9)))
def h31 (F:Nat) (z:reader×aW×aW):Option ((reader×aW×aW)⊕Problem):=Option.bind (az F z.1) fun x=>some (.inl (z.1,z.2.1,{ z.2.2 with Kind:=3,Thing:=(dH ([([98,108,111,99,107],1),([112,114,111,112],2)]:List (Str×Int)) x.S).getD 0 }))
def h31b (F:Nat) (z:reader×aW×aW):Option ((reader×aW×aW)⊕Problem):=Option.bind (az F z.1) fun x=>some (.inl (z.1,z.2.1,{ z.2.2 with Kind:=3,Thing:=(dH ([([112,114,111,112],2),([98,108,111,99,107],1)]:List (Str×Int)) x.S).getD 0 }))
theorem h31_eq {F:Nat} {z:reader×aW×aW}:h31b F z=h31 F z:=by
 unfold h31 h31b
 congr 1
 funext x
 simp only[dH]
 by_cases h1:x.S=[112,114,111,112]
 simp[h1]
 simp[h1]
def nC (F:Nat) (b1:reader):Option ((aW×reader)⊕Problem):=Option.bind (az F b1) fun x1=>Option.bind (Option.bind (au F ([103,114,97,118,105,116,121]:Str) b1) fun x2=>(if x2.1=true then Option.bind (bM F x2.2) (bt (fun p=>some (.inr (.inr p))) fun x3=>some (.inl (x3.2,(⟨(0:Int),(0:Int),([]:Str),([]:Str),([]:Str),([]:List ab),([]:List af),([]:List aL),(0:Int)⟩:aW),(⟨(1:Int),(0:Int),([]:Str),([]:Str),([]:Str),([x3.1]:List ab),([]:List af),([]:List aL),x1.At⟩:aW)))) else Option.bind (au F ([114,111,117,103,104]:Str) x2.2) fun x5=>(if x5.1=true then Option.bind (fi F x5.2) (bt (fun p=>some (.inr (.inr p))) fun x6=>some (.inl (x6.2,(⟨(0:Int),(0:Int),([]:Str),([]:Str),([]:Str),([]:List ab),([]:List af),([]:List aL),(0:Int)⟩:aW),(⟨(2:Int),(0:Int),([]:Str),([]:Str),([]:Str),x6.1,([]:List af),([]:List aL),x1.At⟩:aW)))) else Option.bind (eD F ([([98,108,111,99,107]:Str),([112,114,111,112]:Str)]:List Str) x5.2) fun x8=>(if x8=true then Option.bind (h31 F (x5.2,(⟨(0:Int),(0:Int),([]:Str),([]:Str),([]:Str),([]:List ab),([]:List af),([]:List aL),(0:Int)⟩:aW),(⟨(0:Int),(0:Int),([]:Str),([]:Str),([]:Str),([]:List ab),([]:List af),([]:List aL),x1.At⟩:aW))) (bt (fun p=>some (.inr (.inr p))) fun x9=>Option.bind (dC F ({ x9.1 with pos:=(i64.wrap (x9.1.pos+(1:Int))) })) (bt (fun p=>some (.inr (.inr p))) fun x11=>Option.bind (aG F ([([123]:Str)]:List Str) x11.2) (bt (fun p=>some (.inr (.inr p))) fun x13=>Option.bind (ml F ([125]:Str) x13) (bt (fun p=>some (.inr (.inr p))) fun x14=>some (.inr (.inl (x14.2,{ x9.2.2 with Name:=x11.1,Fields:=x14.1 }))))))) else Option.bind (au F ([114,111,112,101]:Str) x5.2) fun x15=>(if x15.1=true then none else Option.bind (au F ([108,111,97,100]:Str) x15.2) fun x16=>(if x16.1=true then Option.bind (dC F x16.2) (bt (fun p=>some (.inr (.inr p))) fun x17=>Option.bind (aG F ([([111,110]:Str)]:List Str) x17.2) (bt (fun p=>some (.inr (.inr p))) fun x19=>Option.bind (dC F x19) (bt (fun p=>some (.inr (.inr p))) fun x20=>Option.bind (aG F ([([97,116]:Str)]:List Str) x20.2) (bt (fun p=>some (.inr (.inr p))) fun x22=>Option.bind (cq F x22) (bt (fun p=>some (.inr (.inr p))) fun x23=>Option.bind (aG F ([([102,111,114,99,101]:Str)]:List Str) x23.2) (bt (fun p=>some (.inr (.inr p))) fun x25=>none)))))) else Option.bind (aP F (280:Int) x16.2) (bt (fun p=>some (.inr (.inr p))) fun x26=>some (.inl (x16.2,(⟨(0:Int),(0:Int),([]:Str),([]:Str),([]:Str),([]:List ab),([]:List af),([]:List aL),(0:Int)⟩:aW),(⟨(0:Int),(0:Int),([]:Str),([]:Str),([]:Str),([]:List ab),([]:List af),([]:List aL),x1.At⟩:aW))))))))):Option ((reader×aW×aW)⊕((reader×aW)⊕Problem))) (cy (fun x27=>Option.bind (aG F ([([59]:Str)]:List Str) x27.1) (bt (fun p=>some (.inr p)) fun x29=>some (.inl (x27.2.2,x29)))) (cy (fun x30=>some (.inl (x30.2,x30.1))) (fun x31=>some (.inr x31))))
end Go.Dn
namespace Go.Dn
open Go Go.Sk Go.Proofs
open X
set_option maxRecDepth 100000
variable {mx:Int}
def qN (F:Nat):bL DD pk:=⟨31,[.d (.sl (.st .Token))],[],[],[],[.int .i64],true,false,false,false,fun a l=>ni F a.1⟩
theorem vf (F:Nat):av Tryz.prog (ax mx) (qN F):=ak (B0:=BB) (L:=LL) (G:=[]) 64 ⟨Tryz.call31⟩ Tryz.func31 Tryz.ntmps31 rfl (zab rfl) rfl trivial (.two (.no) (.two (.no) (.two (.two (.no) (.loop ⟨[0,8,9],[],[]⟩ [.s 3 (.int .i64),.s 4 (.int .i64),.s 10 (.int .i64)] [(.x (some 0),[]),(.x none,[.s 2 (.int .i64)])] (.two (.no) (.two (.no) (.two (.two (.no) (.two (.no) (.two (.no) (.two (.two (.no) (.join ⟨[0,3,4,6,7,8,9,10],[106],[]⟩ [.s 28 (.bool)] (.no) (.two (.no) (.two (.no) (.two (.no) (.join ⟨[0,3,7,8,9,10],[],[]⟩ [.s 47 (.bool)] (.no) (.two (.no) (.join ⟨[0,3,8,9,10],[],[]⟩ [.s 54 (.bool)] (.no) (.no))))))))) (.no))))) (.no)))))) (.no)))) [] F fun a l=>by kernel_rfl
def aU (F:Nat):bL DD pk:=⟨63,[.k],[.p (.ptr 1 0)],[1],[.b 85 (.st .reader)],[.st .Token],true,false,false,false,fun a l=>az F l.1⟩
theorem bg (F:Nat):av Tryz.prog (ax mx) (aU F):=ak (B0:=BB) (L:=LL) (G:=[]) 28 ⟨Tryz.call63⟩ Tryz.func63 Tryz.ntmps63 rfl (zab rfl) rfl trivial (.two (.no) (.two (.two (.iE [⟨0,[0],[]⟩,⟨1,[3],[]⟩,⟨2,[4],[]⟩,⟨3,[5],[1]⟩,⟨4,[0],[]⟩,⟨5,[7],[]⟩,⟨6,[8],[]⟩,⟨7,[9],[1]⟩,⟨8,[10],[]⟩] [9] []) (.no)) (.two (.iE [⟨0,[0],[]⟩,⟨1,[18],[]⟩,⟨2,[19],[]⟩,⟨3,[20],[1]⟩,⟨4,[0],[]⟩,⟨5,[22],[]⟩,⟨6,[23],[]⟩,⟨7,[24],[1]⟩] [8,9,10] []) (.no)))) [] F fun a l=>by kernel_rfl
def bJ (F:Nat):bL DD pk:=⟨33,[.k,.d (.int .i64)],[.p (.ptr 1 0)],[1],[.b 85 (.st .reader)],[],true,true,false,false,fun a l=>aP F a.1 l.1⟩
theorem bV (F:Nat):av Tryz.prog (ax mx) (bJ F):=ak (B0:=BB) (L:=LL) (G:=[aU F]) 10 ⟨Tryz.call33⟩ Tryz.func33 Tryz.ntmps33 rfl (zab rfl) rfl ⟨bg F,trivial⟩ (.no) [] F fun a l=>by kernel_rfl
def fJ (F:Nat):bL DD pk:=⟨65,[.k,.d (.sl (.str))],[.p (.ptr 1 0)],[1],[.b 85 (.st .reader)],[.bool],true,false,false,false,fun a l=>eD F a.1 l.1⟩
theorem ld (F:Nat):av Tryz.prog (ax mx) (fJ F):=ak (B0:=BB) (L:=LL) (G:=[aU F]) 31 ⟨Tryz.call65⟩ Tryz.func65 Tryz.ntmps65 rfl (zab rfl) rfl ⟨bg F,trivial⟩ (.two (.no) (.two (.no) (.two (.two (.no) (.loop ⟨[5,10,11],[1,105],[]⟩ [.s 12 (.int .i64)] [(.x (some 0),[]),(.x none,[.s 4 (.bool)])] (.no))) (.no)))) [] F fun a l=>by kernel_rfl
def aV (F:Nat):bL DD pk:=⟨62,[.k,.d (.str)],[.p (.ptr 1 0)],[1],[.b 85 (.st .reader)],[.bool],false,false,false,false,fun a l=>au F a.1 l.1⟩
theorem bh (F:Nat):av Tryz.prog (ax mx) (aV F):=ak (B0:=BB) (L:=LL) (G:=[fJ F]) 19 ⟨Tryz.call62⟩ Tryz.func62 Tryz.ntmps62 rfl (zab rfl) rfl ⟨ld F,trivial⟩ (.no) [] F fun a l=>by kernel_rfl
def bx (F:Nat):bL DD pk:=⟨26,[.k,.d (.sl (.str))],[.p (.ptr 1 0)],[1],[.b 85 (.st .reader)],[],false,true,false,false,fun a l=>aG F a.1 l.1⟩
theorem bQ (F:Nat):av Tryz.prog (ax mx) (bx F):=ak (B0:=BB) (L:=LL) (G:=[aV F,bJ F]) 19 ⟨Tryz.call26⟩ Tryz.func26 Tryz.ntmps26 rfl (zab rfl) rfl ⟨bh F,bV F,trivial⟩ (.two (.no) (.loop ⟨[0,6,7],[],[]⟩ [.s 8 (.int .i64),.b 1 85 (.st .reader)] [(.x (some 0),[.b 1 85 (.st .reader)]),(.iD,[])] (.no))) [] F fun a l=>by kernel_rfl
def eO (F:Nat):bL DD pk:=⟨119,[.k,.d (.int .i64),.d (.int .i64)],[.p (.ptr 1 0)],[1],[.b 85 (.st .reader)],[.st .Token],false,true,false,false,fun a l=>cR F a.1 a.2.1 l.1⟩
theorem gA (F:Nat):av Tryz.prog (ax mx) (eO F):=ak (B0:=BB) (L:=LL) (G:=[aU F,bJ F]) 35 ⟨Tryz.call119⟩ Tryz.func119 Tryz.ntmps119 rfl (zab rfl) rfl ⟨bg F,bV F,trivial⟩ (.two (.no) (.two (.no) (.qV ⟨[0,6,7],[1,106,107],[]⟩ [] [(.iD,[])] (.no) (.no)))) [] F fun a l=>by kernel_rfl
def sJ (F:Nat):bL DD pk:=⟨226,[.d (.st .Token)],[],[],[],[.str],true,false,false,false,fun a l=>sC F a.1⟩
theorem zC (F:Nat):av Tryz.prog (ax mx) (sJ F):=ak (B0:=BB) (L:=LL) (G:=[]) 15 ⟨Tryz.call226⟩ Tryz.func226 Tryz.ntmps226 rfl (zab rfl) rfl trivial (.two (.no) (.two (.no) (.two (.iE [⟨0,[],[]⟩,⟨2,[1],[]⟩,⟨3,[10],[101]⟩,⟨1,[8],[]⟩] [4,5,6,7] []) (.no)))) [] F fun a l=>by kernel_rfl
def rj (F:Nat):bL DD pk:=⟨206,[.d (.st .Token)],[],[],[],[.bool],true,false,false,false,fun a l=>re F a.1⟩
theorem yF (F:Nat):av Tryz.prog (ax mx) (rj F):=ak (B0:=BB) (L:=LL) (G:=[sJ F,jt F]) 27 ⟨Tryz.call206⟩ Tryz.func206 Tryz.ntmps206 rfl (zab rfl) rfl ⟨zC F,lU F,trivial⟩ (.two (.no) (.two (.no) (.two (.no) (.two (.iE [⟨0,[4],[104]⟩,⟨1,[],[]⟩,⟨2,[12,13],[]⟩,⟨3,[14],[]⟩,⟨4,[3,15],[]⟩,⟨5,[16,15],[]⟩,⟨6,[17,15],[]⟩,⟨7,[15,18],[]⟩,⟨8,[19],[]⟩,⟨9,[3,20],[]⟩,⟨10,[21,20],[]⟩,⟨11,[22,20],[]⟩,⟨12,[1,20],[101]⟩] [13,14,15] []) (.no))))) [] F fun a l=>by kernel_rfl
def l8 (F:Nat):bL DD pk:=⟨228,[.d (.str),.d (.int .u8)],[],[],[],[.str],true,false,false,false,fun a l=>lZ F a.1 a.2.1⟩
theorem sd (F:Nat):av Tryz.prog (ax mx) (l8 F):=ak (B0:=BB) (L:=LL) (G:=[]) 17 ⟨Tryz.call228⟩ Tryz.func228 Tryz.ntmps228 rfl (zab rfl) rfl trivial (.two (.no) (.two (.loop ⟨[1],[],[]⟩ [.s 0 (.str)] [(.x (some 0),[.s 0 (.str)])] (.no)) (.no))) [] F fun a l=>by kernel_rfl
def pK (F:Nat):bL DD pk:=⟨208,[.d (.str),.d (.str)],[],[],[],[.str],true,false,false,false,fun a l=>pG F a.1 a.2.1⟩
theorem vR (F:Nat):av Tryz.prog (ax mx) (pK F):=ak (B0:=BB) (L:=LL) (G:=[l8 F]) 37 ⟨Tryz.call208⟩ Tryz.func208 Tryz.ntmps208 rfl (zab rfl) rfl ⟨sd F,trivial⟩ (.no) [] F fun a l=>by kernel_rfl
def r6 (F:Nat):bL DD pk:=⟨177,[.d (.st .bc)],[],[],[],[.bool],true,false,false,false,fun a l=>lR F a.1⟩
theorem xd (F:Nat):av Tryz.prog (ax mx) (r6 F):=ak (B0:=BB) (L:=LL) (G:=[qL F]) 10 ⟨Tryz.call177⟩ Tryz.func177 Tryz.ntmps177 rfl (zab rfl) rfl ⟨vd F,trivial⟩ (.no) [] F fun a l=>by kernel_rfl
def lS (F:Nat):bL DD pk:=⟨178,[.d (.st .bc)],[],[],[],[.int .i64],true,false,false,false,fun a l=>jW F a.1⟩
theorem oU (F:Nat):av Tryz.prog (ax mx) (lS F):=ak (B0:=BB) (L:=LL) (G:=[fh F]) 17 ⟨Tryz.call178⟩ Tryz.func178 Tryz.ntmps178 rfl (zab rfl) rfl ⟨ff F,trivial⟩ (.no) [] F fun a l=>by kernel_rfl
def qn (F:Nat):bL DD pk:=⟨180,[],[],[],[],[.st .bc],true,false,false,false,fun a l=>qh F⟩
theorem tB (F:Nat):av Tryz.prog (ax mx) (qn F):=ak (B0:=BB) (L:=LL) (G:=[pC F]) 2 ⟨Tryz.call180⟩ Tryz.func180 Tryz.ntmps180 rfl (zab rfl) rfl ⟨pB F,trivial⟩ (.no) [] F fun a l=>by kernel_rfl
def zf (F:Nat):bL DD pk:=⟨182,[],[],[],[],[.st .ez],true,false,false,false,fun a l=>yT F⟩
theorem FP (F:Nat):av Tryz.prog (ax mx) (zf F):=ak (B0:=BB) (L:=LL) (G:=[jq F,qn F]) 4 ⟨Tryz.call182⟩ Tryz.func182 Tryz.ntmps182 rfl (zab rfl) rfl ⟨jm F,tB F,trivial⟩ (.no) [] F fun a l=>by kernel_rfl
def ze (F:Nat):bL DD pk:=⟨202,[.d (.st .bc)],[],[],[],[.st .bc],true,false,false,false,fun a l=>yP F a.1⟩
theorem FO (F:Nat):av Tryz.prog (ax mx) (ze F):=ak (B0:=BB) (L:=LL) (G:=[fh F,jq F,hH F]) 11 ⟨Tryz.call202⟩ Tryz.func202 Tryz.ntmps202 rfl (zab rfl) rfl ⟨ff F,jm F,hC F,trivial⟩ (.no) [] F fun a l=>by kernel_rfl
def tD (F:Nat):bL DD pk:=⟨179,[.d (.st .bc),.d (.st .bc)],[],[],[],[.st .bc],true,false,false,false,fun a l=>tv F a.1 a.2.1⟩
theorem y3 (F:Nat):av Tryz.prog (ax mx) (tD F):=ak (B0:=BB) (L:=LL) (G:=[fh F,jq F,r5 F,hH F,ze F]) 80 ⟨Tryz.call179⟩ Tryz.func179 Tryz.ntmps179 rfl (zab rfl) rfl ⟨ff F,jm F,rX F,hC F,FO F,trivial⟩ (.two (.no) (.two (.no) (.two (.two (.no) (.two (.two (.iE [⟨0,[2],[]⟩,⟨1,[27],[102]⟩,⟨2,[28],[102]⟩,⟨3,[29],[]⟩,⟨4,[30],[]⟩,⟨5,[2],[]⟩,⟨6,[32],[102]⟩,⟨7,[33],[102]⟩,⟨8,[34],[]⟩,⟨9,[31,35],[]⟩,⟨10,[3],[]⟩,⟨11,[37],[103]⟩,⟨12,[38],[103]⟩,⟨13,[39],[]⟩,⟨14,[40],[]⟩,⟨15,[3],[]⟩,⟨16,[42],[103]⟩,⟨17,[43],[103]⟩,⟨18,[44],[]⟩,⟨19,[41,45],[]⟩,⟨20,[36],[]⟩] [21] []) (.two (.loop ⟨[4],[104],[]⟩ [.s 5 (.int .u64),.s 6 (.int .u64)] [(.x (some 0),[.s 5 (.int .u64)])] (.two (.no) (.iE [⟨0,[6],[]⟩,⟨1,[5],[]⟩,⟨2,[6],[]⟩,⟨3,[50,51],[]⟩,⟨4,[49],[]⟩] [5] []))) (.no))) (.no))) (.two (.two (.iE [⟨0,[2],[]⟩,⟨1,[60],[102]⟩,⟨2,[3],[]⟩,⟨3,[62],[103]⟩,⟨4,[],[107]⟩,⟨5,[],[108]⟩,⟨6,[7,61],[107]⟩] [7] []) (.no)) (.no))))) [] F fun a l=>by kernel_rfl
def zd (F:Nat):bL DD pk:=⟨203,[.d (.st .bc)],[],[],[],[.st .bc],true,false,false,false,fun a l=>yO F a.1⟩
theorem FM (F:Nat):av Tryz.prog (ax mx) (zd F):=ak (B0:=BB) (L:=LL) (G:=[fh F,jq F,hH F]) 14 ⟨Tryz.call203⟩ Tryz.func203 Tryz.ntmps203 rfl (zab rfl) rfl ⟨ff F,jm F,hC F,trivial⟩ (.no) [] F fun a l=>by kernel_rfl
def xq (F:Nat):bL DD pk:=⟨233,[.d (.int .u32)],[],[],[],[.int .i64],true,false,false,false,fun a l=>xr F a.1⟩
theorem Ec (F:Nat):av Tryz.prog (ax mx) (xq F):=ak (B0:=BB) (L:=LL) (G:=[]) 19 ⟨Tryz.call233⟩ Tryz.func233 Tryz.ntmps233 rfl (zab rfl) rfl trivial (.two (.no) (.join ⟨[],[],[]⟩ [.s 0 (.int .u32),.s 2 (.int .i64)] (.no) (.join ⟨[],[],[]⟩ [.s 0 (.int .u32),.s 2 (.int .i64)] (.no) (.no)))) [] F fun a l=>by kernel_rfl
def xn (F:Nat):bL DD pk:=⟨210,[.d (.st .bc)],[],[],[],[.int .i64],true,false,false,false,fun a l=>wZ F a.1⟩
theorem D9 (F:Nat):av Tryz.prog (ax mx) (xn F):=ak (B0:=BB) (L:=LL) (G:=[r5 F,fh F,xq F]) 25 ⟨Tryz.call210⟩ Tryz.func210 Tryz.ntmps210 rfl (zab rfl) rfl ⟨rX F,ff F,Ec F,trivial⟩ (.no) [] F fun a l=>by kernel_rfl
def qM (F:Nat):bL DD pk:=⟨192,[.d (.st .bc)],[],[],[],[.int .i64,.bool],true,false,false,false,fun a l=>nh F a.1⟩
theorem ve (F:Nat):av Tryz.prog (ax mx) (qM F):=ak (B0:=BB) (L:=LL) (G:=[fh F,xn F]) 44 ⟨Tryz.call192⟩ Tryz.func192 Tryz.ntmps192 rfl (zab rfl) rfl ⟨ff F,D9 F,trivial⟩ (.no) [] F fun a l=>by kernel_rfl
def sD (F:Nat):bL DD pk:=⟨221,[.d (.st .bc),.d (.st .bc)],[],[],[],[.st .bc,.st .bc],true,false,false,false,fun a l=>su F a.1 a.2.1⟩
theorem zr (F:Nat):av Tryz.prog (ax mx) (sD F):=ak (B0:=BB) (L:=LL) (G:=[fh F,lS F,jq F,qM F,pC F]) 108 ⟨Tryz.call221⟩ Tryz.func221 Tryz.ntmps221 rfl (zab rfl) rfl ⟨ff F,oU F,jm F,ve F,pB F,trivial⟩ (.two (.no) (.two (.no) (.qV ⟨[2,3,4,5],[102,103],[]⟩ [.b 104 30 (.st .bc),.b 105 30 (.st .bc)] [(.x none,[.b 104 30 (.st .bc),.b 105 30 (.st .bc)])] (.two (.no) (.two (.no) (.two (.two (.no) (.two (.no) (.two (.two (.iE [⟨0,[6],[]⟩,⟨1,[8],[]⟩,⟨2,[47,48],[]⟩,⟨3,[6],[]⟩,⟨4,[8],[]⟩,⟨5,[50,51],[]⟩,⟨6,[49],[]⟩] [7] []) (.join ⟨[2,3,4,5],[102,103,104,105],[]⟩ [.s 10 (.int .i64),.s 11 (.int .i64)] (.no) (.no))) (.no)))) (.no)))) (.no)))) [] F fun a l=>by kernel_rfl
def zb (F:Nat):bL DD pk:=⟨204,[.d (.st .bc),.d (.st .bc)],[],[],[],[.st .bc],true,false,false,false,fun a l=>tt F a.1 a.2.1⟩
theorem FL (F:Nat):av Tryz.prog (ax mx) (zb F):=ak (B0:=BB) (L:=LL) (G:=[sD F]) 14 ⟨Tryz.call204⟩ Tryz.func204 Tryz.ntmps204 rfl (zab rfl) rfl ⟨zr F,trivial⟩ (.no) [] F fun a l=>by kernel_rfl
def r7 (F:Nat):bL DD pk:=⟨183,[.d (.st .bc),.d (.st .bc)],[],[],[],[.st .ez],true,false,false,false,fun a l=>rU F a.1 a.2.1⟩
theorem xe (F:Nat):av Tryz.prog (ax mx) (r7 F):=ak (B0:=BB) (L:=LL) (G:=[r6 F,lS F,zf F,tD F,zd F,zb F]) 35 ⟨Tryz.call183⟩ Tryz.func183 Tryz.ntmps183 rfl (zab rfl) rfl ⟨xd F,oU F,FP F,y3 F,FM F,FL F,trivial⟩ (.two (.no) (.two (.no) (.two (.no) (.join ⟨[2,3,4,5],[102,103,104],[]⟩ [.b 105 30 (.st .bc)] (.no) (.two (.iE [⟨0,[2],[102]⟩,⟨1,[5],[105]⟩,⟨3,[3],[103]⟩,⟨4,[5],[105]⟩,⟨2,[28,29],[]⟩] [5,6,7] []) (.no)))))) [] F fun a l=>by kernel_rfl
def qO (F:Nat):bL DD pk:=⟨191,[.d (.st .Token)],[],[],[],[.st .ez,.int .i64],true,false,false,false,fun a l=>qK F a.1⟩
theorem vg (F:Nat):av Tryz.prog (ax mx) (qO F):=ak (B0:=BB) (L:=LL) (G:=[rj F,vm F,pK F,vj F,b8 F,r7 F]) 50 ⟨Tryz.call191⟩ Tryz.func191 Tryz.ntmps191 rfl (zab rfl) rfl ⟨yF F,B9 F,vR F,B8 F,b7 F,xe F,trivial⟩ (.two (.no) (.two (.no) (.two (.no) (.two (.no) (.join ⟨[2,5],[102],[]⟩ [.s 7 (.str)] (.no) (.no)))))) [] F fun a l=>by kernel_rfl
def ia (F:Nat):bL DD pk:=⟨47,[.k,.d (.str)],[.p (.ptr 1 0)],[1,2],[.x 73 .Builder,.r 5 (.int .u8)],[.int .i64,.u],false,false,false,false,fun a l=>di F a.1 l.1 l.2.1⟩
theorem nY (F:Nat):av Tryz.prog (ax mx) (ia F):=ak (B0:=BB) (L:=LL) (G:=[K3 F]) 19 ⟨Tryz.call47⟩ Tryz.func47 Tryz.ntmps47 rfl (zab rfl) rfl ⟨(m_cc73 F),trivial⟩ (.no) [] F fun a l=>by kernel_rfl
def ov (F:Nat):bL DD pk:=⟨234,[.d (.str),.d (.str)],[],[],[],[.int .i64],true,false,false,false,fun a l=>ob F a.1 a.2.1⟩
theorem uE (F:Nat):av Tryz.prog (ax mx) (ov F):=ak (B0:=BB) (L:=LL) (G:=[m' F]) 143 ⟨Tryz.call234⟩ Tryz.func234 Tryz.ntmps234 rfl (zab rfl) rfl ⟨rb F,trivial⟩ (.no) [] F fun a l=>by kernel_rfl
def sE (F:Nat):bL DD pk:=⟨211,[.d (.str),.d (.str)],[],[],[],[.int .i64],true,false,false,false,fun a l=>sx F a.1 a.2.1⟩
theorem zu (F:Nat):av Tryz.prog (ax mx) (sE F):=ak (B0:=BB) (L:=LL) (G:=[ov F]) 8 ⟨Tryz.call211⟩ Tryz.func211 Tryz.ntmps211 rfl (zab rfl) rfl ⟨uE F,trivial⟩ (.no) [] F fun a l=>by kernel_rfl
def pL (F:Nat):bL DD pk:=⟨193,[.d (.str),.d (.str)],[],[],[],[.bool],true,false,false,false,fun a l=>pH F a.1 a.2.1⟩
theorem vS (F:Nat):av Tryz.prog (ax mx) (pL F):=ak (B0:=BB) (L:=LL) (G:=[sE F]) 9 ⟨Tryz.call193⟩ Tryz.func193 Tryz.ntmps193 rfl (zab rfl) rfl ⟨zu F,trivial⟩ (.no) [] F fun a l=>by kernel_rfl
def hN (F:Nat):bL DD pk:=⟨167,[.k,.d (.int .i64)],[.p (.ptr 1 0)],[1],[.b 85 (.st .reader)],[.int .i64,.str],false,true,false,false,fun a l=>hJ F a.1 l.1⟩
theorem lx (F:Nat):av Tryz.prog (ax mx) (hN F):=ak (B0:=BB) (L:=LL) (G:=[aV F,eO F,qO F,qM F,pL F,bJ F]) 57 ⟨Tryz.call167⟩ Tryz.func167 Tryz.ntmps167 rfl (zab rfl) rfl ⟨bh F,gA F,vg F,ve F,vS F,bV F,trivial⟩ (.two (.no) (.two (.no) (.two (.no) (.two (.no) (.two (.no) (.qV ⟨[6,7,10],[107],[]⟩ [.b 1 85 (.st .reader)] [(.iD,[])] (.no) (.two (.two (.no) (.two (.two (.iE [⟨0,[10],[]⟩,⟨1,[49],[]⟩,⟨2,[7],[]⟩,⟨3,[51],[107]⟩,⟨4,[52],[]⟩,⟨5,[50],[]⟩] [6] []) (.no)) (.no))) (.two (.iE [⟨0,[10],[]⟩,⟨1,[7],[]⟩,⟨2,[55],[107]⟩,⟨3,[54],[]⟩] [4] []) (.no))))))))) [] F fun a l=>by kernel_rfl
def kU (F:Nat):bL DD pk:=⟨61,[.k],[.p (.ptr 1 0)],[1,2],[.x 73 .Builder,.r 5 (.int .u8)],[.str],false,false,false,true,fun a l=>kO F l.1 l.2.1⟩
theorem qP (F:Nat):av Tryz.prog (ax mx) (kU F):=ak (B0:=BB) (L:=LL) (G:=[]) 14 ⟨Tryz.call61⟩ Tryz.func61 Tryz.ntmps61 rfl (zab rfl) rfl trivial (.two (.no) (.two (.iE [⟨0,[0],[]⟩,⟨1,[3],[]⟩,⟨2,[4],[]⟩,⟨3,[5],[1,2]⟩,⟨4,[6],[2,100107]⟩,⟨5,[0],[]⟩,⟨6,[8],[]⟩,⟨7,[9],[]⟩,⟨8,[10],[1,2]⟩,⟨9,[11],[2]⟩] [10,11] []) (.no))) [] F fun a l=>by kernel_rfl
def nR (F:Nat):bL DD pk:=⟨163,[.k],[.p (.ptr 1 0)],[1],[.b 85 (.st .reader)],[.str],false,true,false,false,fun a l=>nB F l.1⟩
theorem tQ (F:Nat):av Tryz.prog (ax mx) (nR F):=ak (B0:=BB) (L:=LL) (G:=[eO F,bJ F,((ia F).sw 1 103).sw 2 100103,aV F,hN F,fJ F,((kU F).sw 1 103).sw 2 100103,aU F]) 55 ⟨Tryz.call163⟩ Tryz.func163 Tryz.ntmps163 rfl (zab rfl) rfl ⟨gA F,bV F,((nY F).sw 1 103).sw 2 100103,bh F,lx F,ld F,((qP F).sw 1 103).sw 2 100103,bg F,trivial⟩ (.two (.no) (.two (.no) (.loop ⟨[0,3],[],[]⟩ [.b 1 85 (.st .reader),.x 103 73 .Builder 100103,.r 100103 5 (.int .u8)] [(.x none,[.s 2 (.str),.b 1 85 (.st .reader)]),(.iD,[])] (.two (.no) (.qV ⟨[0,3,4],[103,104,100103],[]⟩ [.b 1 85 (.st .reader)] [(.iD,[])] (.no) (.two (.no) (.qV ⟨[0,3],[],[]⟩ [.b 1 85 (.st .reader),.x 103 73 .Builder 100103,.r 100103 5 (.int .u8)] [(.iD,[])] (.no) (.no)))))))) [3] F fun a l=>by kernel_rfl
def nU (F:Nat):bL DD pk:=⟨235,[.k],[.p (.ptr 1 0)],[1],[.b 85 (.st .reader)],[.st .ab],false,true,false,false,fun a l=>gx F l.1⟩
def jE (F:Nat):bL DD pk:=⟨213,[.k],[.p (.ptr 1 0)],[1],[.b 85 (.st .reader)],[.st .ab],false,true,false,false,fun a l=>dB F l.1⟩
def jK (F:Nat):bL DD pk:=⟨34,[.k,.k,.k],[.p (.ptr 1 0),.p (.cI 213 [.ptr 1 0] []),.p (.row 2)],[1,2],[.b 85 (.st .reader),.ms (.int .i64) ([(([42]:Str),(7:Int)),(([47]:Str),(8:Int))]:List (Str×Int))],[.st .ab],false,true,false,false,fun a l=>fL F l.1⟩
def lB (F:Nat):bL DD pk:=⟨197,[.k],[.p (.ptr 1 0)],[1],[.b 85 (.st .reader)],[.st .ab],false,true,false,false,fun a l=>dG F l.1⟩
def kh (F:Nat):bL DD pk:=⟨34,[.k,.k,.k],[.p (.ptr 1 0),.p (.cI 197 [.ptr 1 0] []),.p (.row 2)],[1,2],[.b 85 (.st .reader),.ms (.int .i64) ([(([43]:Str),(5:Int)),(([45]:Str),(6:Int))]:List (Str×Int))],[.st .ab],false,true,false,false,fun a l=>ga F l.1⟩
def oD (F:Nat):bL DD pk:=⟨171,[.k],[.p (.ptr 1 0)],[1],[.b 85 (.st .reader)],[.st .ab],false,true,false,false,fun a l=>fa F l.1⟩
def nT (F:Nat):bL DD pk:=⟨136,[.k],[.p (.ptr 1 0)],[1],[.b 85 (.st .reader)],[.st .ab],false,true,false,false,fun a l=>gw F l.1⟩
def kB (F:Nat):bL DD pk:=⟨84,[.k],[.p (.ptr 1 0)],[1],[.b 85 (.st .reader)],[.st .ab],false,true,false,false,fun a l=>dW F l.1⟩
def kV (F:Nat):bL DD pk:=⟨34,[.k,.k,.k],[.p (.ptr 1 0),.p (.cI 84 [.ptr 1 0] []),.p (.row 2)],[1,2],[.b 85 (.st .reader),.ms (.int .i64) ([(([97,110,100]:Str),(16:Int))]:List (Str×Int))],[.st .ab],false,true,false,false,fun a l=>gK F l.1⟩
def oG (F:Nat):bL DD pk:=⟨35,[.k],[.p (.ptr 1 0)],[1],[.b 85 (.st .reader)],[.st .ab],false,true,false,false,fun a l=>fb F l.1⟩
def mD (F:Nat):bL DD pk:=⟨34,[.k,.k,.k],[.p (.ptr 1 0),.p (.cI 35 [.ptr 1 0] []),.p (.row 2)],[1,2],[.b 85 (.st .reader),.ms (.int .i64) ([(([111,114]:Str),(17:Int))]:List (Str×Int))],[.st .ab],false,true,false,false,fun a l=>iO F l.1⟩
def bY (F:Nat):bL DD pk:=⟨15,[.k],[.p (.ptr 1 0)],[1],[.b 85 (.st .reader)],[.st .ab],false,true,false,false,fun a l=>bM F l.1⟩
theorem bw:∀ F:Nat,av Tryz.prog (ax mx) (nU F)/\av Tryz.prog (ax mx) (jE F)/\av Tryz.prog (ax mx) (jK F)/\av Tryz.prog (ax mx) (lB F)/\av Tryz.prog (ax mx) (kh F)/\av Tryz.prog (ax mx) (oD F)/\av Tryz.prog (ax mx) (nT F)/\av Tryz.prog (ax mx) (kB F)/\av Tryz.prog (ax mx) (kV F)/\av Tryz.prog (ax mx) (oG F)/\av Tryz.prog (ax mx) (mD F)/\av Tryz.prog (ax mx) (bY F)
 | 0=>⟨cE ⟨Tryz.call235⟩ rfl fun a l=>rfl,cE ⟨Tryz.call213⟩ rfl fun a l=>rfl,cE ⟨Tryz.call34⟩ rfl fun a l=>rfl,cE ⟨Tryz.call197⟩ rfl fun a l=>rfl,cE ⟨Tryz.call34⟩ rfl fun a l=>rfl,cE ⟨Tryz.call171⟩ rfl fun a l=>rfl,cE ⟨Tryz.call136⟩ rfl fun a l=>rfl,cE ⟨Tryz.call84⟩ rfl fun a l=>rfl,cE ⟨Tryz.call34⟩ rfl fun a l=>rfl,cE ⟨Tryz.call35⟩ rfl fun a l=>rfl,cE ⟨Tryz.call34⟩ rfl fun a l=>rfl,cE ⟨Tryz.call15⟩ rfl fun a l=>rfl⟩
 | F+1=>⟨ak (B0:=BB) (L:=LL) (G:=[aU F,aV F,bY F,bx F,eO F,qO F,nR F]) 57 ⟨Tryz.call235⟩ Tryz.func235 Tryz.ntmps235 rfl (zab rfl) rfl ⟨bg F,bh F,(bw F).2.2.2.2.2.2.2.2.2.2.2,bQ F,gA F,vg F,tQ F,trivial⟩ (.no) [] F fun a l=>by kernel_rfl,
  ak (B0:=BB) (L:=LL) (G:=[aU F,aV F,jE F,nU F]) 16 ⟨Tryz.call213⟩ Tryz.func213 Tryz.ntmps213 rfl (zab rfl) rfl ⟨bg F,bh F,(bw F).2.1,(bw F).1,trivial⟩ (.two (.no) (.two (.no) (.two (.two (.no) (.two (.two (.iE [⟨0,[0],[]⟩,⟨3,[3],[]⟩,⟨4,[11],[103]⟩,⟨1,[8],[1]⟩,⟨2,[9],[]⟩] [5,6] []) (.no)) (.no))) (.no)))) [] F fun a l=>by kernel_rfl,
  ak (B0:=BB) (L:=LL) (G:=[jE F,aU F]) 46 ⟨Tryz.call34⟩ Tryz.func34 Tryz.ntmps34 rfl (zab rfl) rfl ⟨(bw F).2.1,bg F,trivial⟩ (.two (.no) (.two (.no) (.loop ⟨[0,1,2,6,7],[2],[]⟩ [.b 1 85 (.st .reader),.b 106 35 (.st .ab),.b 107 35 (.st .ab)] [(.x none,[.b 1 85 (.st .reader),.b 106 35 (.st .ab)]),(.iD,[])] (.two (.no) (.two (.no) (.two (.no) (.two (.no) (.iE [⟨0,[9],[]⟩,⟨1,[7],[107]⟩,⟨2,[1],[]⟩,⟨5,[8],[]⟩,⟨6,[43],[108]⟩,⟨3,[40],[1]⟩,⟨4,[39,41],[]⟩] [7,8] [])))))))) [] F fun a l=>by kernel_rfl,
  ak (B0:=BB) (L:=LL) (G:=[(jK F).sw 2 106]) 9 ⟨Tryz.call197⟩ Tryz.func197 Tryz.ntmps197 rfl (zab rfl) rfl ⟨((bw F).2.2.1).sw 2 106,trivial⟩ (.no) [] F fun a l=>by kernel_rfl,
  ak (B0:=BB) (L:=LL) (G:=[lB F,aU F]) 46 ⟨Tryz.call34⟩ Tryz.func34 Tryz.ntmps34 rfl (zab rfl) rfl ⟨(bw F).2.2.2.1,bg F,trivial⟩ (.two (.no) (.two (.no) (.loop ⟨[0,1,2,6,7],[2],[]⟩ [.b 1 85 (.st .reader),.b 106 35 (.st .ab),.b 107 35 (.st .ab)] [(.x none,[.b 1 85 (.st .reader),.b 106 35 (.st .ab)]),(.iD,[])] (.two (.no) (.two (.no) (.two (.no) (.two (.no) (.iE [⟨0,[9],[]⟩,⟨1,[7],[107]⟩,⟨2,[1],[]⟩,⟨5,[8],[]⟩,⟨6,[43],[108]⟩,⟨3,[40],[1]⟩,⟨4,[39,41],[]⟩] [7,8] [])))))))) [] F fun a l=>by kernel_rfl,
  ak (B0:=BB) (L:=LL) (G:=[(kh F).sw 2 106]) 9 ⟨Tryz.call171⟩ Tryz.func171 Tryz.ntmps171 rfl (zab rfl) rfl ⟨((bw F).2.2.2.2.1).sw 2 106,trivial⟩ (.no) [] F fun a l=>by kernel_rfl,
  ak (B0:=BB) (L:=LL) (G:=[oD F,aU F]) 38 ⟨Tryz.call136⟩ Tryz.func136 Tryz.ntmps136 rfl (zab rfl) rfl ⟨(bw F).2.2.2.2.2.1,bg F,trivial⟩ (.two (.no) (.two (.no) (.two (.no) (.two (.no) (.two (.no) (.two (.no) (.two (.iE [⟨0,[5],[]⟩,⟨1,[3],[103]⟩,⟨2,[0],[]⟩,⟨5,[4],[]⟩,⟨6,[35],[104]⟩,⟨3,[32],[1]⟩,⟨4,[31,33],[]⟩] [7,8] []) (.no)))))))) [] F fun a l=>by kernel_rfl,
  ak (B0:=BB) (L:=LL) (G:=[aU F,aV F,kB F,nT F]) 16 ⟨Tryz.call84⟩ Tryz.func84 Tryz.ntmps84 rfl (zab rfl) rfl ⟨bg F,bh F,(bw F).2.2.2.2.2.2.2.1,(bw F).2.2.2.2.2.2.1,trivial⟩ (.two (.no) (.two (.no) (.two (.two (.no) (.two (.two (.iE [⟨0,[0],[]⟩,⟨3,[3],[]⟩,⟨4,[11],[103]⟩,⟨1,[8],[1]⟩,⟨2,[9],[]⟩] [5,6] []) (.no)) (.no))) (.no)))) [] F fun a l=>by kernel_rfl,
  ak (B0:=BB) (L:=LL) (G:=[kB F,aU F]) 46 ⟨Tryz.call34⟩ Tryz.func34 Tryz.ntmps34 rfl (zab rfl) rfl ⟨(bw F).2.2.2.2.2.2.2.1,bg F,trivial⟩ (.two (.no) (.two (.no) (.loop ⟨[0,1,2,6,7],[2],[]⟩ [.b 1 85 (.st .reader),.b 106 35 (.st .ab),.b 107 35 (.st .ab)] [(.x none,[.b 1 85 (.st .reader),.b 106 35 (.st .ab)]),(.iD,[])] (.two (.no) (.two (.no) (.two (.no) (.two (.no) (.iE [⟨0,[9],[]⟩,⟨1,[7],[107]⟩,⟨2,[1],[]⟩,⟨5,[8],[]⟩,⟨6,[43],[108]⟩,⟨3,[40],[1]⟩,⟨4,[39,41],[]⟩] [7,8] [])))))))) [] F fun a l=>by kernel_rfl,
  ak (B0:=BB) (L:=LL) (G:=[(kV F).sw 2 106]) 9 ⟨Tryz.call35⟩ Tryz.func35 Tryz.ntmps35 rfl (zab rfl) rfl ⟨((bw F).2.2.2.2.2.2.2.2.1).sw 2 106,trivial⟩ (.no) [] F fun a l=>by kernel_rfl,
  ak (B0:=BB) (L:=LL) (G:=[oG F,aU F]) 46 ⟨Tryz.call34⟩ Tryz.func34 Tryz.ntmps34 rfl (zab rfl) rfl ⟨(bw F).2.2.2.2.2.2.2.2.2.1,bg F,trivial⟩ (.two (.no) (.two (.no) (.loop ⟨[0,1,2,6,7],[2],[]⟩ [.b 1 85 (.st .reader),.b 106 35 (.st .ab),.b 107 35 (.st .ab)] [(.x none,[.b 1 85 (.st .reader),.b 106 35 (.st .ab)]),(.iD,[])] (.two (.no) (.two (.no) (.two (.no) (.two (.no) (.iE [⟨0,[9],[]⟩,⟨1,[7],[107]⟩,⟨2,[1],[]⟩,⟨5,[8],[]⟩,⟨6,[43],[108]⟩,⟨3,[40],[1]⟩,⟨4,[39,41],[]⟩] [7,8] [])))))))) [] F fun a l=>by kernel_rfl,
  ak (B0:=BB) (L:=LL) (G:=[(mD F).sw 2 106]) 9 ⟨Tryz.call15⟩ Tryz.func15 Tryz.ntmps15 rfl (zab rfl) rfl ⟨((bw F).2.2.2.2.2.2.2.2.2.2.1).sw 2 106,trivial⟩ (.no) [] F fun a l=>by kernel_rfl⟩
theorem eE (F:Nat):av Tryz.prog (ax mx) (bY F):=(bw F).2.2.2.2.2.2.2.2.2.2.2
def sI (F:Nat):bL DD pk:=⟨14,[.k,.k],[.p (.ptr 1 0),.p (.ptr 2 0)],[1,2],[.b 85 (.st .reader),.b 35 (.st .ab)],[],false,true,false,false,fun a l=>iJ F l.1 l.2.1⟩
theorem zB (F:Nat):av Tryz.prog (ax mx) (sI F):=ak (B0:=BB) (L:=LL) (G:=[bY F]) 5 ⟨Tryz.call14⟩ Tryz.func14 Tryz.ntmps14 rfl (zab rfl) rfl ⟨eE F,trivial⟩ (.no) [] F fun a l=>by kernel_rfl
def eP (F:Nat):bL DD pk:=⟨66,[.k],[.p (.ptr 1 0)],[1],[.b 85 (.st .reader)],[.str],false,true,false,false,fun a l=>dC F l.1⟩
theorem jx (F:Nat):av Tryz.prog (ax mx) (eP F):=ak (B0:=BB) (L:=LL) (G:=[eO F]) 6 ⟨Tryz.call66⟩ Tryz.func66 Tryz.ntmps66 rfl (zab rfl) rfl ⟨gA F,trivial⟩ (.no) [] F fun a l=>by kernel_rfl
def oF (F:Nat):bL DD pk:=⟨71,[.k,.k],[.p (.ptr 1 0),.p (.ptr 2 0)],[1,2],[.b 85 (.st .reader),.b 48 (.st .aA)],[],false,true,false,false,fun a l=>kz F l.1 l.2.1⟩
theorem uO (F:Nat):av Tryz.prog (ax mx) (oF F):=ak (B0:=BB) (L:=LL) (G:=[eP F,bx F,bY F]) 20 ⟨Tryz.call71⟩ Tryz.func71 Tryz.ntmps71 rfl (zab rfl) rfl ⟨jx F,bQ F,eE F,trivial⟩ (.no) [] F fun a l=>by kernel_rfl
def cZ (F:Nat):bL DD pk:=⟨70,[.k],[.p (.ptr 1 0)],[1],[.b 85 (.st .reader)],[.st .af],false,true,false,false,fun a l=>cq F l.1⟩
theorem fj (F:Nat):av Tryz.prog (ax mx) (cZ F):=ak (B0:=BB) (L:=LL) (G:=[bx F,bY F]) 24 ⟨Tryz.call70⟩ Tryz.func70 Tryz.ntmps70 rfl (zab rfl) rfl ⟨bQ F,eE F,trivial⟩ (.two (.no) (.two (.no) (.two (.two (.no) (.loop ⟨[0,2,3,6],[102],[]⟩ [.s 7 (.int .i64),.b 1 85 (.st .reader),.b 103 118 (.st .af)] [(.x (some 0),[.b 1 85 (.st .reader),.b 103 118 (.st .af)]),(.iD,[])] (.no))) (.no)))) [] F fun a l=>by kernel_rfl
def jF (F:Nat):bL DD pk:=⟨121,[.k],[.p (.ptr 1 0)],[1],[.b 85 (.st .reader)],[.st .bm],false,true,false,false,fun a l=>gu F l.1⟩
theorem nI (F:Nat):av Tryz.prog (ax mx) (jF F):=ak (B0:=BB) (L:=LL) (G:=[cZ F,aV F,bx F,hN F]) 34 ⟨Tryz.call121⟩ Tryz.func121 Tryz.ntmps121 rfl (zab rfl) rfl ⟨fj F,bh F,bQ F,lx F,trivial⟩ (.two (.no) (.two (.no) (.two (.two (.no) (.two (.two (.two (.no) (.loop ⟨[0,2,3,12],[102],[]⟩ [.s 13 (.int .i64),.b 1 85 (.st .reader),.b 103 122 (.st .bm)] [(.x (some 0),[.b 1 85 (.st .reader),.b 103 122 (.st .bm)]),(.iD,[])] (.no))) (.no)) (.no))) (.no)))) [] F fun a l=>by kernel_rfl
def oH (F:Nat):bL DD pk:=⟨123,[.k,.d (.str),.k],[.p (.ptr 1 0),.p (.cI 121 [.ptr 1 0] [])],[1],[.b 85 (.st .reader)],[.sl (.st .bm)],false,true,false,false,fun a l=>oo F a.1 l.1⟩
theorem uP (F:Nat):av Tryz.prog (ax mx) (oH F):=ak (B0:=BB) (L:=LL) (G:=[jF F,aV F]) 20 ⟨Tryz.call123⟩ Tryz.func123 Tryz.ntmps123 rfl (zab rfl) rfl ⟨nI F,bh F,trivial⟩ (.two (.no) (.two (.no) (.two (.loop ⟨[0,1,2],[],[(7,110)]⟩ [.b 1 85 (.st .reader),.r 110 122 (.st .bm)] [(.x (some 0),[.b 1 85 (.st .reader),.r 110 122 (.st .bm)]),(.iD,[])] (.no)) (.no)))) [10] F fun a l=>by kernel_rfl
def nS (F:Nat):bL DD pk:=⟨74,[.k,.k],[.p (.ptr 1 0),.p (.ptr 2 0)],[1,2],[.b 85 (.st .reader),.b 48 (.st .aA)],[],false,true,false,false,fun a l=>jw F l.1 l.2.1⟩
theorem tS (F:Nat):av Tryz.prog (ax mx) (nS F):=ak (B0:=BB) (L:=LL) (G:=[eP F,bx F,oH F]) 22 ⟨Tryz.call74⟩ Tryz.func74 Tryz.ntmps74 rfl (zab rfl) rfl ⟨jx F,bQ F,uP F,trivial⟩ (.no) [] F fun a l=>by kernel_rfl
def mC (F:Nat):bL DD pk:=⟨76,[.k,.k],[.p (.ptr 1 0),.p (.ptr 2 0)],[1,2],[.b 85 (.st .reader),.b 48 (.st .aA)],[],false,true,false,false,fun a l=>iN F l.1 l.2.1⟩
theorem sU (F:Nat):av Tryz.prog (ax mx) (mC F):=ak (B0:=BB) (L:=LL) (G:=[bx F]) 7 ⟨Tryz.call76⟩ Tryz.func76 Tryz.ntmps76 rfl (zab rfl) rfl ⟨bQ F,trivial⟩ (.no) [] F fun a l=>by kernel_rfl
def oE (F:Nat):bL DD pk:=⟨77,[.k,.k],[.p (.ptr 1 0),.p (.ptr 2 0)],[1,2],[.b 85 (.st .reader),.b 48 (.st .aA)],[],false,true,false,false,fun a l=>ky F l.1 l.2.1⟩
theorem uN (F:Nat):av Tryz.prog (ax mx) (oE F):=ak (B0:=BB) (L:=LL) (G:=[bY F,bx F]) 12 ⟨Tryz.call77⟩ Tryz.func77 Tryz.ntmps77 rfl (zab rfl) rfl ⟨eE F,bQ F,trivial⟩ (.no) [] F fun a l=>by kernel_rfl
def fp (F:Nat):bL DD pk:=⟨64,[.k],[.p (.ptr 1 0)],[1],[.b 85 (.st .reader)],[.sl (.st .ab)],false,true,false,false,fun a l=>fi F l.1⟩
theorem l7 (F:Nat):av Tryz.prog (ax mx) (fp F):=ak (B0:=BB) (L:=LL) (G:=[bY F,aV F]) 15 ⟨Tryz.call64⟩ Tryz.func64 Tryz.ntmps64 rfl (zab rfl) rfl ⟨eE F,bh F,trivial⟩ (.no) [6] F fun a l=>by kernel_rfl
def oI (F:Nat):bL DD pk:=⟨120,[.k,.d (.str),.k],[.p (.ptr 1 0),.p (.cI 70 [.ptr 1 0] [])],[1],[.b 85 (.st .reader)],[.sl (.st .af)],false,true,false,false,fun a l=>oq F a.1 l.1⟩
theorem uQ (F:Nat):av Tryz.prog (ax mx) (oI F):=ak (B0:=BB) (L:=LL) (G:=[cZ F,aV F]) 20 ⟨Tryz.call120⟩ Tryz.func120 Tryz.ntmps120 rfl (zab rfl) rfl ⟨fj F,bh F,trivial⟩ (.two (.no) (.two (.no) (.two (.loop ⟨[0,1,2],[],[(7,110)]⟩ [.b 1 85 (.st .reader),.r 110 118 (.st .af)] [(.x (some 0),[.b 1 85 (.st .reader),.r 110 118 (.st .af)]),(.iD,[])] (.no)) (.no)))) [10] F fun a l=>by kernel_rfl
def mE (F:Nat):bL DD pk:=⟨68,[.k],[.p (.ptr 1 0)],[1],[.b 85 (.st .reader)],[.st .aL],false,true,false,false,fun a l=>mn F l.1⟩
theorem sV (F:Nat):av Tryz.prog (ax mx) (mE F):=ak (B0:=BB) (L:=LL) (G:=[aU F,aV F,cZ F,bx F,oI F,fp F,jF F,bJ F]) 66 ⟨Tryz.call68⟩ Tryz.func68 Tryz.ntmps68 rfl (zab rfl) rfl ⟨bg F,bh F,fj F,bQ F,uQ F,l7 F,nI F,bV F,trivial⟩ (.two (.no) (.two (.no) (.qV ⟨[0,2,3],[],[]⟩ [.b 1 85 (.st .reader),.b 102 124 (.st .aL),.b 103 124 (.st .aL)] [(.x none,[.b 1 85 (.st .reader),.b 102 124 (.st .aL)]),(.iD,[])] (.two (.no) (.two (.two (.no) (.two (.no) (.iE [⟨0,[4],[104]⟩,⟨1,[0],[]⟩,⟨4,[3],[]⟩,⟨2,[20],[1]⟩,⟨3,[19,21],[]⟩,⟨5,[23],[103]⟩] [6,7] []))) (.no))) (.no)))) [] F fun a l=>by kernel_rfl
def iS (F:Nat):bL DD pk:=⟨67,[.k,.d (.str),.k],[.p (.ptr 1 0),.p (.cI 68 [.ptr 1 0] [])],[1],[.b 85 (.st .reader)],[.sl (.st .aL)],false,true,false,false,fun a l=>ml F a.1 l.1⟩
theorem sT (F:Nat):av Tryz.prog (ax mx) (iS F):=ak (B0:=BB) (L:=LL) (G:=[aV F,mE F]) 18 ⟨Tryz.call67⟩ Tryz.func67 Tryz.ntmps67 rfl (zab rfl) rfl ⟨bh F,sV F,trivial⟩ (.two (.no) (.two (.no) (.two (.loop ⟨[0,1,2],[],[(7,107)]⟩ [.b 1 85 (.st .reader),.r 107 124 (.st .aL)] [(.x (some 0),[.b 1 85 (.st .reader),.r 107 124 (.st .aL)]),(.iD,[])] (.no)) (.no)))) [7] F fun a l=>by kernel_rfl
def gD (F:Nat):bL DD pk:=⟨28,[.k],[.p (.ptr 1 0)],[1],[.b 85 (.st .reader)],[.st .aW],false,true,false,false,fun a l=>nC F l.1⟩
theorem h31_lin (F:Nat):HF (BB (mx:=mx)) LL [aU F,aV F,bY F,fp F,fJ F,eP F,bx F,iS F,cZ F,bJ F] ⟨129,JJ (gD F).ks (gD F).ls,[]⟩ (regOf 8 Tryz.f28) [(0,1),(2,102),(3,103)] [(0,1),(2,102),(3,103)] [.b 1 85 (.st .reader),.b 102 55 (.st .aW),.b 103 55 (.st .aW)] [.b 1 85 (.st .reader),.b 102 55 (.st .aW),.b 103 55 (.st .aW)] .Problem (h31 F):=Ib (pk:=pk) [[],[0],[0],[0,1,2],[],[4],[5],[3,6],[],[8,5],[0,1,2,3,4,5,6,7,8,9],[10,7,9,0,1,2,3,4,5,6,7,8,9]] (by kernel_rfl) (fun σ z=>if σ.idxOf 1<σ.idxOf 2 then h31 F z else h31b F z) (fun σ z=>by
 show (if σ.idxOf 1<σ.idxOf 2 then h31 F z else h31b F z)=h31 F z
 split
 rfl
 exact h31_eq) (fun z0=>by kernel_rfl)
theorem tT (F:Nat):av Tryz.prog (ax mx) (gD F):=DO (B0:=BB (mx:=mx)) (L:=LL) (G:=[aU F,aV F,bY F,fp F,fJ F,eP F,bx F,iS F,cZ F,bJ F]) 129 ⟨Tryz.call28⟩ Tryz.func28 Tryz.ntmps28 rfl (zab rfl) rfl ⟨bg F,bh F,eE F,l7 F,ld F,jx F,bQ F,sT F,fj F,bV F,trivial⟩ (.two (.no) (.two (.no) (.qV ⟨[0,2,3],[],[]⟩ [.b 1 85 (.st .reader),.b 102 55 (.st .aW),.b 103 55 (.st .aW)] [(.x none,[.b 1 85 (.st .reader),.b 102 55 (.st .aW)]),(.iD,[])] (.two (.no) (.two (.no) (.two (.no) (.two (.no) (.two (.no) (.two (.two (.lin [(0,1),(2,102),(3,103)] [(0,1),(2,102),(3,103)] [.b 1 85 (.st .reader),.b 102 55 (.st .aW),.b 103 55 (.st .aW)] [.b 1 85 (.st .reader),.b 102 55 (.st .aW),.b 103 55 (.st .aW)] .Problem (h31 F)) (.no)) (.two (.no) (.two (.two (.iE [] [] []) (.no)) (.two (.no) (.two (.two (.no) (.two (.no) (.two (.no) (.two (.no) (.two (.no) (.two (.no) (.two (.iE [] [] []) (.no)))))))) (.no))))))))))) (.no)))) [] F (fun a l=>by kernel_rfl) ⟨(bU _ rfl),⟨(bU _ rfl),⟨⟨(bU _ rfl),⟨(bU _ rfl),⟨(bU _ rfl),⟨(bU _ rfl),⟨(bU _ rfl),⟨⟨(h31_lin (mx:=mx) F),(bU _ rfl)⟩,(bU _ rfl)⟩⟩⟩⟩⟩⟩,(bU _ rfl)⟩⟩⟩
end Go.Dn
namespace Go.Dn
open Go Go.Sk Go.Proofs X
set_option maxRecDepth 100000
section
variable {P:Program} {TB:aH} {E:Env TB} {n:Sh} {s:St} {dst:Option Nat} {t ty yt:TypeId} {pos:String} {after:Array Edge} {g:Option (Nat×Bool)} {x y:Operand} {ops:Array Oper} {l:List Oper} {Q:bG}
theorem toRaw {a k:Nat} {ac:Act} {w:World} (hk:k∈n.fix) (hl:lk s.slots a=some (.b (.ptr k 0))) (hr:R E n s ac w):R E n ⟨(a,.b (.one (.raw (E.ρ0 k))))::s.slots,s.own⟩ ac w:=by
 obtain⟨h1,h2,h,ρ,hw,hs⟩:=hr
 refine⟨h1,h2,h,ρ,hw,fun j z hz=>?_⟩
 rcases List.mem_cons.1 hz with e|e
 cases e
 obtain⟨v,hv,b,e1,e2⟩:=hs _ _ (bj hl)
 refine⟨v,hv,?_⟩
 have e3:v=E.ρ0 k:=by rw[e2,← hw.fixed k hk,e1]
 refine (show (CP.raw (E.ρ0 k)).rel h v from ⟨e3,?_⟩)
 rw[← e3,e2];rfl
 exact hs j z e
theorem ofRaw {a f k:Nat} {T:TypeId} {ps:List CP} {ac:Act} {w:World} (hk:k∈n.fix) (hb:lk s.own k=some (.box T ps)) (hl:lk s.slots a=some (.b (.one (.raw (.func (.func f) #[E.ρ0 k] #[]))))) (hr:R E n s ac w):R E n ⟨(a,.b (.cI f [.ptr k 0] []))::s.slots,s.own⟩ ac w:=by
 obtain⟨h1,h2,h,ρ,hw,hs⟩:=hr
 obtain⟨b,cur,e1,_,_⟩:=iK hw hb
 refine⟨h1,h2,h,ρ,hw,fun j z hz=>?_⟩
 rcases List.mem_cons.1 hz with e|e
 cases e
 obtain⟨v,hv,e2,_⟩:=hs _ _ (bj hl)
 refine⟨v,hv,#[E.ρ0 k],#[],e2,.cons ⟨b,e1,?_⟩ .nil,.nil⟩
 rw[← hw.fixed k hk,e1]
 exact hs j z e
theorem D3 {f:FuncId} {u:Value} (hx:s.ev x=some (.b (.one (.raw u)))):aQ P E n ⟨dst,.makeFunc (.func f) ⟨[x]⟩ ⟨[]⟩,ty,pos,after,g⟩ s (s.put n dst (.b (.one (.raw (.func (.func f) #[u] #[]))))) :=
 aQ.val (o:=⟨dst,.makeFunc (.func f) ⟨[x]⟩ ⟨[]⟩,ty,pos,after,g⟩) fun ac w h ρ hw hs=>by
  have hv:ac.eval x=u:=(aE hs hx:(CP.raw _).rel h _).1
  refine⟨.func (.func f) #[u] #[],?_,rfl,rfl⟩
  simp[execOp,Instr.makeFunc,hv]
end
section
variable {TB:aH} {E:Env TB} {n:Sh} {ops:Array Oper} {l:List Oper} {Q:bG}
theorem f_b144:q4 Tryz.prog 143 [(0,1),(1,1),(2,1)] [.int .i64 0,.int .i64 0,.raw .nilFunc]:=⟨Tryz.t143,_,_,by kernel_rfl,rfl,fun _=>.cons aa (.cons aa (.cons ⟨rfl,rfl⟩ .nil)),Tryz.underlying143,by kernel_rfl⟩
def z144:BV:=.agg [.int .i64 0,.int .i64 0,.raw .nilFunc]
theorem KS:s8 Tryz.prog 144 9 143 z144:=⟨Tryz.underlying144,Tryz.t143,_,by kernel_rfl,rfl,fun _ _=>⟨_,rfl,.cons aa (.cons aa (.cons ⟨rfl,rfl⟩ .nil))⟩⟩
def Hx (k o:Int) (f:Nat) (u:Value):BV:=.agg [.int .i64 k,.int .i64 o,.raw (.func (.func f) #[u] #[])]
def S1 (u:Value) (b1:reader) (z:aA) (es:List (Str×BV)):St:=⟨[(0,.b (.ptr 1 0)),(2,.b (.ptr 102 0)),(8,.b (.row 108))],[(1,.box 85 (rK b1)),(102,.box 48 (n3 z)),(108,.mp (vX CP.str es))]⟩
theorem put_eq {s:St} {d:Nat} {x:SV} (h:d<n.n):s.put n (some d) x=⟨(d,x)::del d s.slots,s.own⟩:=by simp[St.put,St.set,h]
theorem Hs {α:Type} {a k:Nat} {x:α} {l:List (Nat×α)} (h:k≠a):lk ((a,x)::l) k=lk l k:=by
 simp only[lk]
 rw[if_neg (by simpa using h)]
theorem Dv {α:Type} {a k:Nat} (h:k≠a):∀ {l:List (Nat×α)},lk (del a l) k=lk l k:=fun {l}=>mK h
theorem iI {a b c f:Nat} {k o:Int} {q:ByteArray} {t0 t1 t2 t3:TypeId} {p0 p1 p2 p3:String} {e0 e1 e2 e3:Array Edge} {b1:reader} {z:aA} {es:List (Str×BV)} (hn:1∈n.fix) (ha:a<n.n) (hb:b<n.n) (hc:c<n.n) (h0:∀ j∈[0,2,8],j≠a/\j≠b/\j≠c)
 (hk:k.natAbs<1000/\o.natAbs<1000) (hq:dH es q.data.toList=none) (hl:q.data.toList.length<=maxLen)
 (h:aj Tryz.prog E n ops l (S1 (E.ρ0 1) b1 z (es++[(q.data.toList,Hx k o f (E.ρ0 1))])) Q) :
 aj Tryz.prog E n ops (⟨some a,.move (.tmp 0),t0,p0,e0,none⟩::⟨some b,.makeFunc (.func f) ⟨[.tmp a]⟩ ⟨[]⟩,t1,p1,e1,none⟩::⟨some c,.build 143 ⟨[(0,.const (.int .i64 k)),(1,.const (.int .i64 o)),(2,.tmp b)]⟩,t2,p2,e2,none⟩::⟨none,.insert 144 (.tmp 8) (.const (.string q)) (.tmp c),t3,p3,e3,none⟩::l) (S1 (E.ρ0 1) b1 z es) Q:=by
 have h8:=h0 8 (by simp)
 refine Oc (om rfl) ?_
 rw[put_eq ha]
 refine aj.preR (fun ac w hr=>toRaw (a:=a) (k:=1) hn (by simp[lk]) hr) ?_
 refine Oc (D3 (x:=.tmp a) (u:=E.ρ0 1) (by simp[St.ev,St.get,lk])) ?_
 rw[put_eq hb]
 have hc1:(Hj (Value.int .i64 k))=some (.int .i64 k):=by
  show (if IntKind.i64.min<=k/\k<=IntKind.i64.max then some (CP.int .i64 k) else none)=_
  rw[if_pos]
  have e1:IntKind.i64.min = -9223372036854775808:=rfl
  have e2:IntKind.i64.max=9223372036854775807:=rfl
  rw[e1,e2]
  omega
 have hc2:(Hj (Value.int .i64 o))=some (.int .i64 o):=by
  show (if IntKind.i64.min<=o/\o<=IntKind.i64.max then some (CP.int .i64 o) else none)=_
  rw[if_pos]
  have e1:IntKind.i64.min = -9223372036854775808:=rfl
  have e2:IntKind.i64.max=9223372036854775807:=rfl
  rw[e1,e2]
  omega
 refine Oc (vJ f_b144 (cps:=[(0,[.int .i64 k]),(1,[.int .i64 o]),(2,[.raw (.func (.func f) #[E.ρ0 1] #[])])]) (qs:=[.int .i64 k,.int .i64 o,.raw (.func (.func f) #[E.ρ0 1] #[])]) (by
  simp[eR,St.ev,St.get,lk,hc1,hc2,SV.cells]) (by simp[iV,Sk.aO])) ?_
 rw[put_eq hc]
 refine Oc (Dr (Aj Tryz.underlying9) KS (l:=es) (j:=108) (k:=q.data.toList) (v:=Hx k o f (E.ρ0 1)) (by
  show lk ((c,_)::del c ((b,_)::del b ((a,_)::(a,_)::del a _))) 8=_
  rw[Hs h8.2.2,Dv h8.2.2,Hs h8.2.1,Dv h8.2.1,Hs h8.1,Hs h8.1,Dv h8.1]
  rfl) rfl (by
  show (if q.data.toList.length<=maxLen then some (CP.str q.data.toList) else none).map _=_
  rw[if_pos hl]
  rfl) (by
  show lk ((c,_)::_) c=_
  simp[lk]
  rfl) hq) ?_
 refine aj.preR (fun ac w hr=>so (fun p hp=>?_) (fun p hp=>?_) hr) h
 have hp1:p.1∈[0,2,8]:=by
  have:=List.mem_map_of_mem (f:=(·.1)) hp
  exact this
 obtain⟨g1,g2,g3⟩:=h0 _ hp1
 refine List.mem_cons_of_mem _ (db (List.mem_cons_of_mem _ (db (List.mem_cons_of_mem _ (List.mem_cons_of_mem _ (db ?_ g1))) g2)) g3)
 exact hp
 exact hp
end
section
variable {mx:Int} {E:Env (ax mx)} {n:Sh} {Q:bG}
theorem denS {fr:Fr} {F:Nat} {c:Code} {an:An DD} {s s1:bF DD} {m:Option (bF DD)} {G:List (bL DD pk)} (hn:n.n=fr.n) (hf:n.fix=fr.fx) (hG:F0 Tryz.prog (ax mx) G) (h:ib (BB (mx:=mx)) LL G fr F c an ⟨[],[],[]⟩ s some (fun _ _=>none) (fun _ _=>none)=m) (hm:m=some s1) (hr:Fin E n .normal s1.st Q) (hh:mJ an=true:=by rfl):ah Tryz.prog E n c s.st Q :=
 iY hn hf hG c an (bU c hh) ⟨[],[],[]⟩ s some _ _ s1 Q (h.trans hm) (fun s' _ e=>by cases e;exact hr) (fun t s' _ e=>by cases e) (fun p ow e=>by cases e)
theorem CZ {fr:Fr} {F:Nat} {c:Code} {an:An DD} {s:bF DD} {cs:Kept} {ks:List (Pl DD)} {m:Option (PT DD ks⊕Problem)} {r:PT DD ks⊕Problem} {G:List (bL DD pk)} (hn:n.n=fr.n) (hf:n.fix=fr.fx) (hG:F0 Tryz.prog (ax mx) G) (hk:okE ⟨[],[],[]⟩ cs s ks=true) (h:ib (BB (mx:=mx)) LL G fr F c an (cs.add ⟨[],[],[]⟩) s (fun s'=>(pjI LL (cs.add ⟨[],[],[]⟩) s' cs.r ks).bind fun z=>some (.inl z)) (fun _ _=>none) (fun p _=>some (.inr p))=m) (hm:m=some r) (hr:∀ z,r=.inl z->Fin E n .normal (F2 s cs ks z).st Q) (hP:∀ p,r=.inr p->zn E n pk p ⟨[],[],[]⟩ Q) (hh:mJ an=true:=by rfl):ah Tryz.prog E n c s.st Q :=
 iY hn hf hG c an (bU c hh) (cs.add ⟨[],[],[]⟩) s _ _ _ r Q (h.trans hm) (fun s' he e=>by
  obtain⟨z,hz,e1⟩:=aK e
  cases e1
  exact fun a w hR=>hr z rfl a w (vA hz he hR)) (fun t s' _ e=>by cases e) (fun p ow e=>by cases e;exact (hP _ rfl).less Hu)
theorem IM {fr:Fr} {os l:List Oper} {s:bF DD} {cs:Kept} {ks:List (Pl DD)} {m:Option (PT DD ks⊕Problem)} {r:PT DD ks⊕Problem} {G:List (bL DD pk)} (hn:n.n=fr.n) (hf:n.fix=fr.fx) (hG:F0 Tryz.prog (ax mx) G) (hk:okE ⟨[],[],[]⟩ cs s ks=true) (h:Go.Dn.ops (BB (mx:=mx)) LL G fr (cs.add ⟨[],[],[]⟩) os l s (fun s'=>(pjI LL (cs.add ⟨[],[],[]⟩) s' cs.r ks).bind fun z=>some (.inl z)) (fun p _=>some (.inr p))=m) (hm:m=some r) (hr:∀ z,r=.inl z->Fin E n .normal (F2 s cs ks z).st Q) (hP:∀ p,r=.inr p->zn E n pk p ⟨[],[],[]⟩ Q):aj Tryz.prog E n os.toArray l s.st Q :=
 xJ hn hf hG (fun p ow e=>by cases e;exact (hP _ rfl).less Hu) (h.trans hm) fun s' he e=>by
  obtain⟨z,hz,e1⟩:=aK e
  cases e1
  exact fun a w hR=>hr z rfl a w (vA hz he hR)
def embQ (s:bF DD) (cs:Kept) (ps:List (Nat×Nat)) (ks:List (Pl DD)) (z:PT DD ks):bF DD:=⟨(ps.map fun p=>(p.1,.n (.p (.ptr p.2 0))))++(F2 s cs ks z).sl,(F2 s cs ks z).own,[]⟩
theorem Gz {s s':bF DD} {cs:Kept} {ps:List (Nat×Nat)} {ks:List (Pl DD)} {z:PT DD ks} {a:Act} {w:World} (hP:rq s' ps=true) (hp:pj s' cs.r ks=some z) (he:Ext (cs.add ⟨[],[],[]⟩).s (cs.add ⟨[],[],[]⟩).o s s') (hr:R E n s'.st a w):R E n (embQ s cs ps ks z).st a w:=by
 have hc:=fun t ht=>he.sl t (List.mem_append_left _ ht)
 have ho:=fun t ht=>he.ow t (List.mem_append_left _ ht)
 obtain⟨h1,h2,hh,ρ,hw,hs⟩:=hr
 unfold pj at hp
 split at hp
 next hR=>
  obtain⟨h3,h4⟩:=Af hp
  refine⟨h1,h2,hh,ρ,?_,fun k x hx=>?_⟩
  refine hw.sub fun p hp=>?_
  obtain⟨q,hq,rfl⟩:=List.mem_map.1 hp
  obtain⟨k,c⟩:=q
  refine List.mem_map.2 ⟨(k,c),?_,rfl⟩
  rcases List.mem_append.1 hq with e|e
  exact bj (h4 k c e)
  simp only[kpo,List.mem_filterMap] at e
  obtain⟨k',hk,hq⟩:=e
  obtain⟨c',hc',e⟩:=Option.map_eq_some_iff.1 hq
  cases e
  exact bj (ho _ hk _ hc')
  obtain⟨y,hy,rfl⟩:=ek.1 hx
  rcases List.mem_append.1 hy with e|e
  obtain⟨p,hpm,e2⟩:=List.mem_map.1 e
  cases e2
  have:=List.all_eq_true.1 hP p hpm
  refine ru hs (x:=.p (.ptr p.2 0)) ?_
  split at this
  next j hj=>
   have:j=p.2:=by simpa using this
   subst this
   unfold vl
   rw[hj]
  cases this
  rcases List.mem_append.1 e with e|e
  obtain⟨x,rfl,hv⟩:=h3 _ _ e
  exact ru hs hv
  rcases List.mem_append.1 e with e|e
  obtain⟨x,rfl,hv⟩:=H2 hR e
  exact ru hs hv
  obtain⟨hk,x,rfl,hv⟩:=KJ e
  exact ru hs (hc _ hk _ hv)
 cases hp
theorem JO {fr:Fr} {os l:List Oper} {s:bF DD} {cs:Kept} {ps:List (Nat×Nat)} {ks:List (Pl DD)} {z:PT DD ks} {G:List (bL DD pk)} (hn:n.n=fr.n) (hf:n.fix=fr.fx) (hG:F0 Tryz.prog (ax mx) G) (h:Go.Dn.ops (BB (mx:=mx)) LL G fr (cs.add ⟨[],[],[]⟩) os l s (fun s'=>if rq s' ps=true then pj s' cs.r ks else none) (fun p _=>none)=some z) (hr:Fin E n .normal (embQ s cs ps ks z).st Q):aj Tryz.prog E n os.toArray l s.st Q :=
 xJ hn hf hG (fun p ow e=>by cases e) h fun s' he e=>by
  split at e
  next hp=>exact fun a w hR=>hr a w (Gz hp e he hR)
  cases e
def mL:List (Str×(Int×Int×Nat)):=[([108,101,116],1,0,71),([115,101,116],2,0,71),([114,101,112,101,97,116],3,0,72),([105,102],4,0,73),([112,108,97,99,101],5,1,74),([114,101,109,111,118,101],5,2,74),([116,105,101],5,3,75),([99,117,116],5,4,75),([97,112,112,108,121],5,5,75),([102,114,101,101],5,6,75),([112,97,117,115,101],5,7,76),([114,117,110],5,8,77)]
def vz (u:Value):List (Str×BV):=mL.map fun q=>(q.1,Hx q.2.1 q.2.2.1 q.2.2.2 u)
def BW:Fr:=⟨82,[1],[]⟩
def s32 (b1:reader):bF DD:=⟨[(0,.n (.p (.ptr 1 0)))],[(1,.box 85 (.st .reader) b1)],[]⟩
def s32a (b1:reader):bF DD:=⟨[(2,.n (.p (.ptr 102 0))),(0,.n (.p (.ptr 1 0)))],[(1,.box 85 (.st .reader) b1),(102,.box 48 (.st .aA) mH)],[]⟩
def s32b (u:Value) (b1:reader):bF DD:=⟨[(0,.n (.p (.ptr 1 0))),(2,.n (.p (.ptr 102 0))),(3,.n (.p (.row 108)))],[(1,.box 85 (.st .reader) b1),(102,.box 48 (.st .aA) mH),(108,.raw (.mp (vX CP.str (vz u))))],[]⟩
def s32c (u:Value) (b1:reader) (t:Token):bF DD:=⟨[(4,.n (.p (.ptr 104 0))),(47,.n (.d (.st .Token) t)),(46,.n (.p (.ptr 1 0))),(0,.n (.p (.ptr 1 0))),(2,.n (.p (.ptr 102 0))),(3,.n (.p (.row 108)))],[(1,.box 85 (.st .reader) b1),(102,.box 48 (.st .aA) mH),(108,.raw (.mp (vX CP.str (vz u)))),(104,.box 91 (.st .Token) t)],[]⟩
def xQ (u:Value) (q:Option (Int×Int×Nat)):List CP:=match q with
 | none=>[.int .i64 0,.int .i64 0,.raw .nilFunc]
 | some q=>[.int .i64 q.1,.int .i64 q.2.1,.raw (.func (.func q.2.2) #[u] #[])]
theorem Jv (u:Value) (k:Str):(dH (vz u) k).getD z144=.agg (xQ u (dH mL k))/\(dH (vz u) k).isSome=(dH mL k).isSome:=by
 unfold vz
 rw[ns (f:=fun (q:Int×Int×Nat)=>Hx q.1 q.2.1 q.2.2 u)]
 cases dH mL k with
 | none=>exact⟨rfl,rfl⟩
 | some q=>exact⟨rfl,rfl⟩
def s32d (fc:List CP) (ok:Bool) (b1:reader) (t:Token):bF DD:=⟨[(0,.n (.p (.ptr 1 0))),(2,.n (.p (.ptr 102 0))),(4,.n (.p (.ptr 104 0))),(5,.n (.p (.ptr 105 0))),(6,.n (.d .bool ok))],[(1,.box 85 (.st .reader) b1),(102,.box 48 (.st .aA) mH),(104,.box 91 (.st .Token) t),(105,.raw (.box 143 fc))],[]⟩
def Dh (F:Nat) (f:Nat) (b:reader) (x:aA):Option ((reader×aA)⊕Problem):=if f=71 then kz F b x else if f=74 then jw F b x else if f=76 then iN F b x else if f=77 then ky F b x else none
def qB (q:Int×Int×Nat) (t:Token):aA:={ mH with Kind:=q.1,Op:=q.2.1,At:=t.At }
def gr (F:Nat) (b1:reader):Option ((aA×reader)⊕Problem) :=
 Option.bind (az F b1) fun t=>match dH mL t.S with
  | none=>Option.bind (aP F 280 b1) (bt (fun p=>some (.inr p)) fun _=>none)
  | some q=>if t.Kind=1 then Option.bind (Dh F q.2.2 { b1 with pos:=i64.wrap (b1.pos+1) } (qB q t)) (bt (fun p=>some (.inr p)) fun y=>some (.inl (y.2,y.1)))
   else Option.bind (aP F 280 b1) (bt (fun p=>some (.inr p)) fun _=>none)
def s32e (q:Int×Int×Nat) (u:Value) (b2:reader) (t:Token):bF DD:=⟨[(0,.n (.p (.ptr 1 0))),(2,.n (.p (.ptr 102 0))),(4,.n (.p (.ptr 104 0))),(5,.n (.p (.ptr 105 0)))],[(1,.box 85 (.st .reader) b2),(102,.box 48 (.st .aA) mH),(104,.box 91 (.st .Token) t),(105,.raw (.box 143 (xQ u (some q))))],[]⟩
def s32f (q:Int×Int×Nat) (u:Value) (b2:reader) (t:Token):bF DD:=⟨[(72,.n (.d (.int .i64) q.1)),(74,.n (.d (.int .i64) q.2.1)),(0,.n (.p (.ptr 1 0))),(2,.n (.p (.ptr 102 0))),(4,.n (.p (.ptr 104 0))),(5,.n (.p (.ptr 105 0)))],[(1,.box 85 (.st .reader) b2),(102,.box 48 (.st .aA) mH),(104,.box 91 (.st .Token) t),(105,.raw (.box 143 (xQ u (some q))))],[]⟩
def s32g (q:Int×Int×Nat) (u:Value) (b2:reader) (t:Token):bF DD:=⟨[(0,.n (.p (.ptr 1 0))),(2,.n (.p (.ptr 102 0))),(5,.n (.p (.ptr 105 0))),(7,.n (.p (.ptr 107 0)))],[(1,.box 85 (.st .reader) b2),(102,.box 48 (.st .aA) mH),(105,.raw (.box 143 (xQ u (some q)))),(107,.box 48 (.st .aA) (qB q t))],[]⟩
def s32h (f:Nat) (b2:reader) (x:aA):bF DD:=⟨[(79,.n (.p (.cI f [.ptr 1 0] []))),(0,.n (.p (.ptr 1 0))),(2,.n (.p (.ptr 102 0))),(7,.n (.p (.ptr 107 0)))],[(1,.box 85 (.st .reader) b2),(102,.box 48 (.st .aA) mH),(107,.box 48 (.st .aA) x)],[]⟩
def F3:Nat->Code->Code
 | 0,c=>c
 | n+1,.seq _ b=>F3 n b
 | _,c=>c
theorem EP {F:Nat} {b1:reader} {r:(aA×reader)⊕Problem} {Q:bG} (h:gr F b1=some r) (hR:∀ x b,r=.inl (x,b)->Fin E ⟨82,[1],[1],[]⟩ .ret ⟨[(2,.b (.ptr 102 0))],[(1,.box 85 (rK b)),(102,.box 48 (n3 x))]⟩ Q) (hP:∀ p,r=.inr p->zn E ⟨82,[1],[1],[]⟩ pk p ⟨[],[],[]⟩ Q):ah Tryz.prog E ⟨82,[1],[1],[]⟩ ((Tryz.f29.body).getD .skip) (s32 b1).st Q:=by
 obtain⟨t,ht,h1⟩:=aK h
 have b0:aP F 280 b1=some (.inr ⟨t.At,280⟩):=by unfold aP;rw[ht];rfl
 refine ah.seq (denS (fr:=BW) (F:=F) (G:=[]) (an:=.no) (s1:=s32a b1) rfl rfl trivial (m:=some (s32a b1)) (by kernel_rfl) rfl (Fin.then ?_))
 refine ah.seq (ah.ae ?_)
 refine Oc (vG (k:=108) Tryz.underlying144 rfl rfl) ?_
 refine aj.aF (S1 (E.ρ0 1) b1 mH []) rfl ?_
 refine iI List.mem_cons_self (by decide) (by decide) (by decide) (by decide) (by decide) rfl (by decide) ?_
 refine iI List.mem_cons_self (by decide) (by decide) (by decide) (by decide) (by decide) rfl (by decide) ?_
 refine iI List.mem_cons_self (by decide) (by decide) (by decide) (by decide) (by decide) rfl (by decide) ?_
 refine iI List.mem_cons_self (by decide) (by decide) (by decide) (by decide) (by decide) rfl (by decide) ?_
 refine iI List.mem_cons_self (by decide) (by decide) (by decide) (by decide) (by decide) rfl (by decide) ?_
 refine iI List.mem_cons_self (by decide) (by decide) (by decide) (by decide) (by decide) rfl (by decide) ?_
 refine iI List.mem_cons_self (by decide) (by decide) (by decide) (by decide) (by decide) rfl (by decide) ?_
 refine iI List.mem_cons_self (by decide) (by decide) (by decide) (by decide) (by decide) rfl (by decide) ?_
 refine iI List.mem_cons_self (by decide) (by decide) (by decide) (by decide) (by decide) rfl (by decide) ?_
 refine iI List.mem_cons_self (by decide) (by decide) (by decide) (by decide) (by decide) rfl (by decide) ?_
 refine iI List.mem_cons_self (by decide) (by decide) (by decide) (by decide) (by decide) rfl (by decide) ?_
 refine iI List.mem_cons_self (by decide) (by decide) (by decide) (by decide) (by decide) rfl (by decide) ?_
 refine Oc om (Oc oa (aj.aS (s32b (E.ρ0 1) b1).st rfl ?_))
 refine ah.seq (denS (fr:=BW) (F:=F) (G:=[aU F]) (an:=.no) (s1:=s32c (E.ρ0 1) b1 t) rfl rfl ⟨bg F,trivial⟩ (m:=(az F b1).bind fun t=>some (s32c (E.ρ0 1) b1 t)) (by kernel_rfl) (by rw[ht];rfl) (Fin.then ?_))
 obtain⟨hg1,hg2⟩:=Jv (E.ρ0 1) t.S
 refine ah.seq (ah.ae ?_)
 refine Oc om (Oc (ay (ft:=9) ⟨⟨_,_,Tryz.t9,Tryz.underlying91,rfl,rfl,rfl,by kernel_rfl,by decide⟩⟩ rfl rfl) (Oc (aJ (p:=.str t.S) ⟨⟨_,Tryz.underlying9,rfl⟩,⟨Tryz.t9,by kernel_rfl,by kernel_rfl⟩⟩ rfl rfl rfl) (Oc (AG (Aj Tryz.underlying9) KS (l:=vz (E.ρ0 1)) (k:=t.S) (j:=108) rfl rfl rfl hg1) ?_)))
 refine Oc om (Oc (cL (i:=0) rfl rfl) (Oc (cL (i:=1) rfl rfl) (Oc (cD (k:=105) (zs:=[.int .i64 0,.int .i64 0,.raw .nilFunc]) ⟨Tryz.t143,_,by kernel_rfl,rfl,rfl⟩ rfl rfl) ?_)))
 refine Oc (aX (ps':=xQ (E.ρ0 1) (dH mL t.S)) (m:=3) ⟨⟨_,Tryz.underlying143,rfl⟩,⟨Tryz.t143,by kernel_rfl,by kernel_rfl⟩⟩ rfl rfl rfl ?_ (by decide) ?_) (Oc oa (aj.aS (s32d (xQ (E.ρ0 1) (dH mL t.S)) (dH (vz (E.ρ0 1)) t.S).isSome b1 t).st rfl ?_))
 cases dH mL t.S<;>rfl
 cases dH mL t.S<;>rfl
 rw[hg2]
 have h2:∃ r1:Unit⊕Problem,(if ((!(dH mL t.S).isSome)||decide (t.Kind≠(1:Int)))=true then Option.bind (aP F 280 b1) (bt (fun p=>some (.inr p)) fun _=>some (.inl ())) else some (.inl ()))=some r1/\(∀ p,r1=.inr p->r=.inr p)/\(∀ z,r1=.inl z->∃ q,dH mL t.S=some q/\Option.bind (Dh F q.2.2 { b1 with pos:=i64.wrap (b1.pos+1) } (qB q t)) (bt (fun p=>some (.inr p)) fun y=>some (.inl (y.2,y.1)))=some r):=by
  rw[b0] at h1 ⊢
  cases hq:dH mL t.S with
  | none=>
   rw[hq] at h1
   cases h1
   exact⟨.inr ⟨t.At,280⟩,rfl,fun p hp=>(by cases hp;rfl),fun z hz=>(by cases hz)⟩
  | some q=>
   rw[hq] at h1
   by_cases hk:t.Kind=1
   simp only[hk,if_true] at h1
   exact⟨.inl (),by simp[hk],fun p hp=>(by cases hp),fun z _=>⟨q,rfl,h1⟩⟩
   simp only[if_neg hk] at h1
   cases h1
   exact⟨.inr ⟨t.At,280⟩,by simp[hk,bt],fun p hp=>(by cases hp;rfl),fun z hz=>(by cases hz)⟩
 obtain⟨r1,h3,h4,h5⟩:=h2
 refine ah.seq (CZ (fr:=BW) (F:=F) (G:=[bJ F]) (an:=.no) (cs:=⟨[0,2,4,5],[1,102,104,105],[]⟩) (ks:=[]) rfl rfl ⟨bV F,trivial⟩ rfl (m:=(if ((!(dH mL t.S).isSome)||decide (t.Kind≠(1:Int)))=true then Option.bind (aP F 280 b1) (bt (fun p=>some (.inr p)) fun _=>some (.inl ())) else some (.inl ()))) (by kernel_rfl) h3 (fun z hz=>Fin.then ?_) (fun p hp=>ll (hP p (h4 p hp))))
 obtain⟨q,hq,h6⟩:=h5 z hz
 rw[hq]
 refine ah.seq (CZ (fr:=BW) (F:=F) (G:=[]) (an:=.no) (cs:=⟨[0,2,4,5],[102,104,105],[]⟩) (ks:=[.b 1 85 (.st .reader)]) rfl rfl trivial rfl (r:=.inl ({ b1 with pos:=i64.wrap (b1.pos+1) }:reader)) (m:=some (.inl ({ b1 with pos:=i64.wrap (b1.pos+1) }:reader))) (by kernel_rfl) rfl (fun z hz=>Fin.then ?_) (fun p hp=>by cases hp))
 cases hz
 generalize hb2:({ b1 with pos:=i64.wrap (b1.pos+1) }:reader)=b2 at h6 ⊢
 refine ah.aF (s32e q (E.ρ0 1) b2 t).st rfl ?_
 have f0:eT Tryz.prog 143 0 0 3:=⟨⟨_,_,Tryz.t3,Tryz.underlying143,rfl,rfl,rfl,by kernel_rfl,by decide⟩⟩
 have f1:eT Tryz.prog 143 1 1 3:=⟨⟨_,_,Tryz.t3,Tryz.underlying143,rfl,rfl,rfl,by kernel_rfl,by decide⟩⟩
 have f2:eT Tryz.prog 143 2 2 141:=⟨⟨_,_,Tryz.t141,Tryz.underlying143,rfl,rfl,rfl,by kernel_rfl,by decide⟩⟩
 have o3:c8 Tryz.prog 3:=⟨⟨_,Tryz.underlying3,rfl⟩,⟨Tryz.t3,by kernel_rfl,by kernel_rfl⟩⟩
 have b3:c8 Tryz.prog 141:=⟨⟨_,Tryz.underlying141,rfl⟩,⟨Tryz.t141,by kernel_rfl,by kernel_rfl⟩⟩
 refine ah.seq (ah.ae ?_)
 refine Oc (ay f0 rfl rfl) (Oc (aJ (p:=.int .i64 q.1) o3 rfl rfl rfl) (Oc (ay f1 rfl rfl) (Oc (aJ (p:=.int .i64 q.2.1) o3 rfl rfl rfl) ?_)))
 refine aj.aF (s32f q (E.ρ0 1) b2 t).st rfl ?_
 refine JO (fr:=BW) (cs:=⟨[0,2,5],[1,102,105],[]⟩) (ps:=[(7,107)]) (ks:=[.b 107 48 (.st .aA)]) (z:=qB q t) rfl rfl (G:=[]) trivial (by kernel_rfl) (Fin.then ?_)
 refine ah.aF (s32g q (E.ρ0 1) b2 t).st rfl ?_
 refine ah.seq (ah.ae ?_)
 refine Oc (ay f2 rfl rfl) (Oc (aJ (p:=.raw (.func (.func q.2.2) #[E.ρ0 1] #[])) b3 rfl rfl rfl) ?_)
 refine aj.preR (fun ac w hr=>ofRaw (a:=79) (k:=1) (f:=q.2.2) List.mem_cons_self rfl rfl hr) ?_
 refine aj.aF (s32h q.2.2 b2 (qB q t)).st rfl ?_
 obtain⟨v,hv,h7⟩:=aK h6
 have hPv:∀ p,v=.inr p->zn E ⟨82,[1],[1],[]⟩ pk p ⟨[],[],[]⟩ Q:=fun p e=>by subst e;cases h7;exact hP p rfl
 have key:∀ f z,v=.inl z->ah Tryz.prog E ⟨82,[1],[1],[]⟩ (F3 8 ((Tryz.f29.body).getD .skip)) (F2 (s32h f b2 (qB q t)) ⟨[0,2,7],[102],[]⟩ [.b 1 85 (.st .reader),.b 107 48 (.st .aA)] z).st Q:=fun f z e=>by
  subst e
  cases h7
  refine ah.seq (CZ (fr:=BW) (F:=F) (G:=[]) (an:=.no) (cs:=⟨[2],[1],[]⟩) (ks:=[.b 102 48 (.st .aA)]) rfl rfl trivial rfl (r:=.inl z.2) (m:=some (.inl z.2)) (by kernel_rfl) rfl (fun x hx=>Fin.then ?_) (fun p hp=>by cases hp))
  cases hx
  exact ah.ret (Fin.aF _ rfl (hR z.2 z.1 rfl))
 unfold Dh at hv
 split at hv
 next e=>
  rw[e]
  exact IM (fr:=BW) (cs:=⟨[0,2,7],[102],[]⟩) (ks:=[.b 1 85 (.st .reader),.b 107 48 (.st .aA)]) (G:=[(oF F).sw 2 107]) (r:=v) (m:=Option.bind (kz F b2 (qB q t)) (bt (fun p=>some (.inr p)) fun x=>some (.inl x))) rfl rfl ⟨(uO F).sw 2 107,trivial⟩ rfl (by kernel_rfl) (by rw[hv];cases v<;>rfl) (fun z e=>Fin.then (key 75 z e)) (fun p e=>ll (hPv p e))
 split at hv
 next e=>
  rw[e]
  exact IM (fr:=BW) (cs:=⟨[0,2,7],[102],[]⟩) (ks:=[.b 1 85 (.st .reader),.b 107 48 (.st .aA)]) (G:=[(nS F).sw 2 107]) (r:=v) (m:=Option.bind (jw F b2 (qB q t)) (bt (fun p=>some (.inr p)) fun x=>some (.inl x))) rfl rfl ⟨(tS F).sw 2 107,trivial⟩ rfl (by kernel_rfl) (by rw[hv];cases v<;>rfl) (fun z e=>Fin.then (key 78 z e)) (fun p e=>ll (hPv p e))
 split at hv
 next e=>
  rw[e]
  exact IM (fr:=BW) (cs:=⟨[0,2,7],[102],[]⟩) (ks:=[.b 1 85 (.st .reader),.b 107 48 (.st .aA)]) (G:=[(mC F).sw 2 107]) (r:=v) (m:=Option.bind (iN F b2 (qB q t)) (bt (fun p=>some (.inr p)) fun x=>some (.inl x))) rfl rfl ⟨(sU F).sw 2 107,trivial⟩ rfl (by kernel_rfl) (by rw[hv];cases v<;>rfl) (fun z e=>Fin.then (key 80 z e)) (fun p e=>ll (hPv p e))
 split at hv
 next e=>
  rw[e]
  exact IM (fr:=BW) (cs:=⟨[0,2,7],[102],[]⟩) (ks:=[.b 1 85 (.st .reader),.b 107 48 (.st .aA)]) (G:=[(oE F).sw 2 107]) (r:=v) (m:=Option.bind (ky F b2 (qB q t)) (bt (fun p=>some (.inr p)) fun x=>some (.inl x))) rfl rfl ⟨(uN F).sw 2 107,trivial⟩ rfl (by kernel_rfl) (by rw[hv];cases v<;>rfl) (fun z e=>Fin.then (key 81 z e)) (fun p e=>ll (hPv p e))
 cases hv
def jD (F:Nat):bL DD pk:=⟨29,[.k],[.p (.ptr 1 0)],[1],[.b 85 (.st .reader)],[.st .aA],false,true,false,false,fun a l=>gr F l.1⟩
theorem tR (F:Nat):av Tryz.prog (ax mx) (jD F):=by
 refine⟨⟨Tryz.call29⟩,⟨(by decide:[1].Nodup),rfl⟩,fun a l r hr=>?_⟩
 obtain⟨b1,u⟩:=l
 have hr:gr F b1=some r:=hr
 cases r with
 | inl y=>
  refine aI.intro 82 Tryz.func29 Tryz.ntmps29 rfl (show [BV.ptr 1 0].length<=82 by decide) fun E=>?_
  refine EP (E:=E) hr (fun x b e=>?_) (fun p e=>by cases e)
  cases e
  have hl:(n3 x).length=DD.n .aA:=DD.len .aA x
  exact Fin.kW [(1,.box 85 (rK b))] [.agg (n3 x)] (.inl rfl) rfl (.cons (.agg (m:=DD.n .aA) ((BB (mx:=mx)).tok 48 (.st .aA) rfl) rfl rfl (by rw[List.drop_zero,← hl,List.take_length]) hl) .nil) (fun p hp=>List.mem_cons.2 (.inl (List.mem_singleton.1 hp))) ⟨rfl,rfl⟩
 | inr p=>
  show ig _ _ _ _ _ _ _
  refine eV.intro 82 Tryz.func29 Tryz.ntmps29 rfl (show [BV.ptr 1 0].length<=82 by decide) fun E=>?_
  refine EP (E:=E) hr (fun x b e=>by cases e) (fun p' e=>?_)
  cases e
  exact fun hok=>Fin.qC ⟨rfl,hok⟩
end
end Go.Dn
namespace Go.Dn
open Go Go.Sk
open X
def nA (F:Nat) (sign:Str) (b1:reader):Option (((List aW)×reader)⊕Problem):=Option.bind (iter F (fun (x2:reader×(List aW))=>(Option.bind (au F sign x2.1) fun x3=>(if (!x3.1)=true then Option.bind (nC F x3.2) (bt (fun p=>some (.inr (.inr p))) fun x5=>Option.bind (bT x2.2 ([x5.1]:List aW)) fun x7=>some (.inl (x5.2,x7))) else some (.inr (.inl (x3.2,x2.2)))):Option ((reader×(List aW))⊕((reader×(List aW))⊕Problem)))) (b1,([]:List aW))) (cy (fun x8=>some (.inl (x8.2,x8.1))) (fun x9=>some (.inr x9)))
def h28 (F:Nat) (z:reader×Source×List aA):Option ((reader×Source×List aA)⊕Problem):=Option.bind (gr F z.1) (bt (fun p=>some (.inr p)) fun x8=>Option.bind (bT z.2.2 ([mH]:List aA)) fun x9=>Option.bind (aD x9 (z.2.2.length:Int)) fun _=>Option.bind (aD x9 (z.2.2.length:Int)) fun _=>some (.inl (x8.2,z.2.1,x9.set ((z.2.2.length:Int)).toNat x8.1)))
def j8 (F:Nat) (b1:reader) (b2:Source) (b3:List aA):Option ((reader×Source×(List aA))⊕Problem):=Option.bind (aG F ([([121,97,114,100]:Str),([123]:Str)]:List Str) b1) (bt (fun p=>some (.inr p)) fun x2=>Option.bind (nA F ([125]:Str) x2) (bt (fun p=>some (.inr p)) fun x3=>Option.bind (iter F (fun (x4:reader×Source×(List aA))=>((if (decide (x4.1.pos<(x4.1.l.length:Int)))=true then Option.bind (h28 F (x4.1,x4.2.1,x4.2.2)) (bt (fun p=>some (.inr (.inr p))) fun x7=>some (.inl (x7.1,x7.2.1,x7.2.2))) else some (.inr (.inl (x4.1,x4.2.1,x4.2.2)))):Option ((reader×Source×(List aA))⊕((reader×Source×(List aA))⊕Problem)))) (x3.2,(⟨x3.1,b2.Code⟩:Source),b3)) (cy (fun x8=>some (.inl (x8.1,x8.2.1,x8.2.2))) (fun x9=>some (.inr x9)))))
end Go.Dn
namespace Go.Dn
open Go Go.Sk Go.Proofs
open X
set_option maxRecDepth 100000
variable {mx:Int}
def jC (F:Nat):bL DD pk:=⟨27,[.k,.d (.str),.k],[.p (.ptr 1 0),.p (.cI 28 [.ptr 1 0] [])],[1],[.b 85 (.st .reader)],[.sl (.st .aW)],false,true,false,false,fun a l=>nA F a.1 l.1⟩
theorem tP (F:Nat):av Tryz.prog (ax mx) (jC F):=ak (B0:=BB) (L:=LL) (G:=[aV F,gD F]) 18 ⟨Tryz.call27⟩ Tryz.func27 Tryz.ntmps27 rfl (zab rfl) rfl ⟨bh F,tT F,trivial⟩ (.two (.no) (.two (.no) (.two (.loop ⟨[0,1,2],[],[(7,107)]⟩ [.b 1 85 (.st .reader),.r 107 55 (.st .aW)] [(.x (some 0),[.b 1 85 (.st .reader),.r 107 55 (.st .aW)]),(.iD,[])] (.no)) (.no)))) [7] F fun a l=>by kernel_rfl
def ka (F:Nat):bL DD pk:=⟨25,[.k,.k],[.p (.ptr 1 0),.p (.ptr 2 0)],[1,2,3],[.b 85 (.st .reader),.x 51 .Source,.r 48 (.st .aA)],[],false,true,false,false,fun a l=>j8 F l.1 l.2.1 l.2.2.1⟩
theorem h28_lin (F:Nat):HF (BB (mx:=mx)) LL [bx F,jC F,jD F] ⟨30,JJ (ka F).ks (ka F).ls,[]⟩ (regOf 3 Tryz.f25) [(0,1),(1,2)] [(0,1),(1,2)] [.b 1 85 (.st .reader),.x 2 51 .Source 3,.r 3 48 (.st .aA)] [.b 1 85 (.st .reader),.x 2 51 .Source 3,.r 3 48 (.st .aA)] .Problem (h28 F):=Ib (pk:=pk) [[],[0],[],[2],[1],[],[1,5,3,0,1,2,3,4,5],[6,4,0,1,2,3,4,5,6],[7,3,6,0,1,2,3,4,5,6],[0,1,2,3,4,5,6],[9,6,6,0,1,2,3,4,5,6]] (by kernel_rfl) (fun _=>h28 F) (fun _ _=>rfl) (fun z0=>by kernel_rfl)
theorem yE (F:Nat):av Tryz.prog (ax mx) (ka F):=DO (B0:=BB (mx:=mx)) (L:=LL) (G:=[bx F,jC F,jD F]) 30 ⟨Tryz.call25⟩ Tryz.func25 Tryz.ntmps25 rfl (zab rfl) rfl ⟨bQ F,tP F,tR F,trivial⟩ (.two (.no) (.two (.no) (.loop ⟨[0,1],[],[]⟩ [.b 1 85 (.st .reader),.x 2 51 .Source 3,.r 3 48 (.st .aA)] [(.x (some 0),[.b 1 85 (.st .reader),.x 2 51 .Source 3,.r 3 48 (.st .aA)]),(.iD,[])] (.two (.two (.iE [⟨0,[0],[]⟩,⟨1,[11],[]⟩,⟨2,[12],[]⟩,⟨3,[13],[1]⟩,⟨4,[0],[]⟩,⟨5,[15],[]⟩,⟨6,[16],[]⟩,⟨7,[17],[1]⟩,⟨8,[18],[]⟩] [9] []) (.no)) (.lin [(0,1),(1,2)] [(0,1),(1,2)] [.b 1 85 (.st .reader),.x 2 51 .Source 3,.r 3 48 (.st .aA)] [.b 1 85 (.st .reader),.x 2 51 .Source 3,.r 3 48 (.st .aA)] .Problem (h28 F)))))) [] F (fun a l=>by kernel_rfl) ⟨(bU _ rfl),⟨(bU _ rfl),⟨(bU _ rfl),(h28_lin (mx:=mx) F)⟩⟩⟩
end Go.Dn
namespace Go.Dn
open Go Go.Sk Go.Proofs X
set_option maxRecDepth 100000
section
variable {P:Program} {TB:aH} {E:Env TB} {n:Sh} {s:St} {dst:Option Nat} {t ty yt:TypeId} {pos:String} {after:Array Edge} {g:Option (Nat×Bool)} {x y:Operand}
theorem BD {T st:TypeId} {ps:List CP} {d:TypeDesc} (hu:P.underlying T=some d) (hd:(match d with|.interface _=>false|_=>true)=true) (hx:s.ev x=some (.b (.one (.zi T ps)))):aQ P E n ⟨dst,.typeAssert x st T true,ty,pos,after,g⟩ s (s.put n dst (.lC [.agg ps,.one (.bool true)])) :=
 aQ.val (o:=⟨dst,.typeAssert x st T true,ty,pos,after,g⟩) fun ac w h ρ hw hs=>by
  obtain⟨cs,e,hc⟩:=(aE hs hx:(CP.zi _ _).rel h _)
  refine⟨.tuple #[.agg cs,.bool true],?_,_,rfl,.cons ⟨cs,rfl,hc⟩ (.cons rfl .nil)⟩
  simp only[execOp,e]
  unfold Instr.typeAssert
  rw[Sem.run_bind,Sem.run_bind,run_underlying hu]
  cases d<;>simp at hd<;>simp[Result.andThen]
theorem BC {T st:TypeId} {zs:List CP} {d:TypeDesc} {i:TypeInfo} {z:Value} (hu:P.underlying T=some d) (hd:(match d with|.interface _=>false|_=>true)=true) (hi:P.info? T=some i) (hz:i.zero=some z) (hzs:∀ h ρ,(BV.agg zs).rel h ρ z) (hx:s.ev x=some (.b (.one (.raw .nilIface)))):aQ P E n ⟨dst,.typeAssert x st T true,ty,pos,after,g⟩ s (s.put n dst (.lC [.agg zs,.one (.bool false)])) :=
 aQ.val (o:=⟨dst,.typeAssert x st T true,ty,pos,after,g⟩) fun ac w h ρ hw hs=>by
  have hv:ac.eval x=.nilIface:=(aE hs hx:(CP.raw _).rel h _).1
  refine⟨.tuple #[z,.bool false],?_,_,rfl,.cons (hzs h ρ) (.cons rfl .nil)⟩
  simp only[execOp,hv]
  unfold Instr.typeAssert
  rw[Sem.run_bind,Sem.run_bind,run_underlying hu]
  have:=ER (P:=P) (w:=w) hi hz
  cases d<;>simp at hd<;>simp[Result.andThen,this]
theorem Fz {ms:Array (String×TypeId)} (hi:P.underlying t=some (.interface ms)) (hx:s.ev x=some (.b (.one (.raw .nilIface)))):aQ P E n ⟨dst,.binOp .neq t x (.const .nilIface) yt,ty,pos,after,g⟩ s (s.put n dst (B false)) :=
 aQ.val (o:=⟨dst,.binOp .neq t x (.const .nilIface) yt,ty,pos,after,g⟩) fun ac w h ρ hw hs=>by
  have hv:ac.eval x=.nilIface:=(aE hs hx:(CP.raw _).rel h _).1
  refine⟨.bool false,?_,rfl⟩
  have h1:∀ d:Nat,(Op.equalIn (d+1) t .nilIface .nilIface).run P w=.ok true w:=fun d=>by simp[Op.equalIn,run_underlying hi]
  have h2:(Op.equal t .nilIface .nilIface).run P w=.ok true w:=h1 _
  simp only[execOp,hv,show ac.eval (.const .nilIface)=.nilIface from rfl,eqGuard_nil_constR]
  simp[binOp,h2,Result.andThen]
end
section
variable {mx:Int}
def qW (rest found:Problem):Problem:=if (decide (rest.E=0)||decide (found.At<rest.At))=true then found else rest
def lh (rest pr:Problem):List (Nat×OC):=[(107,.box 38 (aR rest)),(104,.box 38 (aR pr))]
def Eu:Fr:=⟨31,[107,104],[]⟩
def s16 (b is:Bool) (rest pr found:Problem):bF DD:=⟨[(12,.n (.d .bool b)),(0,.n (.p (.ptr 107 0))),(1,.n (.p (.ptr 104 0))),(3,.n (.p (.ptr 103 0))),(4,.n (.d .bool is))],[(107,.box 38 (.st .Problem) rest),(104,.box 38 (.st .Problem) pr),(103,.box 38 (.st .Problem) found)],[]⟩
def s16c (is:Bool) (rest pr found:Problem):bF DD:=⟨[(0,.n (.p (.ptr 107 0))),(1,.n (.p (.ptr 104 0))),(3,.n (.p (.ptr 103 0))),(4,.n (.d .bool is))],[(107,.box 38 (.st .Problem) rest),(104,.box 38 (.st .Problem) pr),(103,.box 38 (.st .Problem) found)],[]⟩
def s16e (is:Bool) (rest pr found:Problem):bF DD:=⟨[(18,.n (.d .bool is)),(0,.n (.p (.ptr 107 0))),(1,.n (.p (.ptr 104 0))),(3,.n (.p (.ptr 103 0)))],[(107,.box 38 (.st .Problem) rest),(104,.box 38 (.st .Problem) pr),(103,.box 38 (.st .Problem) found)],[]⟩
theorem a33:gM Tryz.prog 38 2:=⟨⟨_,Tryz.underlying38,rfl⟩,⟨Tryz.t38,by kernel_rfl,by kernel_rfl⟩⟩
theorem z33:rE Tryz.prog 38 [.int .i64 0,.int .i64 0]:=⟨Tryz.t38,_,by kernel_rfl,rfl,rfl⟩
theorem Bf {rest pr found:Problem} (hok:pk.ok found):rL Tryz.prog (ax mx) 32 (lh rest pr) [.ptr 107 0,.ptr 104 0] (pk.pv found) (lh rest (qW rest found)):=by
 refine rL.intro (z:=.one (.zi 38 (aR found))) 31 Tryz.func32 Tryz.ntmps32 rfl (by decide) (by decide) (by decide) (fun h ρ=>⟨_,rfl,.cons ⟨rfl,hok.1⟩ (.cons ⟨rfl,hok.2⟩ .nil)⟩) fun E=>?_
 show ah _ E ⟨31,[107,104],[107,104],[]⟩ _ ⟨[(2,.b (.one (.zi 38 (aR found)))),(0,.b (.ptr 107 0)),(1,.b (.ptr 104 0))],lh rest pr⟩ _
 refine ah.seq (ah.ae ?_)
 refine Oc om (Oc (BD Tryz.underlying38 rfl rfl) (Oc om (Oc (cL (i:=0) rfl rfl) (Oc (cL (i:=1) rfl rfl) (Oc (cD (k:=103) z33 rfl rfl) (Oc (aX (ps':=aR found) a33 rfl rfl rfl rfl (by decide) rfl) (Oc oa ?_)))))))
 refine aj.aS ⟨[(0,.b (.ptr 107 0)),(1,.b (.ptr 104 0)),(2,.b (.one (.zi 38 (aR found)))),(3,.b (.ptr 103 0)),(4,B true)],[(107,.box 38 (aR rest)),(104,.box 38 (aR pr)),(103,.box 38 (aR found))]⟩ rfl ?_
 refine ah.seq (ah.seq (ah.ae ?_))
 refine Oc om (Oc (Bj Tryz.underlying20 rfl) (aj.aF (s16 true true rest pr found).st rfl ?_))
 refine IM (fr:=Eu) (cs:=⟨[0,1,3,4],[107,104,103],[]⟩) (ks:=[.s 16 .bool]) (G:=[]) (r:=.inl false) (m:=some (.inl false)) rfl rfl trivial rfl (by kernel_rfl) rfl (fun z hz=>Fin.then ?_) (fun p hp=>by cases hp)
 cases hz
 refine CZ (fr:=Eu) (F:=0) (G:=[]) (an:=.no) (cs:=⟨[0,1,3,4],[107,104,103],[]⟩) (ks:=[]) (r:=.inl ()) (m:=some (.inl ())) rfl rfl trivial rfl (by kernel_rfl) rfl (fun z hz=>Fin.then ?_) (fun p hp=>by cases hp)
 refine ah.aF (s16c true rest pr found).st rfl ?_
 have hc:(if (decide (rest.E=0)||decide (found.At<rest.At))=true then some (.inl found) else some (.inl rest):Option (PT DD [.b 104 38 (.st .Problem)]⊕Problem))=some (.inl (qW rest found)):=by unfold qW;split<;>rfl
 refine ah.seq (CZ (fr:=Eu) (F:=0) (G:=[]) (an:=.no) (cs:=⟨[0,1,3],[107,104,103],[]⟩) (ks:=[.s 18 .bool]) (r:=.inl true) (m:=some (.inl true)) rfl rfl trivial rfl (by kernel_rfl) rfl (fun z hz=>Fin.then ?_) (fun p hp=>by cases hp))
 cases hz
 refine ah.aF (s16e true rest pr found).st rfl ?_
 refine CZ (fr:=Eu) (F:=0) (G:=[]) (an:=.no) (cs:=⟨[0,1],[107],[]⟩) (ks:=[.b 104 38 (.st .Problem)]) (r:=.inl (qW rest found)) rfl rfl trivial rfl (by kernel_rfl) hc (fun z hz=>?_) (fun p hp=>by cases hp)
 cases hz
 exact Fin.kW (lh rest (qW rest found)) [] (.inr rfl) rfl .nil (fun p hp=>by
  simp only[lh,List.mem_cons,List.not_mem_nil,or_false] at hp
  rcases hp with rfl|rfl
  exact List.mem_cons_of_mem _ List.mem_cons_self
  exact List.mem_cons_self) ⟨rfl,rfl⟩
theorem Cu {rest pr:Problem}:Av Tryz.prog (ax mx) 32 (lh rest pr) [.ptr 107 0,.ptr 104 0] (lh rest pr):=by
 refine Av.intro 31 Tryz.func32 Tryz.ntmps32 rfl (by decide) (by decide) (by decide) fun E=>?_
 show ah _ E ⟨31,[107,104],[107,104],[]⟩ _ ⟨[(2,.b (.one (.raw .nilIface))),(0,.b (.ptr 107 0)),(1,.b (.ptr 104 0))],lh rest pr⟩ _
 refine ah.seq (ah.ae ?_)
 refine Oc om (Oc (BC (i:=Tryz.t38) Tryz.underlying38 rfl (by kernel_rfl) rfl (fun h ρ=>⟨_,rfl,.cons aa (.cons aa .nil)⟩) rfl) (Oc om (Oc (cL (i:=0) rfl rfl) (Oc (cL (i:=1) rfl rfl) (Oc (cD (k:=103) z33 rfl rfl) (Oc (aX (ps':=[.int .i64 0,.int .i64 0]) a33 rfl rfl rfl rfl (by decide) rfl) (Oc oa ?_)))))))
 refine aj.aS ⟨[(0,.b (.ptr 107 0)),(1,.b (.ptr 104 0)),(2,.b (.one (.raw .nilIface))),(3,.b (.ptr 103 0)),(4,B false)],[(107,.box 38 (aR rest)),(104,.box 38 (aR pr)),(103,.box 38 [.int .i64 0,.int .i64 0])]⟩ rfl ?_
 refine ah.seq (ah.seq (ah.ae ?_))
 refine Oc om (Oc (Fz Tryz.underlying20 rfl) (aj.aF (s16 false false rest pr ⟨0,0⟩).st rfl ?_))
 refine IM (fr:=Eu) (cs:=⟨[0,1,3,4],[107,104,103],[]⟩) (ks:=[.s 16 .bool]) (G:=[]) (r:=.inl false) (m:=some (.inl false)) rfl rfl trivial rfl (by kernel_rfl) rfl (fun z hz=>Fin.then ?_) (fun p hp=>by cases hp)
 cases hz
 refine CZ (fr:=Eu) (F:=0) (G:=[]) (an:=.no) (cs:=⟨[0,1,3,4],[107,104,103],[]⟩) (ks:=[]) (r:=.inl ()) (m:=some (.inl ())) rfl rfl trivial rfl (by kernel_rfl) rfl (fun z hz=>Fin.then ?_) (fun p hp=>by cases hp)
 refine ah.aF (s16c false rest pr ⟨0,0⟩).st rfl ?_
 refine ah.seq (CZ (fr:=Eu) (F:=0) (G:=[]) (an:=.no) (cs:=⟨[0,1,3],[107,104,103],[]⟩) (ks:=[.s 18 .bool]) (r:=.inl false) (m:=some (.inl false)) rfl rfl trivial rfl (by kernel_rfl) rfl (fun z hz=>Fin.then ?_) (fun p hp=>by cases hp))
 cases hz
 refine ah.aF (s16e false rest pr ⟨0,0⟩).st rfl ?_
 refine CZ (fr:=Eu) (F:=0) (G:=[]) (an:=.no) (cs:=⟨[0,1],[107],[]⟩) (ks:=[.b 104 38 (.st .Problem)]) (r:=.inl pr) (m:=some (.inl pr)) rfl rfl trivial rfl (by kernel_rfl) rfl (fun z hz=>?_) (fun p hp=>by cases hp)
 cases hz
 exact Fin.kW (lh rest pr) [] (.inr rfl) rfl .nil (fun p hp=>by
  simp only[lh,List.mem_cons,List.not_mem_nil,or_false] at hp
  rcases hp with rfl|rfl
  exact List.mem_cons_of_mem _ List.mem_cons_self
  exact List.mem_cons_self) ⟨rfl,rfl⟩
end
end Go.Dn
namespace Go.Dn
open Go Go.Sk Go.Proofs X
set_option maxRecDepth 100000
section
variable {mx:Int} {E:Env (ax mx)} {n:Sh} {Q:bG}
theorem xF {fr:Fr} {F:Nat} {c:Code} {an:An DD} {s:bF DD} {cs:Kept} {ps:List (Nat×Nat)} {ks:List (Pl DD)} {m:Option (PT DD ks)} {z:PT DD ks} {G:List (bL DD pk)} (hn:n.n=fr.n) (hf:n.fix=fr.fx) (hG:F0 Tryz.prog (ax mx) G) (h:ib (BB (mx:=mx)) LL G fr F c an (cs.add ⟨[],[],[]⟩) s (fun s'=>if rq s' ps=true then pj s' cs.r ks else none) (fun _ _=>none) (fun _ _=>none)=m) (hm:m=some z) (hr:Fin E n .normal (embQ s cs ps ks z).st Q) (hh:mJ an=true:=by rfl):ah Tryz.prog E n c s.st Q :=
 iY hn hf hG c an (bU c hh) (cs.add ⟨[],[],[]⟩) s _ _ _ z Q (h.trans hm) (fun s' he e=>by
  split at e
  next hp=>exact fun a w hR=>hr a w (Gz hp e he hR)
  cases e) (fun t s' _ e=>by cases e) (fun p ow e=>by cases e)
theorem denW {fr:Fr} {F:Nat} {c:Code} {an:An DD} {s:bF DD} {cs:Kept} {ps ps2:List (Nat×Nat)} {ks ks2:List (Pl DD)} {m:Option (PT DD ks⊕PT DD ks2)} {r:PT DD ks⊕PT DD ks2} {G:List (bL DD pk)} (hn:n.n=fr.n) (hf:n.fix=fr.fx) (hG:F0 Tryz.prog (ax mx) G) (h:ib (BB (mx:=mx)) LL G fr F c an (cs.add ⟨[],[],[]⟩) s (fun s'=>if rq s' ps=true then (pj s' cs.r ks).bind fun z=>some (.inl z) else none) (fun t s'=>match t with
  | none=>if rq s' ps2=true then (F1 s' ks2).bind fun z=>some (.inr z) else none
  | some _=>none) (fun _ _=>none)=m) (hm:m=some r) (hr:∀ z,r=.inl z->Fin E n .normal (embQ s cs ps ks z).st Q) (hr2:∀ z,r=.inr z->Fin E n .ret (shp ps2 ks2 z).st Q) (hh:mJ an=true:=by rfl):ah Tryz.prog E n c s.st Q :=
 iY hn hf hG c an (bU c hh) (cs.add ⟨[],[],[]⟩) s _ _ _ r Q (h.trans hm) (fun s' he e=>by
  split at e
  next hp=>
   obtain⟨z,hz,e1⟩:=aK e
   cases e1
   exact fun a w hR=>hr z rfl a w (Gz hp hz he hR)
  cases e) (fun t s' _ e=>by
  cases t with
  | none=>
   simp only at e
   split at e
   next hp=>
    obtain⟨z,hz,e1⟩:=aK e
    cases e1
    exact fun a w hR=>hr2 z rfl a w (Ab hp hz hR)
   cases e
  | some i=>cases e) (fun p ow e=>by cases e)
end
def zK (F:Nat) (l:List Token) (s:Str):Option (Problem×reader):=Option.bind (ni F l) fun x4=>(if (decide (x4<(l.length:Int)))=true then Option.bind (s4 l x4) fun x7=>Option.bind (aD l x4) fun x8=>Option.bind (aD l x4) fun x9=>some ((⟨x9.At,(2:Int)⟩:Problem),(⟨x7,(0:Int),x8.At⟩:reader)) else some ((⟨(0:Int),(0:Int)⟩:Problem),(⟨l,(0:Int),(s.length:Int)⟩:reader)))
def Dl (F:Nat) (s:Str):Option (Problem⊕(Problem×reader)):=Option.bind (cP F s) fun x1=>if x1.2.E≠0 then some (.inl x1.2) else Option.bind (zK F x1.1 s) fun x=>some (.inr x)
def tz (F:Nat) (rd:reader) (b1:ab):Option (ab⊕Problem):=Option.bind (iJ F rd b1) (bt (fun p=>some (.inr p)) fun x11=>(if (decide (x11.1.pos<(x11.1.l.length:Int)))=true then Option.bind (aP F (280:Int) x11.1) (bt (fun p=>some (.inr p)) fun x14=>some (.inl (x11.2))) else some (.inl (x11.2))))
def vD (F:Nat) (s:Str) (b1:ab):Option (Problem×Option ab):=Option.bind (Dl F s) fun q=>match q with
 | .inl p=>some (p,none)
 | .inr x=>Option.bind (tz F x.2 b1) fun y=>match y with
  | .inl v=>some (x.1,some v)
  | .inr p=>some (qW x.1 p,none)
noncomputable def zN (v:ab):List (Nat×OC):=bu (b9 (D:=DD) false [1] [.b 35 (.st .ab)] (v,()))
def wz:Fr:=⟨67,[1],[]⟩
def t6Expr (s:Str) (b1:ab):bF DD:=⟨[(0,.n (.d .str s)),(1,.n (.p (.cI 14 [] [.ptr 1 0])))],[(1,.box 35 (.st .ab) b1)],[]⟩
def t6aExpr (s:Str) (p:Problem) (b1:ab):bF DD:=⟨[(0,.n (.d .str s)),(1,.n (.p (.cI 14 [] [.ptr 1 0]))),(4,.n (.p (.ptr 104 0)))],[(1,.box 35 (.st .ab) b1),(104,.box 38 (.st .Problem) p)],[]⟩
def HW (s:Str) (l:List Token) (p:Problem) (b1:ab):bF DD:=⟨[(0,.n (.d .str s)),(1,.n (.p (.cI 14 [] [.ptr 1 0]))),(4,.n (.p (.ptr 104 0))),(5,.n (.d (.sl (.st .Token)) l))],[(1,.box 35 (.st .ab) b1),(104,.box 38 (.st .Problem) p)],[]⟩
def t6cExpr (s:Str) (l:List Token) (p rest:Problem) (rd:reader) (b1:ab):bF DD:=⟨[(0,.n (.d .str s)),(1,.n (.p (.cI 14 [] [.ptr 1 0]))),(4,.n (.p (.ptr 104 0))),(5,.n (.d (.sl (.st .Token)) l)),(6,.n (.p (.ptr 122 0))),(7,.n (.p (.ptr 107 0)))],[(1,.box 35 (.st .ab) b1),(104,.box 38 (.st .Problem) p),(107,.box 38 (.st .Problem) rest),(122,.box 85 (.st .reader) rd)],[]⟩
def Dg (p rest:Problem) (rd:reader) (b1:ab):bF DD:=⟨[(1,.n (.p (.cI 14 [] [.ptr 1 0]))),(4,.n (.p (.ptr 104 0))),(6,.n (.p (.ptr 122 0))),(7,.n (.p (.ptr 107 0)))],[(1,.box 35 (.st .ab) b1),(104,.box 38 (.st .Problem) p),(107,.box 38 (.st .Problem) rest),(122,.box 85 (.st .reader) rd)],[]⟩
theorem B4 {mx:Int} {F:Nat} {s:Str} {b1:ab} {p:Problem} {o:Option ab} (h:vD F s b1=some (p,o)):aI Tryz.prog (ax mx) 13 (zN b1) [.one (.str s),.cI 14 [] [.ptr 1 0]] (Is (match o with|some v=>zN v|none=>[]) (.b (.agg (aR p)))):=by
 refine aI.Gq 67 Tryz.func13 Tryz.ntmps13 rfl (zab rfl) fun E=>?_
 show ah _ E ⟨67,[1],[1],[]⟩ _ (t6Expr s b1).st _
 obtain⟨q,hq,h1⟩:=aK h
 obtain⟨x1,hx1,h2⟩:=aK hq
 refine ah.seq (xF (fr:=wz) (F:=F) (G:=[]) (an:=.no) (cs:=⟨[0,1],[1],[]⟩) (ps:=[(4,104)]) (ks:=[.b 104 38 (.st .Problem)]) (z:=(⟨0,0⟩:Problem)) (m:=some (⟨0,0⟩:Problem)) rfl rfl trivial (by kernel_rfl) rfl (Fin.then ?_))
 refine ah.aF (t6aExpr s ⟨0,0⟩ b1).st rfl ?_
 refine ah.seq (xF (fr:=wz) (F:=F) (G:=[jt F]) (an:=.no) (cs:=⟨[0,1,4],[1],[]⟩) (ps:=[]) (ks:=[.b 104 38 (.st .Problem),.s 5 (.sl (.st .Token))]) (z:=(x1.2,x1.1)) (m:=(cP F s).bind fun x1=>some (x1.2,x1.1)) rfl rfl ⟨lU F,trivial⟩ (by kernel_rfl) (by rw[hx1];rfl) (Fin.then ?_))
 refine ah.aF (HW s x1.1 x1.2 b1).st rfl ?_
 have hm:(if decide (x1.2.E≠0)=true then some (.inr x1.2) else some (.inl x1.2):Option (PT DD [.b 104 38 (.st .Problem)]⊕PT DD [.b 104 38 (.st .Problem)]))=some (if x1.2.E≠0 then .inr x1.2 else .inl x1.2):=by by_cases hE:x1.2.E=0<;>simp[hE]
 refine ah.seq (denW (fr:=wz) (F:=F) (G:=[]) (an:=.no) (cs:=⟨[0,1,4,5],[1],[]⟩) (ps:=[]) (ks:=[.b 104 38 (.st .Problem)]) (ps2:=[(4,104)]) (ks2:=[.b 104 38 (.st .Problem)]) rfl rfl trivial (by kernel_rfl) hm (fun z hz=>Fin.then ?_) (fun z hz=>?_))
 rotate_left
 ·split at hz
  ·next hE=>
   cases hz
   rw[if_pos hE] at h2
   cases h2
   cases h1
   exact Fin.cw (Fin.retD (.inl rfl) rfl (Fin.kW [] [.agg (aR x1.2)] (.inl rfl) rfl (.cons (.agg a33 rfl rfl rfl rfl) .nil) (fun p hp=>by cases hp) ⟨rfl,rfl⟩))
  ·cases hz
 split at hz
 ·cases hz
 next hE=>
 cases hz
 rw[if_neg hE] at h2
 obtain⟨x,hx,h3⟩:=aK h2
 cases h3
 obtain⟨y,hy,h4⟩:=aK h1
 refine ah.aF (HW s x1.1 x1.2 b1).st rfl ?_
 refine ah.seq (xF (fr:=wz) (F:=F) (G:=[]) (an:=.no) (cs:=⟨[0,1,4,5],[1,104],[]⟩) (ps:=[(6,122),(7,107)]) (ks:=[.b 107 38 (.st .Problem),.b 122 85 (.st .reader)]) (z:=((⟨0,0⟩:Problem),(⟨x1.1,0,(s.length:Int)⟩:reader))) (m:=some ((⟨0,0⟩:Problem),(⟨x1.1,0,(s.length:Int)⟩:reader))) rfl rfl trivial (by kernel_rfl) rfl (Fin.then ?_))
 refine ah.aF (t6cExpr s x1.1 x1.2 ⟨0,0⟩ ⟨x1.1,0,(s.length:Int)⟩ b1).st rfl ?_
 refine ah.seq (xF (fr:=wz) (F:=F) (G:=[qN F]) (an:=.two (.no) (.two (.no) (.two (.two (.iE [⟨0,[6],[]⟩,⟨1,[6],[]⟩,⟨2,[5],[]⟩,⟨3,[8],[]⟩,⟨4,[32,33],[]⟩,⟨5,[5],[]⟩,⟨6,[8],[]⟩,⟨7,[35,36],[]⟩,⟨8,[37],[]⟩,⟨9,[38],[]⟩,⟨10,[30],[]⟩,⟨11,[40],[]⟩,⟨12,[34,41],[122]⟩] [13,14,15] []) (.no)) (.no)))) (cs:=⟨[1,4,6,7],[1,104],[]⟩) (ps:=[]) (ks:=[.b 107 38 (.st .Problem),.b 122 85 (.st .reader)]) (z:=x) (m:=zK F x1.1 s) rfl rfl ⟨vf F,trivial⟩ (by kernel_rfl) hx (Fin.then ?_))
 refine ah.aF (Dg x1.2 x.1 x.2 b1).st rfl ?_
 refine ah.seq (ah.ae (Oc (eH (fs:=[]) (cs:=[.ptr 107 0,.ptr 104 0]) rfl rfl) (aj.defer rfl rfl rfl fun E' vals b0 b2=>aj.aS (Dg x1.2 x.1 x.2 b1).st rfl ?_)))
 have hmS:(Option.bind (iJ F x.2 b1) (bt (fun p=>some (.inr (p,x1.2,x.1))) fun b3=>(if (decide (b3.1.pos<(b3.1.l.length:Int)))=true then Option.bind (aP F (280:Int) b3.1) (bt (fun p=>some (.inr (p,x1.2,x.1))) fun x14=>some (.inl (x.1,x.1,b3.2))) else some (.inl (x.1,x.1,b3.2)))):Option (PT DD [.b 104 38 (.st .Problem),.b 107 38 (.st .Problem),.b 1 35 (.st .ab)]⊕(Problem×PT DD [.b 104 38 (.st .Problem),.b 107 38 (.st .Problem)])))=some (match y with
  | .inl v=>.inl (x.1,x.1,v)
  | .inr p=>.inr (p,x1.2,x.1)):=by
  unfold tz at hy
  cases hrd:iJ F x.2 b1 with
  | none=>rw[hrd] at hy;cases hy
  | some c=>
   rw[hrd] at hy
   cases c with
   | inr p=>cases hy;rfl
   | inl c=>
    simp only[Option.bind_some,bt] at hy ⊢
    split at hy
    ·next hc=>
     rw[if_pos hc]
     cases hf:aP F 280 c.1 with
     | none=>rw[hf] at hy;cases hy
     | some d=>
      rw[hf] at hy
      cases d<;>(cases hy;rfl)
    ·next hc=>
     rw[if_neg hc]
     cases hy
     rfl
 intro a w hr
 refine iY (B0:=BB (mx:=mx)) (L:=LL) (G:=[((sI F).sw 1 122).sw 2 1,(bJ F).sw 1 122]) (F:=F) (fr:=⟨67,[1,104,107,122],[]⟩) rfl rfl ⟨((zB F).sw 1 122).sw 2 1,(bV F).sw 1 122,trivial⟩ _ (.two (.no) (.two (.two (.iE [⟨0,[6],[]⟩,⟨1,[54],[]⟩,⟨2,[55],[]⟩,⟨3,[56],[122]⟩,⟨4,[6],[]⟩,⟨5,[58],[]⟩,⟨6,[59],[]⟩,⟨7,[60],[122]⟩,⟨8,[61],[]⟩] [9] []) (.no)) (.no))) (bU _ rfl) ⟨[],[],[]⟩ (Dg x1.2 x.1 x.2 b1) (fun _=>none) (fun t s'=>match t with
  | none=>if rq s' [(4,104)]=true then (F1 s' [.b 104 38 (.st .Problem),.b 107 38 (.st .Problem),.b 1 35 (.st .ab)]).bind fun z=>some (Sum.inl z) else none
  | some _=>none) (fun p sv=>if rq sv [(4,104)]=true then (F1 sv [.b 104 38 (.st .Problem),.b 107 38 (.st .Problem)]).bind fun z=>some (.inr (p,z)) else none) _ _ (Eq.trans (by kernel_rfl) hmS) (fun s' _ e=>by cases e) (fun t s' _ e=>?_) (fun p' sv e=>?_) a w hr
 ·cases t with
  | some i=>cases e
  | none=>
   simp only at e
   split at e
   ·next hp=>
    obtain⟨z,hz,e1⟩:=aK e
    cases y with
    | inr p'=>cases e1
    | inl v=>
     cases e1
     cases h4
     refine fun a w hR=>Fin.Ff (own_c:=lh x.1 x.1) (own_c':=lh x.1 x.1) (post':=Is (zN v) (.b (.agg (aR x.1)))) b0 b2 Cu (.inl rfl) ⟨Tryz.call32⟩ rfl rfl ⟨rfl,rfl,trivial⟩ rfl rfl (rC rfl rfl rfl rfl) ?_ a w (Ab hp hz hR)
     exact Fin.kW (zN v) [.agg (aR x.1)] (.inl rfl) rfl (.cons (.agg a33 rfl rfl rfl rfl) .nil) (fun p hp=>List.mem_append_left (lh x.1 x.1) hp) ⟨rfl,rfl⟩
   ·cases e
 ·split at e
  ·next hp=>
   obtain⟨z,hz,e1⟩:=aK e
   cases y with
   | inl v=>cases e1
   | inr p0=>
    cases e1
    cases h4
    intro hok
    refine fun a w hR=>Fin.ue (own_c:=lh x.1 x1.2) (own_c':=lh x.1 (qW x.1 p')) (post':=Is [] (.b (.agg (aR (qW x.1 p'))))) b0 b2 (Bf hok) ⟨Tryz.call32⟩ rfl rfl ⟨rfl,rfl,trivial⟩ rfl rfl (rC rfl rfl rfl rfl) ?_ a w (Ab hp hz hR)
    exact Fin.kW [] [.agg (aR (qW x.1 p'))] (.inl rfl) rfl (.cons (.agg a33 rfl rfl rfl rfl) .nil) (fun p hp=>by cases hp) ⟨rfl,rfl⟩
  ·cases e
def w6 (F:Nat) (rd:reader) (b1:Source×List aA):Option ((Source×List aA)⊕Problem):=Option.bind (j8 F rd b1.1 b1.2) (bt (fun p=>some (.inr p)) fun x11=>(if (decide (x11.1.pos<(x11.1.l.length:Int)))=true then Option.bind (aP F (280:Int) x11.1) (bt (fun p=>some (.inr p)) fun x14=>some (.inl (x11.2))) else some (.inl (x11.2))))
def yS (F:Nat) (s:Str) (b1:Source×List aA):Option (Problem×Option (Source×List aA)):=Option.bind (Dl F s) fun q=>match q with
 | .inl p=>some (p,none)
 | .inr x=>Option.bind (w6 F x.2 b1) fun y=>match y with
  | .inl v=>some (x.1,some v)
  | .inr p=>some (qW x.1 p,none)
noncomputable def wN (v:(Source×List aA)):List (Nat×OC):=bu (b9 (D:=DD) false [1,2] [.x 51 .Source,.r 48 (.st .aA)] (v.1,v.2,()))
def tk:Fr:=⟨67,[1],[]⟩
def t6Parse (s:Str) (b1:Source×List aA):bF DD:=⟨[(0,.n (.d .str s)),(1,.n (.p (.cI 25 [] [.ptr 1 0])))],[(1,.x 51 .Source 1 2 false b1.1),(2,.row 48 (.st .aA) b1.2)],[]⟩
def Lm (s:Str) (p:Problem) (b1:Source×List aA):bF DD:=⟨[(0,.n (.d .str s)),(1,.n (.p (.cI 25 [] [.ptr 1 0]))),(4,.n (.p (.ptr 104 0)))],[(1,.x 51 .Source 1 2 false b1.1),(2,.row 48 (.st .aA) b1.2),(104,.box 38 (.st .Problem) p)],[]⟩
def EN (s:Str) (l:List Token) (p:Problem) (b1:Source×List aA):bF DD:=⟨[(0,.n (.d .str s)),(1,.n (.p (.cI 25 [] [.ptr 1 0]))),(4,.n (.p (.ptr 104 0))),(5,.n (.d (.sl (.st .Token)) l))],[(1,.x 51 .Source 1 2 false b1.1),(2,.row 48 (.st .aA) b1.2),(104,.box 38 (.st .Problem) p)],[]⟩
def Ll (s:Str) (l:List Token) (p rest:Problem) (rd:reader) (b1:Source×List aA):bF DD:=⟨[(0,.n (.d .str s)),(1,.n (.p (.cI 25 [] [.ptr 1 0]))),(4,.n (.p (.ptr 104 0))),(5,.n (.d (.sl (.st .Token)) l)),(6,.n (.p (.ptr 122 0))),(7,.n (.p (.ptr 107 0)))],[(1,.x 51 .Source 1 2 false b1.1),(2,.row 48 (.st .aA) b1.2),(104,.box 38 (.st .Problem) p),(107,.box 38 (.st .Problem) rest),(122,.box 85 (.st .reader) rd)],[]⟩
def AB (p rest:Problem) (rd:reader) (b1:Source×List aA):bF DD:=⟨[(1,.n (.p (.cI 25 [] [.ptr 1 0]))),(4,.n (.p (.ptr 104 0))),(6,.n (.p (.ptr 122 0))),(7,.n (.p (.ptr 107 0)))],[(1,.x 51 .Source 1 2 false b1.1),(2,.row 48 (.st .aA) b1.2),(104,.box 38 (.st .Problem) p),(107,.box 38 (.st .Problem) rest),(122,.box 85 (.st .reader) rd)],[]⟩
theorem BF {mx:Int} {F:Nat} {s:Str} {b1:Source×List aA} {p:Problem} {o:Option (Source×List aA)} (h:yS F s b1=some (p,o)):aI Tryz.prog (ax mx) 13 (wN b1) [.one (.str s),.cI 25 [] [.ptr 1 0]] (Is (match o with|some v=>wN v|none=>[]) (.b (.agg (aR p)))):=by
 refine aI.Gq 67 Tryz.func13 Tryz.ntmps13 rfl (zab rfl) fun E=>?_
 show ah _ E ⟨67,[1],[1,2],[]⟩ _ (t6Parse s b1).st _
 obtain⟨q,hq,h1⟩:=aK h
 obtain⟨x1,hx1,h2⟩:=aK hq
 refine ah.seq (xF (fr:=tk) (F:=F) (G:=[]) (an:=.no) (cs:=⟨[0,1],[1,2],[]⟩) (ps:=[(4,104)]) (ks:=[.b 104 38 (.st .Problem)]) (z:=(⟨0,0⟩:Problem)) (m:=some (⟨0,0⟩:Problem)) rfl rfl trivial (by kernel_rfl) rfl (Fin.then ?_))
 refine ah.aF (Lm s ⟨0,0⟩ b1).st rfl ?_
 refine ah.seq (xF (fr:=tk) (F:=F) (G:=[jt F]) (an:=.no) (cs:=⟨[0,1,4],[1,2],[]⟩) (ps:=[]) (ks:=[.b 104 38 (.st .Problem),.s 5 (.sl (.st .Token))]) (z:=(x1.2,x1.1)) (m:=(cP F s).bind fun x1=>some (x1.2,x1.1)) rfl rfl ⟨lU F,trivial⟩ (by kernel_rfl) (by rw[hx1];rfl) (Fin.then ?_))
 refine ah.aF (EN s x1.1 x1.2 b1).st rfl ?_
 have hm:(if decide (x1.2.E≠0)=true then some (.inr x1.2) else some (.inl x1.2):Option (PT DD [.b 104 38 (.st .Problem)]⊕PT DD [.b 104 38 (.st .Problem)]))=some (if x1.2.E≠0 then .inr x1.2 else .inl x1.2):=by by_cases hE:x1.2.E=0<;>simp[hE]
 refine ah.seq (denW (fr:=tk) (F:=F) (G:=[]) (an:=.no) (cs:=⟨[0,1,4,5],[1,2],[]⟩) (ps:=[]) (ks:=[.b 104 38 (.st .Problem)]) (ps2:=[(4,104)]) (ks2:=[.b 104 38 (.st .Problem)]) rfl rfl trivial (by kernel_rfl) hm (fun z hz=>Fin.then ?_) (fun z hz=>?_))
 rotate_left
 ·split at hz
  ·next hE=>
   cases hz
   rw[if_pos hE] at h2
   cases h2
   cases h1
   exact Fin.cw (Fin.retD (.inl rfl) rfl (Fin.kW [] [.agg (aR x1.2)] (.inl rfl) rfl (.cons (.agg a33 rfl rfl rfl rfl) .nil) (fun p hp=>by cases hp) ⟨rfl,rfl⟩))
  ·cases hz
 split at hz
 ·cases hz
 next hE=>
 cases hz
 rw[if_neg hE] at h2
 obtain⟨x,hx,h3⟩:=aK h2
 cases h3
 obtain⟨y,hy,h4⟩:=aK h1
 refine ah.aF (EN s x1.1 x1.2 b1).st rfl ?_
 refine ah.seq (xF (fr:=tk) (F:=F) (G:=[]) (an:=.no) (cs:=⟨[0,1,4,5],[1,2,104],[]⟩) (ps:=[(6,122),(7,107)]) (ks:=[.b 107 38 (.st .Problem),.b 122 85 (.st .reader)]) (z:=((⟨0,0⟩:Problem),(⟨x1.1,0,(s.length:Int)⟩:reader))) (m:=some ((⟨0,0⟩:Problem),(⟨x1.1,0,(s.length:Int)⟩:reader))) rfl rfl trivial (by kernel_rfl) rfl (Fin.then ?_))
 refine ah.aF (Ll s x1.1 x1.2 ⟨0,0⟩ ⟨x1.1,0,(s.length:Int)⟩ b1).st rfl ?_
 refine ah.seq (xF (fr:=tk) (F:=F) (G:=[qN F]) (an:=.two (.no) (.two (.no) (.two (.two (.iE [⟨0,[6],[]⟩,⟨1,[6],[]⟩,⟨2,[5],[]⟩,⟨3,[8],[]⟩,⟨4,[32,33],[]⟩,⟨5,[5],[]⟩,⟨6,[8],[]⟩,⟨7,[35,36],[]⟩,⟨8,[37],[]⟩,⟨9,[38],[]⟩,⟨10,[30],[]⟩,⟨11,[40],[]⟩,⟨12,[34,41],[122]⟩] [13,14,15] []) (.no)) (.no)))) (cs:=⟨[1,4,6,7],[1,2,104],[]⟩) (ps:=[]) (ks:=[.b 107 38 (.st .Problem),.b 122 85 (.st .reader)]) (z:=x) (m:=zK F x1.1 s) rfl rfl ⟨vf F,trivial⟩ (by kernel_rfl) hx (Fin.then ?_))
 refine ah.aF (AB x1.2 x.1 x.2 b1).st rfl ?_
 refine ah.seq (ah.ae (Oc (eH (fs:=[]) (cs:=[.ptr 107 0,.ptr 104 0]) rfl rfl) (aj.defer rfl rfl rfl fun E' vals b0 b2=>aj.aS (AB x1.2 x.1 x.2 b1).st rfl ?_)))
 have hmS:(Option.bind (j8 F x.2 b1.1 b1.2) (bt (fun p=>some (.inr (p,x1.2,x.1))) fun b3=>(if (decide (b3.1.pos<(b3.1.l.length:Int)))=true then Option.bind (aP F (280:Int) b3.1) (bt (fun p=>some (.inr (p,x1.2,x.1))) fun x14=>some (.inl (x.1,x.1,b3.2))) else some (.inl (x.1,x.1,b3.2)))):Option (PT DD [.b 104 38 (.st .Problem),.b 107 38 (.st .Problem),.x 1 51 .Source 2,.r 2 48 (.st .aA)]⊕(Problem×PT DD [.b 104 38 (.st .Problem),.b 107 38 (.st .Problem)])))=some (match y with
  | .inl v=>.inl (x.1,x.1,v)
  | .inr p=>.inr (p,x1.2,x.1)):=by
  unfold w6 at hy
  cases hrd:j8 F x.2 b1.1 b1.2 with
  | none=>rw[hrd] at hy;cases hy
  | some c=>
   rw[hrd] at hy
   cases c with
   | inr p=>cases hy;rfl
   | inl c=>
    simp only[Option.bind_some,bt] at hy ⊢
    split at hy
    ·next hc=>
     rw[if_pos hc]
     cases hf:aP F 280 c.1 with
     | none=>rw[hf] at hy;cases hy
     | some d=>
      rw[hf] at hy
      cases d<;>(cases hy;rfl)
    ·next hc=>
     rw[if_neg hc]
     cases hy
     rfl
 intro a w hr
 refine iY (B0:=BB (mx:=mx)) (L:=LL) (G:=[(((ka F).sw 1 122).sw 2 1).sw 3 2,(bJ F).sw 1 122]) (F:=F) (fr:=⟨67,[1,104,107,122],[]⟩) rfl rfl ⟨(((yE F).sw 1 122).sw 2 1).sw 3 2,(bV F).sw 1 122,trivial⟩ _ (.two (.no) (.two (.two (.iE [⟨0,[6],[]⟩,⟨1,[54],[]⟩,⟨2,[55],[]⟩,⟨3,[56],[122]⟩,⟨4,[6],[]⟩,⟨5,[58],[]⟩,⟨6,[59],[]⟩,⟨7,[60],[122]⟩,⟨8,[61],[]⟩] [9] []) (.no)) (.no))) (bU _ rfl) ⟨[],[],[]⟩ (AB x1.2 x.1 x.2 b1) (fun _=>none) (fun t s'=>match t with
  | none=>if rq s' [(4,104)]=true then (F1 s' [.b 104 38 (.st .Problem),.b 107 38 (.st .Problem),.x 1 51 .Source 2,.r 2 48 (.st .aA)]).bind fun z=>some (Sum.inl z) else none
  | some _=>none) (fun p sv=>if rq sv [(4,104)]=true then (F1 sv [.b 104 38 (.st .Problem),.b 107 38 (.st .Problem)]).bind fun z=>some (.inr (p,z)) else none) _ _ (Eq.trans (by kernel_rfl) hmS) (fun s' _ e=>by cases e) (fun t s' _ e=>?_) (fun p' sv e=>?_) a w hr
 ·cases t with
  | some i=>cases e
  | none=>
   simp only at e
   split at e
   ·next hp=>
    obtain⟨z,hz,e1⟩:=aK e
    cases y with
    | inr p'=>cases e1
    | inl v=>
     cases e1
     cases h4
     refine fun a w hR=>Fin.Ff (own_c:=lh x.1 x.1) (own_c':=lh x.1 x.1) (post':=Is (wN v) (.b (.agg (aR x.1)))) b0 b2 Cu (.inl rfl) ⟨Tryz.call32⟩ rfl rfl ⟨rfl,rfl,trivial⟩ rfl rfl (rC rfl rfl rfl rfl) ?_ a w (Ab hp hz hR)
     exact Fin.kW (wN v) [.agg (aR x.1)] (.inl rfl) rfl (.cons (.agg a33 rfl rfl rfl rfl) .nil) (fun p hp=>List.mem_append_left (lh x.1 x.1) hp) ⟨rfl,rfl⟩
   ·cases e
 ·split at e
  ·next hp=>
   obtain⟨z,hz,e1⟩:=aK e
   cases y with
   | inl v=>cases e1
   | inr p0=>
    cases e1
    cases h4
    intro hok
    refine fun a w hR=>Fin.ue (own_c:=lh x.1 x1.2) (own_c':=lh x.1 (qW x.1 p')) (post':=Is [] (.b (.agg (aR (qW x.1 p'))))) b0 b2 (Bf hok) ⟨Tryz.call32⟩ rfl rfl ⟨rfl,rfl,trivial⟩ rfl rfl (rC rfl rfl rfl rfl) ?_ a w (Ab hp hz hR)
    exact Fin.kW [] [.agg (aR (qW x.1 p'))] (.inl rfl) rfl (.cons (.agg a33 rfl rfl rfl rfl) .nil) (fun p hp=>by cases hp) ⟨rfl,rfl⟩
  ·cases e
end Go.Dn
namespace Go.Dn
open Go Go.Sk Go.Proofs X
set_option maxRecDepth 100000
section
variable {mx:Int} {F:Nat} {s:Str}
def kM (F:Nat) (s:Str):Option (ab×Problem):=Option.bind (vD F s fX) fun q=>if q.1.E≠0 then some (fX,q.1) else q.2.bind fun v=>some (v,q.1)
def vo (F:Nat):bL DD pk:=⟨6,[.d .str],[],[],[],[.st .ab,.st .Problem],true,false,false,false,fun a l=>kM F a.1⟩
def u4 (s:Str):bF DD:=⟨[(0,.n (.d .str s))],[],[]⟩
def u4a (s:Str):bF DD:=⟨[(0,.n (.d .str s)),(2,.n (.p (.ptr 102 0))),(3,.n (.p (.ptr 103 0)))],[(102,.box 35 (.st .ab) fX),(103,.box 38 (.st .Problem) ⟨0,0⟩)],[]⟩
def u4b (s:Str):bF DD:=⟨[(0,.n (.d .str s)),(2,.n (.p (.ptr 102 0))),(3,.n (.p (.ptr 103 0))),(4,.n (.p (.ptr 104 0)))],[(102,.box 35 (.st .ab) fX),(103,.box 38 (.st .Problem) ⟨0,0⟩),(104,.box 35 (.st .ab) fX)],[]⟩
def u4c (p:Problem) (l:List (Nat×TO DD)):bF DD:=⟨[(8,.n (.d (.st .Problem) p)),(2,.n (.p (.ptr 102 0))),(3,.n (.p (.ptr 103 0))),(4,.n (.p (.ptr 104 0)))],[(102,.box 35 (.st .ab) fX),(103,.box 38 (.st .Problem) ⟨0,0⟩)]++l,[]⟩
def u4d (p:Problem) (l:List (Nat×TO DD)):bF DD:=⟨[(2,.n (.p (.ptr 102 0))),(3,.n (.p (.ptr 103 0))),(4,.n (.p (.ptr 104 0))),(5,.n (.p (.ptr 105 0)))],[(102,.box 35 (.st .ab) fX),(103,.box 38 (.st .Problem) ⟨0,0⟩)]++l++[(105,.box 38 (.st .Problem) p)],[]⟩
theorem G2 {r:ab×Problem} (h:kM F s=some r):aI Tryz.prog (ax mx) 6 [] [.one (.str s)] (Is [] (.lC [.agg (gW r.1),.agg (aR r.2)])):=by
 obtain⟨⟨p,o⟩,hq,h1⟩:=aK h
 refine aI.intro 16 Tryz.func6 Tryz.ntmps6 rfl (zab rfl) fun E=>?_
 show ah _ E ⟨16,[],[],[]⟩ _ (u4 s).st _
 have hm:aI Tryz.prog (ax mx) 13 [(104,.box 35 (gW fX))] [.one (.str s),.cI 14 [] [.ptr 104 0]] (Is (match o with|some v=>[(104,.box 35 (gW v))]|none=>[]) (.b (.agg (aR p)))):=by
  have:=aI.sw (B4 (mx:=mx) hq) 1 104
  cases o<;>exact this
 refine ah.seq (xF (fr:=⟨16,[],[]⟩) (F:=F) (G:=[]) (an:=.no) (cs:=⟨[0],[],[]⟩) (ps:=[(2,102),(3,103)]) (ks:=[.b 102 35 (.st .ab),.b 103 38 (.st .Problem)]) (z:=(fX,(⟨0,0⟩:Problem))) (m:=some (fX,(⟨0,0⟩:Problem))) rfl rfl trivial (by kernel_rfl) rfl (Fin.then ?_))
 refine ah.aF (u4a s).st rfl ?_
 refine ah.seq (xF (fr:=⟨16,[],[]⟩) (F:=F) (G:=[]) (an:=.no) (cs:=⟨[0,2,3],[102,103],[]⟩) (ps:=[(4,104)]) (ks:=[.b 104 35 (.st .ab)]) (z:=fX) (m:=some fX) rfl rfl trivial (by kernel_rfl) rfl (Fin.then ?_))
 refine ah.aF (u4b s).st rfl ?_
 have l30:(gW r.1).length=DD.n .ab:=DD.len .ab r.1
 have fin:∀ (l:List (Nat×TO DD)) (m:Option (PT DD []⊕PT DD [.b 102 35 (.st .ab),.b 103 38 (.st .Problem)])),m=some (.inr r)->(∀ c,c=F3 3 ((Tryz.f6.body).getD .skip)->ib (BB (mx:=mx)) LL ([]:List (bL DD pk)) ⟨16,[],[]⟩ F c ((.two (.two (.no) (.two (.two (.iE [⟨0,[],[]⟩,⟨1,[5],[105]⟩,⟨2,[2,12],[102]⟩] [3] []) (.no)) (.no))) (.two (.iE [⟨0,[4],[104]⟩,⟨1,[5],[105]⟩,⟨2,[2,14],[102]⟩] [3] []) (.no)))) ((⟨[],[],[]⟩:Kept).add ⟨[],[],[]⟩) (u4d p l) (fun s'=>if rq s' []=true then (pj s' (⟨[],[],[]⟩:Kept).r []).bind fun z=>some (.inl z) else none) (fun t s'=>match t with
  | none=>if rq s' [(2,102),(3,103)]=true then (F1 s' [.b 102 35 (.st .ab),.b 103 38 (.st .Problem)]).bind fun z=>some (.inr z) else none
  | some _=>none) (fun _ _=>none)=m)->ah Tryz.prog E ⟨16,[],[],[]⟩ (F3 3 ((Tryz.f6.body).getD .skip)) (u4d p l).st (zG Tryz.prog Tryz.f6 E ⟨16,[],[],[]⟩ (Is [] (.lC [.agg (gW r.1),.agg (aR r.2)]))):=fun l m hm hd=>by
  refine denW (fr:=⟨16,[],[]⟩) (F:=F) (G:=[]) (an:=(.two (.two (.no) (.two (.two (.iE [⟨0,[],[]⟩,⟨1,[5],[105]⟩,⟨2,[2,12],[102]⟩] [3] []) (.no)) (.no))) (.two (.iE [⟨0,[4],[104]⟩,⟨1,[5],[105]⟩,⟨2,[2,14],[102]⟩] [3] []) (.no)))) (cs:=⟨[],[],[]⟩) (ps:=[]) (ks:=[]) (ps2:=[(2,102),(3,103)]) (ks2:=[.b 102 35 (.st .ab),.b 103 38 (.st .Problem)]) rfl rfl trivial (hd _ rfl) hm (fun z hz=>by cases hz) (fun z hz=>?_)
  cases hz
  exact Fin.kW [] [.agg (gW r.1),.agg (aR r.2)] (.inl rfl) rfl (.cons (.agg (m:=DD.n .ab) ((BB (mx:=mx)).tok 35 (.st .ab) rfl) rfl rfl (by
   show List.take (DD.n .ab) (List.drop 0 (gW r.1))=_
   rw[List.drop_zero,← l30,List.take_length]) l30) (.cons (.agg a33 rfl rfl rfl rfl) .nil)) (fun p hp=>by cases hp) ⟨rfl,rfl⟩
 refine ah.seq (ah.ae ?_)
 refine Oc om (Oc (eH (fs:=[]) (cs:=[.ptr 104 0]) rfl rfl) ?_)
 cases o with
 | none=>
  refine Oc (dL hm ⟨Tryz.call13⟩ rfl ⟨rfl,trivial⟩ rfl rfl) ?_
  refine aj.aF (u4c p []).st rfl ?_
  refine JO (fr:=⟨16,[],[]⟩) (cs:=⟨[2,3,4],[102,103],[]⟩) (ps:=[(5,105)]) (ks:=[.b 105 38 (.st .Problem)]) (z:=p) (G:=[]) rfl rfl trivial (by kernel_rfl) (Fin.then ?_)
  refine ah.aF (u4d p []).st rfl ?_
  refine fin [] (if decide (p.E≠0)=true then some (.inr (fX,p)) else none) ?_ (fun c hc=>by subst hc;kernel_rfl)
  simp only[Option.bind_none] at h1
  split at h1
  next hE=>cases h1;exact if_pos (decide_eq_true hE)
  cases h1
 | some v=>
  refine Oc (dL hm ⟨Tryz.call13⟩ rfl ⟨rfl,trivial⟩ rfl rfl) ?_
  refine aj.aF (u4c p [(104,.box 35 (.st .ab) v)]).st rfl ?_
  refine JO (fr:=⟨16,[],[]⟩) (cs:=⟨[2,3,4],[102,103,104],[]⟩) (ps:=[(5,105)]) (ks:=[.b 105 38 (.st .Problem)]) (z:=p) (G:=[]) rfl rfl trivial (by kernel_rfl) (Fin.then ?_)
  refine ah.aF (u4d p [(104,.box 35 (.st .ab) v)]).st rfl ?_
  refine fin [(104,.box 35 (.st .ab) v)] (if decide (p.E≠0)=true then some (.inr (fX,p)) else some (.inr (v,p))) ?_ (fun c hc=>by subst hc;kernel_rfl)
  simp only[Option.bind_some] at h1
  split at h1
  next hE=>cases h1;exact if_pos (decide_eq_true hE)
  next hE=>cases h1;exact if_neg (by simpa using hE)
theorem Ca (F:Nat):av Tryz.prog (ax mx) (vo F):=n5 ⟨Tryz.call6⟩ fun a r h=>G2 (mx:=mx) (F:=F) h
def k7 (F:Nat) (s:Str):Option Bool:=if s=[] then some true else none
def sG (F:Nat):bL DD pk:=⟨112,[.d .str],[],[],[],[.bool],true,false,false,false,fun a l=>k7 F a.1⟩
theorem D5 {r:Bool} (h:k7 F s=some r):aI Tryz.prog (ax mx) 112 [] [.one (.str s)] (Is [] (.b (.one (.bool r)))):=by
 unfold k7 at h
 split at h
 next hs=>
  subst hs
  cases h
  refine aI.intro 18 Tryz.func112 Tryz.ntmps112 rfl (zab rfl) fun E=>?_
  show ah _ E ⟨18,[],[],[]⟩ _ ⟨[(0,.b (.one (.str [])))],[]⟩ _
  refine ah.seq (ah.ae (Oc oa (aj.aS ⟨[(0,.b (.one (.str [])))],[]⟩ rfl ?_)))
  refine ah.seq (xF (fr:=⟨18,[],[]⟩) (F:=F) (G:=[]) (an:=.no) (s:=⟨[(0,.n (.d .str []))],[],[]⟩) (cs:=⟨[0],[],[]⟩) (ps:=[(3,103)]) (ks:=[.b 103 9 .str]) (z:=([]:Str)) (m:=some ([]:Str)) rfl rfl trivial (by kernel_rfl) rfl (Fin.then ?_))
  refine ah.seq (ah.ae ?_)
  refine aj.aF (bF.st (D:=DD) ⟨[(0,.n (.d .str [])),(3,.n (.p (.ptr 103 0)))],[(103,.box 9 .str [])],[]⟩) rfl ?_
  refine Oc om (Oc (vI (u:=[]) (v:=[]) rfl rfl) (Oc om ?_))
  refine aj.p6 (z:=.one (.bool true)) false 99 [] (.plain (b:=true) rfl) rfl rfl rfl (fun e=>by cases e) (fun e=>by cases e) ?_
  refine aj.p6 (z:=.one (.bool true)) false 99 [] (.plain (b:=true) rfl) rfl rfl rfl (fun e=>by cases e) (fun e=>by cases e) ?_
  refine aj.p6 (z:=.one (.bool true)) false 99 [] (.plain (b:=true) rfl) rfl rfl rfl (fun e=>by cases e) (fun e=>by cases e) ?_
  refine aj.p6 (z:=.one (.bool true)) false 99 [] (.plain (b:=true) rfl) rfl rfl rfl (fun e=>by cases e) (fun e=>by cases e) ?_
  refine aj.p6 (z:=.one (.bool true)) false 99 [] (.plain (b:=true) rfl) rfl rfl rfl (fun e=>by cases e) (fun e=>by cases e) ?_
  refine aj.p6 (z:=.one (.bool true)) false 99 [] (.plain (b:=true) rfl) rfl rfl rfl (fun e=>by cases e) (fun e=>by cases e) ?_
  refine aj.p6 (z:=.one (.bool true)) false 99 [] (.under (c:=false) (b:=true) rfl) rfl rfl rfl (fun e=>by cases e) (fun e=>by cases e) ?_
  refine aj.p6 (z:=.one (.bool true)) false 99 [] (.under (c:=false) (b:=true) rfl) rfl rfl rfl (fun e=>by cases e) (fun e=>by cases e) ?_
  refine aj.p6 (z:=.one (.bool true)) false 99 [] (.under (c:=false) (b:=true) rfl) rfl rfl rfl (fun e=>by cases e) (fun e=>by cases e) ?_
  refine aj.p6 (z:=.one (.bool true)) false 99 [] (.plain (b:=true) rfl) rfl rfl rfl (fun e=>by cases e) (fun e=>by cases e) ?_
  refine Oc (fG (b:=true) (gd:=false) (z:=true) (fun e=>by cases e) rfl rfl rfl rfl) (Oc oa (aj.aS ⟨[(2,B true)],[]⟩ rfl ?_))
  exact ah.ret (Fin.result [.one (.bool true)] (.inl rfl) rfl (.cons (.tmp rfl) .nil) ⟨rfl,rfl⟩)
 cases h
theorem zx (F:Nat):av Tryz.prog (ax mx) (sG F):=n5 ⟨Tryz.call112⟩ fun a r h=>D5 (mx:=mx) (F:=F) h
def gZ (F:Nat) (s:Str):Option (Source×Problem):=Option.bind (yS F s (gh,[])) fun q=>if q.1.E≠0 then some (gh,q.1) else q.2.bind fun v=>some ({ v.1 with Code:=v.2 },q.1)
def js (F:Nat):bL DD pk:=⟨11,[.d .str],[],[],[],[.st .Source,.st .Problem],true,false,false,false,fun a l=>gZ F a.1⟩
def u12 (s:Str):bF DD:=⟨[(0,.n (.d .str s))],[],[]⟩
def u12a (s:Str):bF DD:=⟨[(0,.n (.d .str s)),(2,.n (.p (.ptr 102 0))),(3,.n (.p (.ptr 103 0)))],[(102,.box 51 (.st .Source) gh),(103,.box 38 (.st .Problem) ⟨0,0⟩)],[]⟩
def u12b (s:Str):bF DD:=⟨[(0,.n (.d .str s)),(2,.n (.p (.ptr 102 0))),(3,.n (.p (.ptr 103 0))),(4,.n (.p (.ptr 104 0)))],[(102,.box 51 (.st .Source) gh),(103,.box 38 (.st .Problem) ⟨0,0⟩),(104,.x 51 .Source 104 100104 false gh),(100104,.row 48 (.st .aA) [])],[]⟩
def u12c (p:Problem) (l:List (Nat×TO DD)):bF DD:=⟨[(8,.n (.d (.st .Problem) p)),(2,.n (.p (.ptr 102 0))),(3,.n (.p (.ptr 103 0))),(4,.n (.p (.ptr 104 0)))],[(102,.box 51 (.st .Source) gh),(103,.box 38 (.st .Problem) ⟨0,0⟩)]++l,[]⟩
def Er (p:Problem) (l:List (Nat×TO DD)):bF DD:=⟨[(2,.n (.p (.ptr 102 0))),(3,.n (.p (.ptr 103 0))),(4,.n (.p (.ptr 104 0))),(5,.n (.p (.ptr 105 0)))],[(102,.box 51 (.st .Source) gh),(103,.box 38 (.st .Problem) ⟨0,0⟩)]++l++[(105,.box 38 (.st .Problem) p)],[]⟩
theorem FK {r:Source×Problem} (h:gZ F s=some r):aI Tryz.prog (ax mx) 11 [] [.one (.str s)] (Is [] (.lC [.agg (nf r.1),.agg (aR r.2)])):=by
 obtain⟨⟨p,o⟩,hq,h1⟩:=aK h
 refine aI.intro 16 Tryz.func11 Tryz.ntmps11 rfl (zab rfl) fun E=>?_
 show ah _ E ⟨16,[],[],[]⟩ _ (u12 s).st _
 have hm:aI Tryz.prog (ax mx) 13 (bu (b9 (D:=DD) false [104,100104] [.x 51 .Source,.r 48 (.st .aA)] ((gh,([]:List aA)).1,(gh,([]:List aA)).2,()))) [.one (.str s),.cI 25 [] [.ptr 104 0]] (Is (match o with|some v=>(bu (b9 (D:=DD) false [104,100104] [.x 51 .Source,.r 48 (.st .aA)] (v.1,v.2,())))|none=>[]) (.b (.agg (aR p)))):=by
  have:=aI.sw (aI.sw (BF (mx:=mx) hq) 1 104) 2 100104
  cases o<;>exact this
 refine ah.seq (xF (fr:=⟨16,[],[]⟩) (F:=F) (G:=[]) (an:=.no) (cs:=⟨[0],[],[]⟩) (ps:=[(2,102),(3,103)]) (ks:=[.b 102 51 (.st .Source),.b 103 38 (.st .Problem)]) (z:=(gh,(⟨0,0⟩:Problem))) (m:=some (gh,(⟨0,0⟩:Problem))) rfl rfl trivial (by kernel_rfl) rfl (Fin.then ?_))
 refine ah.aF (u12a s).st rfl ?_
 refine ah.seq (xF (fr:=⟨16,[],[4]⟩) (F:=F) (G:=[]) (an:=.no) (cs:=⟨[0,2,3],[102,103],[]⟩) (ps:=[(4,104)]) (ks:=[.x 104 51 .Source 100104,.r 100104 48 (.st .aA)]) (z:=(gh,[])) (m:=some (gh,[])) rfl rfl trivial (by kernel_rfl) rfl (Fin.then ?_))
 refine ah.aF (u12b s).st rfl ?_
 have l30:(nf r.1).length=DD.n .Source:=DD.len .Source r.1
 have fin:∀ (l:List (Nat×TO DD)) (m:Option (PT DD []⊕PT DD [.b 102 51 (.st .Source),.b 103 38 (.st .Problem)])),m=some (.inr r)->(∀ c,c=F3 3 ((Tryz.f11.body).getD .skip)->ib (BB (mx:=mx)) LL ([]:List (bL DD pk)) ⟨16,[],[]⟩ F c ((.two (.two (.no) (.two (.two (.iE [⟨0,[],[]⟩,⟨1,[5],[105]⟩,⟨2,[2,12],[102]⟩] [3] []) (.no)) (.no))) (.two (.iE [⟨0,[4],[104]⟩,⟨1,[5],[105]⟩,⟨2,[2,14],[102]⟩] [3] []) (.no)))) ((⟨[],[],[]⟩:Kept).add ⟨[],[],[]⟩) (Er p l) (fun s'=>if rq s' []=true then (pj s' (⟨[],[],[]⟩:Kept).r []).bind fun z=>some (.inl z) else none) (fun t s'=>match t with
  | none=>if rq s' [(2,102),(3,103)]=true then (F1 s' [.b 102 51 (.st .Source),.b 103 38 (.st .Problem)]).bind fun z=>some (.inr z) else none
  | some _=>none) (fun _ _=>none)=m)->ah Tryz.prog E ⟨16,[],[],[]⟩ (F3 3 ((Tryz.f11.body).getD .skip)) (Er p l).st (zG Tryz.prog Tryz.f11 E ⟨16,[],[],[]⟩ (Is [] (.lC [.agg (nf r.1),.agg (aR r.2)]))):=fun l m hm hd=>by
  refine denW (fr:=⟨16,[],[]⟩) (F:=F) (G:=[]) (an:=(.two (.two (.no) (.two (.two (.iE [⟨0,[],[]⟩,⟨1,[5],[105]⟩,⟨2,[2,12],[102]⟩] [3] []) (.no)) (.no))) (.two (.iE [⟨0,[4],[104]⟩,⟨1,[5],[105]⟩,⟨2,[2,14],[102]⟩] [3] []) (.no)))) (cs:=⟨[],[],[]⟩) (ps:=[]) (ks:=[]) (ps2:=[(2,102),(3,103)]) (ks2:=[.b 102 51 (.st .Source),.b 103 38 (.st .Problem)]) rfl rfl trivial (hd _ rfl) hm (fun z hz=>by cases hz) (fun z hz=>?_)
  cases hz
  exact Fin.kW [] [.agg (nf r.1),.agg (aR r.2)] (.inl rfl) rfl (.cons (.agg (m:=DD.n .Source) ((BB (mx:=mx)).tok 51 (.st .Source) rfl) rfl rfl (by
   show List.take (DD.n .Source) (List.drop 0 (nf r.1))=_
   rw[List.drop_zero,← l30,List.take_length]) l30) (.cons (.agg a33 rfl rfl rfl rfl) .nil)) (fun p hp=>by cases hp) ⟨rfl,rfl⟩
 refine ah.seq (ah.ae ?_)
 refine Oc om (Oc (eH (fs:=[]) (cs:=[.ptr 104 0]) rfl rfl) ?_)
 cases o with
 | none=>
  refine Oc (dL hm ⟨Tryz.call13⟩ rfl ⟨rfl,rfl,trivial⟩ rfl rfl) ?_
  refine aj.aF (u12c p []).st rfl ?_
  refine JO (fr:=⟨16,[],[]⟩) (cs:=⟨[2,3,4],[102,103],[]⟩) (ps:=[(5,105)]) (ks:=[.b 105 38 (.st .Problem)]) (z:=p) (G:=[]) rfl rfl trivial (by kernel_rfl) (Fin.then ?_)
  refine ah.aF (Er p []).st rfl ?_
  refine fin [] (if decide (p.E≠0)=true then some (.inr (gh,p)) else none) ?_ (fun c hc=>by subst hc;kernel_rfl)
  simp only[Option.bind_none] at h1
  split at h1
  next hE=>cases h1;exact if_pos (decide_eq_true hE)
  cases h1
 | some v=>
  refine Oc (dL hm ⟨Tryz.call13⟩ rfl ⟨rfl,rfl,trivial⟩ rfl rfl) ?_
  refine aj.aF (u12c p [(104,.x 51 .Source 104 100104 false v.1),(100104,.row 48 (.st .aA) v.2)]).st rfl ?_
  refine JO (fr:=⟨16,[],[]⟩) (cs:=⟨[2,3,4],[102,103,104,100104],[]⟩) (ps:=[(5,105)]) (ks:=[.b 105 38 (.st .Problem)]) (z:=p) (G:=[]) rfl rfl trivial (by kernel_rfl) (Fin.then ?_)
  refine ah.aF (Er p [(104,.x 51 .Source 104 100104 false v.1),(100104,.row 48 (.st .aA) v.2)]).st rfl ?_
  have himp:∀ a w,R E ⟨16,[],[],[]⟩ (Er p [(104,.x 51 .Source 104 100104 false v.1),(100104,.row 48 (.st .aA) v.2)]).st a w->R E ⟨16,[],[],[]⟩ (impS (D:=DD) 104 100104 51 .Source (.st .aA) v.2 ({ v.1 with Code:=v.2 }:Source) (Er p [(104,.x 51 .Source 104 100104 false v.1),(100104,.row 48 (.st .aA) v.2)])).st a w:=fun a w hr=>imp_R (L:=LL) (off:=1) rfl rfl (by decide) rfl rfl rfl (by kernel_rfl) hr
  suffices key:ah Tryz.prog E ⟨16,[],[],[]⟩ (F3 3 ((Tryz.f11.body).getD .skip)) (Er p [(104,.box 51 (.st .Source) { v.1 with Code:=v.2 })]).st (zG Tryz.prog Tryz.f11 E ⟨16,[],[],[]⟩ (Is [] (.lC [.agg (nf r.1),.agg (aR r.2)]))) from fun a w hr=>(ah.aF (Er p [(104,.box 51 (.st .Source) { v.1 with Code:=v.2 })]).st rfl key) a w (himp a w hr)
  refine fin [(104,.box 51 (.st .Source) { v.1 with Code:=v.2 })] (if decide (p.E≠0)=true then some (.inr (gh,p)) else some (.inr (({ v.1 with Code:=v.2 }:Source),p))) ?_ (fun c hc=>by subst hc;kernel_rfl)
  simp only[Option.bind_some] at h1
  split at h1
  next hE=>cases h1;exact if_pos (decide_eq_true hE)
  next hE=>cases h1;exact if_neg (by simpa using hE)
theorem lT (F:Nat):av Tryz.prog (ax mx) (js F):=n5 ⟨Tryz.call11⟩ fun a r h=>FK (mx:=mx) (F:=F) h
end
end Go.Dn
namespace Go.Dn
open Go Go.Sk
open X
def cf (F:Nat) (v0:List Int):Option (List Int):=Option.bind (iter F (fun (x3:Int)=>(bA (decide ((0:Int)<x3)) fun x4=>Option.bind (aT x4 (aD v0 (i64.wrap (x3-(1:Int))))) fun x6=>(if (x4&&(decide (x6=(0:Int))))=true then some (.inl (i64.wrap (x3-(1:Int)))) else some (.inr x3)):Option (Int⊕Int))) (v0.length:Int)) (fun x10=>Option.bind (s4 v0 x10) fun x11=>some x11)
def dc (F:Nat)  : Option bc:=some (⟨true,false,(⟨(0:Int),(0:Int),(0:Int),(0:Int),(0:Int),(0:Int),(0:Int),(0:Int),(0:Int),(0:Int),(0:Int),(0:Int),(0:Int),(0:Int),(0:Int),(0:Int)⟩:aY)⟩:bc)
def cm (F:Nat) (neg:Bool) (v1:List Int):Option bc:=Option.bind (cf F v1) fun x1=>(if (decide ((32:Int)<(x1.length:Int)))=true then Option.bind (dc F) fun x4=>some x4 else Option.bind (iter F (fun (x8:Int×bc)=>((if (decide (x8.1<(x1.length:Int)))=true then Option.bind (lG x8.1 (2:Int)) fun x11=>(if (decide (x11=(0:Int)))=true then Option.bind (o8 .i64 x8.1 (2:Int)) fun x13=>Option.bind (o8 .i64 x8.1 (2:Int)) fun x14=>Option.bind (aD (aY.al x8.2.W) x14) fun x15=>Option.bind (aD (aY.al x8.2.W) x14) fun x16=>Option.bind (aD x1 x8.1) fun x17=>Option.bind (aD (aY.al x8.2.W) x13) fun x20=>Option.bind (aD (aY.al x8.2.W) x13) fun x21=>some (.inl ((i64.wrap (x8.1+(1:Int))),{ x8.2 with W:=aY.ao ((aY.al x8.2.W).set x13.toNat (u32.wrap (x16+(u32.wrap x17)))) })) else Option.bind (o8 .i64 x8.1 (2:Int)) fun x23=>Option.bind (o8 .i64 x8.1 (2:Int)) fun x24=>Option.bind (aD (aY.al x8.2.W) x24) fun x25=>Option.bind (aD (aY.al x8.2.W) x24) fun x26=>Option.bind (aD x1 x8.1) fun x27=>Option.bind (aD (aY.al x8.2.W) x23) fun x31=>Option.bind (aD (aY.al x8.2.W) x23) fun x32=>some (.inl ((i64.wrap (x8.1+(1:Int))),{ x8.2 with W:=aY.ao ((aY.al x8.2.W).set x23.toNat (u32.wrap (x26+(u32.wrap ((u32.wrap x27)*(65536:Int)))))) }))) else some (.inr x8.2)):Option ((Int×bc)⊕bc))) ((0:Int),(⟨false,(neg&&(decide ((0:Int)<(x1.length:Int)))),(⟨(0:Int),(0:Int),(0:Int),(0:Int),(0:Int),(0:Int),(0:Int),(0:Int),(0:Int),(0:Int),(0:Int),(0:Int),(0:Int),(0:Int),(0:Int),(0:Int)⟩:aY)⟩:bc))) (fun x34=>some x34))
def bR (F:Nat) (v0:List Int) (k:Int):Option Int:=(if (decide (k<(v0.length:Int)))=true then Option.bind (aD v0 k) fun x3=>some x3 else some (0:Int))
def ju (F:Nat) (v0:List Int) (b:List Int):Option (List Int):=Option.bind (iter F (fun (x2:Int×Int×(List Int))=>((if (decide (x2.2.1<(i64.wrap ((max (v0.length:Int) (b.length:Int))+(1:Int)))))=true then Option.bind (bR F v0 x2.2.1) fun x8=>Option.bind (bR F b x2.2.1) fun x9=>bA (i64.wrap ((i64.wrap (x8+x9))+x2.1)) fun x11=>Option.bind (lG x11 (65536:Int)) fun x12=>Option.bind (bT x2.2.2 ([x12]:List Int)) fun x14=>Option.bind (o8 .i64 x11 (65536:Int)) fun x15=>some (.inl (x15,(i64.wrap (x2.2.1+(1:Int))),x14)) else some (.inr x2.2.2)):Option ((Int×Int×(List Int))⊕(List Int)))) ((0:Int),(0:Int),([]:List Int))) (fun x17=>Option.bind (cf F x17) fun x18=>some x18)
def eC (F:Nat) (n:Int):Option bc:=(if (decide ((0:Int)<=n))=true then Option.bind (lG n (65536:Int)) fun x2=>Option.bind (o8 .i64 n (65536:Int)) fun x3=>Option.bind (lG x3 (65536:Int)) fun x4=>Option.bind (o8 .i64 n (4294967296:Int)) fun x5=>Option.bind (lG x5 (65536:Int)) fun x6=>Option.bind (o8 .i64 n (281474976710656:Int)) fun x7=>Option.bind (cm F false ([x2,x4,x6,x7]:List Int)) fun x9=>some x9 else bA (i64.wrap (-(i64.wrap (n+(1:Int))))) fun x11=>Option.bind (lG x11 (65536:Int)) fun x12=>Option.bind (o8 .i64 x11 (65536:Int)) fun x13=>Option.bind (lG x13 (65536:Int)) fun x14=>Option.bind (o8 .i64 x11 (4294967296:Int)) fun x15=>Option.bind (lG x15 (65536:Int)) fun x16=>Option.bind (o8 .i64 x11 (281474976710656:Int)) fun x17=>Option.bind (ju F ([x12,x14,x16,x17]:List Int) ([(1:Int)]:List Int)) fun x20=>Option.bind (cm F true x20) fun x21=>some x21)
def mj (F:Nat) (x:bc):Option Bool:=Option.bind (iter F (fun (x1:Bool×Int)=>((if (decide (x1.2<(16:Int)))=true then Option.bind (aT x1.1 (aD (aY.al x.W) x1.2)) fun x3=>Option.bind (aT x1.1 (aD (aY.al x.W) x1.2)) fun x4=>some (.inl ((x1.1&&(decide (x4=(0:Int)))),(i64.wrap (x1.2+(1:Int))))) else some (.inr x1.1)):Option ((Bool×Int)⊕Bool))) (true,(0:Int))) (fun x8=>(if x.Bad=true then some (x8&&(!x.Neg)) else some ((!x8)||(!x.Neg))))
def bI (F:Nat) (x:bc):Option Bool:=Option.bind (mj F x) fun x1=>some (x1&&(!x.Bad))
def bO (F:Nat) (x:bc):Option (List Int):=Option.bind (iter F (fun (x2:Int×(List Int))=>((if (decide (x2.1<(16:Int)))=true then Option.bind (aD (aY.al x.W) x2.1) fun x4=>Option.bind (aD (aY.al x.W) x2.1) fun x5=>Option.bind (lG x5 (65536:Int)) fun x6=>Option.bind (aD (aY.al x.W) x2.1) fun x8=>Option.bind (aD (aY.al x.W) x2.1) fun x9=>Option.bind (o8 .u32 x9 (65536:Int)) fun x10=>Option.bind (bT x2.2 ([(i64.wrap x6),(i64.wrap x10)]:List Int)) fun x13=>some (.inl ((i64.wrap (x2.1+(1:Int))),x13)) else some (.inr x2.2)):Option ((Int×(List Int))⊕(List Int)))) ((0:Int),([]:List Int))) (fun x15=>Option.bind (cf F x15) fun x16=>some x16)
def jv (F:Nat) (x:bc):Option Int:=Option.bind (bI F x) fun x1=>bA (!x1) fun x2=>Option.bind (aT (!x2) (bO F x)) fun x3=>(if (x2||(decide ((x3.length:Int)=(0:Int))))=true then some (0:Int) else (if x.Neg=true then some (-1:Int) else some (1:Int)))
def od (F:Nat)  : Option bc:=Option.bind (eC F (1:Int)) fun x1=>some x1
def oe (F:Nat)  : Option ez:=Option.bind (dc F) fun x1=>Option.bind (od F) fun x2=>some (⟨x1,x2⟩:ez)
def eJ (F:Nat) (x:bc):Option (Int×Bool):=Option.bind (bI F x) fun x1=>bA (!x1) fun x2=>Option.bind (aT (!x2) (aD (aY.al x.W) (1:Int))) fun x3=>Option.bind (aT (!x2) (aD (aY.al x.W) (1:Int))) fun x4=>(if (x2||(decide ((1073741824:Int)<=x4)))=true then some ((0:Int),false) else Option.bind (iter F (fun (x7:Int)=>((if (decide (x7<(16:Int)))=true then Option.bind (aD (aY.al x.W) x7) fun x9=>Option.bind (aD (aY.al x.W) x7) fun x10=>(if (decide (x10≠(0:Int)))=true then some (.inr (.inr ((0:Int),false))) else some (.inl (i64.wrap (x7+(1:Int))))) else some (.inr (.inl ()))):Option (Int⊕(Unit⊕(Int×Bool))))) (2:Int)) (cy (fun x13=>bA (i64.wrap ((i64.wrap ((i64.wrap x.W.a1)*(4294967296:Int)))+(i64.wrap x.W.a0))) fun x17=>(if x.Neg=true then some ((i64.wrap (-x17)),true) else some (x17,true))) (fun x19=>some (x19.1,x19.2))))
def oi (F:Nat) (x:bc):Option bc:=Option.bind (bI F x) fun x1=>(if (!x1)=true then Option.bind (dc F) fun x3=>some x3 else Option.bind (bO F x) fun x4=>Option.bind (cm F false x4) fun x5=>some x5)
def fH (F:Nat) (v0:List Int) (k:Int):Option Int:=(if (decide (k<(0:Int)))=true then some (0:Int) else Option.bind (bR F v0 k) fun x2=>some x2)
def mg (F:Nat) (v0:List Int) (b:List Int):Option (List Int):=bA (i64.wrap ((i64.wrap ((v0.length:Int)+(b.length:Int)))+(1:Int))) fun x5=>Option.bind (mk? (0:Int) x5 x5) fun x6=>Option.bind (iter F (fun (x7:Int×(List Int))=>((if (decide (x7.1<(v0.length:Int)))=true then Option.bind (iter F (fun (x10:Int×(List Int))=>((if (decide (x10.1<(b.length:Int)))=true then bA (i64.wrap (x7.1+x10.1)) fun x13=>bA (i64.wrap (x7.1+x10.1)) fun x14=>Option.bind (aD x10.2 x14) fun x15=>Option.bind (aD x10.2 x14) fun x16=>Option.bind (aD v0 x7.1) fun x17=>Option.bind (aD b x10.1) fun x18=>Option.bind (aD x10.2 x13) fun x21=>Option.bind (aD x10.2 x13) fun x22=>some (.inl ((i64.wrap (x10.1+(1:Int))),x10.2.set x13.toNat (i64.wrap (x16+(i64.wrap (x17*x18)))))) else some (.inr x10.2)):Option ((Int×(List Int))⊕(List Int)))) ((0:Int),x7.2)) (fun x24=>Option.bind (iter F (fun (x25:Int×Int×(List Int))=>((if (decide (x25.2.1<(x25.2.2.length:Int)))=true then Option.bind (aD x25.2.2 x25.2.1) fun x28=>Option.bind (aD x25.2.2 x25.2.1) fun x29=>bA (i64.wrap (x29+x25.1)) fun x30=>Option.bind (lG x30 (65536:Int)) fun x31=>Option.bind (aD x25.2.2 x25.2.1) fun x32=>Option.bind (aD x25.2.2 x25.2.1) fun x33=>Option.bind (o8 .i64 x30 (65536:Int)) fun x34=>some (.inl (x34,(i64.wrap (x25.2.1+(1:Int))),x25.2.2.set x25.2.1.toNat x31)) else some (.inr x25.2.2)):Option ((Int×Int×(List Int))⊕(List Int)))) ((0:Int),(0:Int),x24)) (fun x36=>some (.inl ((i64.wrap (x7.1+(1:Int))),x36)))) else some (.inr x7.2)):Option ((Int×(List Int))⊕(List Int)))) ((0:Int),x6)) (fun x38=>Option.bind (cf F x38) fun x39=>some x39)
def nz (F:Nat) (v0:List Int) (b:List Int):Option Bool:=Option.bind (iter F (fun (x5:Int)=>((if (decide ((0:Int)<=x5))=true then Option.bind (bR F v0 x5) fun x7=>Option.bind (bR F b x5) fun x8=>(if (decide (x7≠x8))=true then Option.bind (bR F v0 x5) fun x10=>Option.bind (bR F b x5) fun x11=>some (.inr (.inr (decide (x10<x11)))) else some (.inl (i64.wrap (x5-(1:Int))))) else some (.inr (.inl ()))):Option (Int⊕(Unit⊕Bool)))) (i64.wrap ((max (v0.length:Int) (b.length:Int))-(1:Int)))) (cy (fun x14=>some false) (fun x15=>some x15))
def iL (F:Nat) (v0:List Int) (b:List Int):Option (List Int):=Option.bind (iter F (fun (x2:Int×Int×(List Int))=>((if (decide (x2.2.1<(v0.length:Int)))=true then Option.bind (aD v0 x2.2.1) fun x5=>Option.bind (bR F b x2.2.1) fun x6=>bA (i64.wrap ((i64.wrap (x5-x6))-x2.1)) fun x8=>Option.bind ((if (decide (x8<(0:Int)))=true then some ((1:Int),(i64.wrap (x8+(65536:Int)))) else some ((0:Int),x8)):Option (Int×Int)) fun x11=>Option.bind (bT x2.2.2 ([x11.2]:List Int)) fun x13=>some (.inl (x11.1,(i64.wrap (x2.2.1+(1:Int))),x13)) else some (.inr x2.2.2)):Option ((Int×Int×(List Int))⊕(List Int)))) ((0:Int),(0:Int),([]:List Int))) (fun x15=>Option.bind (cf F x15) fun x16=>some x16)
def iA (F:Nat) (v0:List Int) (b:List Int):Option ((List Int)×(List Int)):=bA ((v0.length:Int)) fun x3=>Option.bind (mk? (0:Int) x3 x3) fun x4=>bA ((b.length:Int)) fun x5=>Option.bind (aD b (i64.wrap (x5-(1:Int)))) fun x7=>Option.bind (fH F b (i64.wrap (x5-(2:Int)))) fun x10=>Option.bind (iter F (fun (x15:(List Int)×Int×(List Int))=>((if (decide ((0:Int)<=x15.2.1))=true then Option.bind (aD v0 x15.2.1) fun x17=>Option.bind (bT ([x17]:List Int) x15.1) fun x18=>Option.bind (cf F x18) fun x19=>Option.bind (fH F x19 x5) fun x20=>Option.bind (fH F x19 (i64.wrap (x5-(1:Int)))) fun x23=>Option.bind (fH F x19 (i64.wrap (x5-(2:Int)))) fun x27=>Option.bind (o8 .i64 (i64.wrap ((i64.wrap ((i64.wrap (x20*(4294967296:Int)))+(i64.wrap (x23*(65536:Int)))))+x27)) (i64.wrap ((i64.wrap (x7*(65536:Int)))+x10))) fun x29=>bA (min (65535:Int) x29) fun x30=>Option.bind (mg F b ([x30]:List Int)) fun x32=>Option.bind (iter F (fun (x33:Int×(List Int))=>(Option.bind (nz F x19 x33.2) fun x34=>(if x34=true then Option.bind (iL F x33.2 b) fun x36=>some (.inl ((i64.wrap (x33.1-(1:Int))),x36)) else some (.inr (x33.1,x33.2))):Option ((Int×(List Int))⊕(Int×(List Int))))) (x30,x32)) (fun x37=>Option.bind (aD x15.2.2 x15.2.1) fun x38=>Option.bind (aD x15.2.2 x15.2.1) fun x39=>Option.bind (iL F x19 x37.2) fun x40=>some (.inl (x40,(i64.wrap (x15.2.1-(1:Int))),x15.2.2.set x15.2.1.toNat x37.1))) else some (.inr (x15.1,x15.2.2))):Option (((List Int)×Int×(List Int))⊕((List Int)×(List Int))))) (([]:List Int),(i64.wrap ((v0.length:Int)-(1:Int))),x4)) (fun x42=>Option.bind (cf F x42.2) fun x43=>some (x43,x42.1))
def oh (F:Nat) (v0:bc) (b:bc):Option bc:=Option.bind (eJ F v0) fun x1=>Option.bind (eJ F b) fun x2=>(if (x1.2&&x2.2)=true then Option.bind (iter F (fun (x4:Int×Int)=>((if (decide (x4.2≠(0:Int)))=true then Option.bind (lG x4.1 x4.2) fun x6=>some (.inl (x4.2,x6)) else some (.inr x4.1)):Option ((Int×Int)⊕Int))) (x1.1,x2.1)) (fun x7=>Option.bind (eC F x7) fun x8=>Option.bind (oi F x8) fun x9=>some x9) else Option.bind (bI F v0) fun x10=>bA (!x10) fun x11=>Option.bind (aT (!x11) (bI F b)) fun x12=>(if (x11||(!x12))=true then Option.bind (dc F) fun x15=>some x15 else Option.bind (bO F v0) fun x16=>Option.bind (bO F b) fun x17=>Option.bind (iter F (fun (x18:(List Int)×(List Int))=>((if (decide ((0:Int)<(x18.2.length:Int)))=true then Option.bind (iA F x18.1 x18.2) fun x21=>some (.inl (x18.2,x21.2)) else some (.inr x18.1)):Option (((List Int)×(List Int))⊕(List Int)))) (x16,x17)) (fun x22=>Option.bind (cm F false x22) fun x23=>some x23)))
def og (F:Nat) (x:bc):Option bc:=Option.bind (bI F x) fun x1=>(if (!x1)=true then Option.bind (dc F) fun x3=>some x3 else Option.bind (bO F x) fun x5=>Option.bind (cm F (!x.Neg) x5) fun x6=>some x6)
def mh (F:Nat) (n:Int) (m:Int):Option Int:=Option.bind (o8 .i64 n m) fun x1=>Option.bind (lG n m) fun x2=>(if ((decide (x2≠(0:Int)))&&((decide (n<(0:Int))) != (decide (m<(0:Int)))))=true then some (i64.wrap (x1-(1:Int))) else some x1)
def ku (F:Nat) (v0:bc) (b:bc):Option bc:=Option.bind (eJ F v0) fun x1=>Option.bind (eJ F b) fun x2=>(if ((x1.2&&x2.2)&&(decide (x2.1≠(0:Int))))=true then Option.bind (mh F x1.1 x2.1) fun x6=>Option.bind (eC F x6) fun x7=>some x7 else Option.bind (bI F v0) fun x8=>bA (!x8) fun x9=>Option.bind (aT (!x9) (bI F b)) fun x10=>bA ((x9||(!x10))) fun x12=>Option.bind (aT (!x12) (bO F b)) fun x13=>(if (x12||(decide ((x13.length:Int)=(0:Int))))=true then Option.bind (dc F) fun x17=>some x17 else Option.bind (bO F v0) fun x18=>Option.bind (bO F b) fun x19=>Option.bind (iA F x18 x19) fun x20=>Option.bind ((if ((v0.Neg != b.Neg)&&(decide ((0:Int)<(x20.2.length:Int))))=true then Option.bind (ju F x20.1 ([(1:Int)]:List Int)) fun x26=>some x26 else some x20.1):Option ((List Int))) fun x27=>Option.bind (cm F (v0.Neg != b.Neg) x27) fun x29=>some x29))
def nv (F:Nat) (n:bc) (d:bc):Option ez:=Option.bind (bI F n) fun x1=>bA (!x1) fun x2=>Option.bind (aT (!x2) (bI F d)) fun x3=>bA ((x2||(!x3))) fun x5=>Option.bind (aT (!x5) (jv F d)) fun x6=>(if (x5||(decide (x6=(0:Int))))=true then Option.bind (oe F) fun x9=>some x9 else Option.bind (oh F n d) fun x10=>Option.bind (Option.bind (jv F d) fun x11=>(if (decide (x11<(0:Int)))=true then Option.bind (og F x10) fun x13=>some x13 else some x10):Option (bc)) fun x14=>Option.bind (ku F n x14) fun x15=>Option.bind (ku F d x14) fun x16=>some (⟨x15,x16⟩:ez))
def ny (F:Nat) (v0:Int) (b:Int):Option ez:=Option.bind (eC F v0) fun x1=>Option.bind (eC F b) fun x2=>Option.bind (nv F x1 x2) fun x3=>some x3
def dO (F:Nat) (n:Int) (d:Int) (unit:Str):Option ab:=Option.bind (ny F n d) fun x1=>some (⟨(1:Int),x1,unit,([]:Str),([]:List ab),(0:Int)⟩:ab)
mutual
def ja:Nat->ab->Option ab
 | 0,_=>none
 | F+1,x=>Option.bind (gz F x.Args) fun x1=>some ({ x with Args:=x1,At:=(0:Int) })
def gz:Nat->(List ab)->Option (List ab)
 | 0,_=>none
 | F+1,v0=>Option.bind (bT ([]:List ab) v0) fun x2=>Option.bind (iter F (fun (x4:Int×(List ab))=>((if (decide (x4.1<(x2.length:Int)))=true then Option.bind (aD x4.2 x4.1) fun x6=>Option.bind (aD x4.2 x4.1) fun x7=>Option.bind (ja F x7) fun x8=>Option.bind (aD x4.2 x4.1) fun x9=>Option.bind (aD x4.2 x4.1) fun x10=>some (.inl ((i64.wrap (x4.1+(1:Int))),x4.2.set x4.1.toNat x8)) else some (.inr x4.2)):Option ((Int×(List ab))⊕(List ab)))) ((0:Int),x2)) (fun x12=>some x12)
end
def kA (F:Nat) (v:af):Option af:=Option.bind (iter F (fun (x1:Int×af)=>((if (decide (x1.1<(3:Int)))=true then Option.bind (aD (af.al x1.2) x1.1) fun x3=>Option.bind (aD (af.al x1.2) x1.1) fun x4=>Option.bind (ja F x4) fun x5=>Option.bind (aD (af.al x1.2) x1.1) fun x6=>Option.bind (aD (af.al x1.2) x1.1) fun x7=>some (.inl ((i64.wrap (x1.1+(1:Int))),af.ao ((af.al x1.2).set x1.1.toNat x5))) else some (.inr x1.2)):Option ((Int×af)⊕af))) ((0:Int),v)) (fun x9=>some x9)
def hM (F:Nat) (v0:List af):Option (List af):=Option.bind (bT ([]:List af) v0) fun x2=>Option.bind (iter F (fun (x4:Int×(List af))=>((if (decide (x4.1<(x2.length:Int)))=true then Option.bind (aD x4.2 x4.1) fun x6=>Option.bind (aD x4.2 x4.1) fun x7=>Option.bind (kA F x7) fun x8=>Option.bind (aD x4.2 x4.1) fun x9=>Option.bind (aD x4.2 x4.1) fun x10=>some (.inl ((i64.wrap (x4.1+(1:Int))),x4.2.set x4.1.toNat x8)) else some (.inr x4.2)):Option ((Int×(List af))⊕(List af)))) ((0:Int),x2)) (fun x12=>some x12)
def lV (F:Nat) (p:bm):Option bm:=Option.bind (kA F p.X) fun x1=>some (⟨x1,p.Turn⟩:bm)
def pI (F:Nat) (f:aL):Option aL:=Option.bind (gz F f.X) fun x1=>Option.bind (hM F f.Points) fun x2=>Option.bind (lV F f.Pose) fun x3=>some (⟨f.Kind,x1,x2,x3,(0:Int)⟩:aL)
def mr (F:Nat) (v0:List aL):Option (List aL):=Option.bind (bT ([]:List aL) v0) fun x2=>Option.bind (iter F (fun (x4:Int×(List aL))=>((if (decide (x4.1<(x2.length:Int)))=true then Option.bind (aD x4.2 x4.1) fun x6=>Option.bind (aD x4.2 x4.1) fun x7=>Option.bind (pI F x7) fun x8=>Option.bind (aD x4.2 x4.1) fun x9=>Option.bind (aD x4.2 x4.1) fun x10=>some (.inl ((i64.wrap (x4.1+(1:Int))),x4.2.set x4.1.toNat x8)) else some (.inr x4.2)):Option ((Int×(List aL))⊕(List aL)))) ((0:Int),x2)) (fun x12=>some x12)
def qq (F:Nat) (x:aW):Option aW:=Option.bind (gz F x.X) fun x1=>Option.bind (hM F x.Points) fun x2=>Option.bind (mr F x.Fields) fun x3=>some ({ x with X:=x1,Points:=x2,Fields:=x3,At:=(0:Int) })
def nE (F:Nat) (v0:List aW):Option (List aW):=Option.bind (bT ([]:List aW) v0) fun x2=>Option.bind (iter F (fun (x4:Int×(List aW))=>((if (decide (x4.1<(x2.length:Int)))=true then Option.bind (aD x4.2 x4.1) fun x6=>Option.bind (aD x4.2 x4.1) fun x7=>Option.bind (qq F x7) fun x8=>Option.bind (aD x4.2 x4.1) fun x9=>Option.bind (aD x4.2 x4.1) fun x10=>some (.inl ((i64.wrap (x4.1+(1:Int))),x4.2.set x4.1.toNat x8)) else some (.inr x4.2)):Option ((Int×(List aW))⊕(List aW)))) ((0:Int),x2)) (fun x12=>some x12)
def nD (F:Nat) (v0:List bm):Option (List bm):=Option.bind (bT ([]:List bm) v0) fun x2=>Option.bind (iter F (fun (x4:Int×(List bm))=>((if (decide (x4.1<(x2.length:Int)))=true then Option.bind (aD x4.2 x4.1) fun x6=>Option.bind (aD x4.2 x4.1) fun x7=>Option.bind (lV F x7) fun x8=>Option.bind (aD x4.2 x4.1) fun x9=>Option.bind (aD x4.2 x4.1) fun x10=>some (.inl ((i64.wrap (x4.1+(1:Int))),x4.2.set x4.1.toNat x8)) else some (.inr x4.2)):Option ((Int×(List bm))⊕(List bm)))) ((0:Int),x2)) (fun x12=>some x12)
mutual
def qp:Nat->aA->Option aA
 | 0,_=>none
 | F+1,x=>Option.bind (ja F x.X) fun x1=>Option.bind (gy F x.Body) fun x2=>Option.bind (gy F x.Else) fun x3=>Option.bind (nD F x.Poses) fun x4=>some (⟨x.Kind,x.Op,x.Name,x1,x2,x3,x4,(0:Int)⟩:aA)
def gy:Nat->(List aA)->Option (List aA)
 | 0,_=>none
 | F+1,v0=>Option.bind (bT ([]:List aA) v0) fun x2=>Option.bind (iter F (fun (x4:Int×(List aA))=>((if (decide (x4.1<(x2.length:Int)))=true then Option.bind (aD x4.2 x4.1) fun x6=>Option.bind (aD x4.2 x4.1) fun x7=>Option.bind (qp F x7) fun x8=>Option.bind (aD x4.2 x4.1) fun x9=>Option.bind (aD x4.2 x4.1) fun x10=>some (.inl ((i64.wrap (x4.1+(1:Int))),x4.2.set x4.1.toNat x8)) else some (.inr x4.2)):Option ((Int×(List aA))⊕(List aA)))) ((0:Int),x2)) (fun x12=>some x12)
end
def u3 (F:Nat) (x:Source):Option Source:=Option.bind (nE F x.Items) fun x1=>Option.bind (gy F x.Code) fun x2=>some (⟨x1,x2⟩:Source)
mutual
def cz:Nat->ab->ab->Option Bool
 | 0,_,_=>none
 | F+1,v0,b=>bA ((((((decide (v0.Op=b.Op))&&(decide (v0.V=b.V)))&&(decide (v0.Unit=b.Unit)))&&(decide (v0.Name=b.Name)))&&(decide (v0.At=b.At)))) fun x9=>Option.bind (aT x9 (ee F v0.Args b.Args)) fun x10=>some (x9&&x10)
def ee:Nat->(List ab)->(List ab)->Option Bool
 | 0,_,_=>none
 | F+1,v0,b=>(if (decide ((v0.length:Int)≠(b.length:Int)))=true then some false else Option.bind (iter F (fun (x4:Int)=>((if (decide (x4<(v0.length:Int)))=true then Option.bind (aD v0 x4) fun x7=>Option.bind (aD b x4) fun x8=>Option.bind (cz F x7 x8) fun x9=>(if (!x9)=true then some (.inr (.inr false)) else some (.inl (i64.wrap (x4+(1:Int))))) else some (.inr (.inl ()))):Option (Int⊕(Unit⊕Bool)))) (0:Int)) (cy (fun x12=>some true) (fun x13=>some x13)))
end
def dT (F:Nat) (v0:af) (b:af):Option Bool:=Option.bind (cz F v0.a0 b.a0) fun x1=>Option.bind (aT x1 (aD (af.al v0) (1:Int))) fun x2=>Option.bind (aT x1 (aD (af.al v0) (1:Int))) fun x3=>Option.bind (aT x1 (aD (af.al b) (1:Int))) fun x4=>Option.bind (aT x1 (aD (af.al b) (1:Int))) fun x5=>Option.bind (aT x1 (cz F x3 x5)) fun x6=>bA ((x1&&x6)) fun x7=>Option.bind (aT x7 (aD (af.al v0) (2:Int))) fun x8=>Option.bind (aT x7 (aD (af.al v0) (2:Int))) fun x9=>Option.bind (aT x7 (aD (af.al b) (2:Int))) fun x10=>Option.bind (aT x7 (aD (af.al b) (2:Int))) fun x11=>Option.bind (aT x7 (cz F x9 x11)) fun x12=>some (x7&&x12)
def fK (F:Nat) (v0:List af) (b:List af):Option Bool:=(if (decide ((v0.length:Int)≠(b.length:Int)))=true then some false else Option.bind (iter F (fun (x4:Int)=>((if (decide (x4<(v0.length:Int)))=true then Option.bind (aD v0 x4) fun x7=>Option.bind (aD b x4) fun x8=>Option.bind (dT F x7 x8) fun x9=>(if (!x9)=true then some (.inr (.inr false)) else some (.inl (i64.wrap (x4+(1:Int))))) else some (.inr (.inl ()))):Option (Int⊕(Unit⊕Bool)))) (0:Int)) (cy (fun x12=>some true) (fun x13=>some x13)))
def jG (F:Nat) (v0:List aL) (b:List aL):Option Bool:=(if (decide ((v0.length:Int)≠(b.length:Int)))=true then some false else Option.bind (iter F (fun (x4:Int)=>((if (decide (x4<(v0.length:Int)))=true then Option.bind (aD v0 x4) fun x7=>Option.bind (aD b x4) fun x8=>bA (((decide (x7.Kind≠x8.Kind))||(decide (x7.At≠x8.At)))) fun x11=>Option.bind (aT (!x11) (ee F x7.X x8.X)) fun x12=>bA ((x11||(!x12))) fun x14=>Option.bind (aT (!x14) (fK F x7.Points x8.Points)) fun x15=>bA (((x14||(!x15))||(!(decide (x7.Pose.Turn=x8.Pose.Turn))))) fun x19=>Option.bind (aT (!x19) (dT F x7.Pose.X x8.Pose.X)) fun x20=>(if (x19||(!x20))=true then some (.inr (.inr false)) else some (.inl (i64.wrap (x4+(1:Int))))) else some (.inr (.inl ()))):Option (Int⊕(Unit⊕Bool)))) (0:Int)) (cy (fun x24=>some true) (fun x25=>some x25)))
def ed:Nat->(List aA)->(List aA)->Option Bool
 | 0,_,_=>none
 | F+1,v0,b=>(if (decide ((v0.length:Int)≠(b.length:Int)))=true then some false else Option.bind (iter F (fun (x4:Int)=>((if (decide (x4<(v0.length:Int)))=true then Option.bind (aD v0 x4) fun x7=>Option.bind (aD b x4) fun x8=>bA (((((decide (x7.Kind≠x8.Kind))||(decide (x7.Op≠x8.Op)))||(decide (x7.Name≠x8.Name)))||(decide (x7.At≠x8.At)))) fun x15=>Option.bind (aT (!x15) (cz F x7.X x8.X)) fun x16=>bA ((x15||(!x16))) fun x18=>Option.bind (aT (!x18) (ed F x7.Body x8.Body)) fun x19=>bA ((x18||(!x19))) fun x21=>Option.bind (aT (!x21) (ed F x7.Else x8.Else)) fun x22=>(if ((x21||(!x22))||(decide ((x7.Poses.length:Int)≠(x8.Poses.length:Int))))=true then some (.inr (.inr false)) else Option.bind (iter F (fun (x29:Int)=>((if (decide (x29<(x7.Poses.length:Int)))=true then Option.bind (aD x7.Poses x29) fun x32=>Option.bind (aD x8.Poses x29) fun x33=>bA (!(decide (x32.Turn=x33.Turn))) fun x34=>Option.bind (aT (!x34) (aD x7.Poses x29)) fun x35=>Option.bind (aT (!x34) (aD x8.Poses x29)) fun x36=>Option.bind (aT (!x34) (dT F x35.X x36.X)) fun x37=>(if (x34||(!x37))=true then some (.inr (.inr false)) else some (.inl (i64.wrap (x29+(1:Int))))) else some (.inr (.inl ()))):Option (Int⊕(Unit⊕Bool)))) (0:Int)) (cy (fun x41=>some (.inl (i64.wrap (x4+(1:Int))))) (fun x43=>some (.inr (.inr x43))))) else some (.inr (.inl ()))):Option (Int⊕(Unit⊕Bool)))) (0:Int)) (cy (fun x44=>some true) (fun x45=>some x45)))
def nu (F:Nat) (v0:Source) (b:Source):Option Bool:=(if (decide ((v0.Items.length:Int)≠(b.Items.length:Int)))=true then some false else Option.bind (iter F (fun (x4:Int)=>((if (decide (x4<(v0.Items.length:Int)))=true then Option.bind (aD v0.Items x4) fun x7=>Option.bind (aD b.Items x4) fun x8=>bA (((((((decide (x7.Kind≠x8.Kind))||(decide (x7.Thing≠x8.Thing)))||(decide (x7.Name≠x8.Name)))||(decide (x7.A≠x8.A)))||(decide (x7.B≠x8.B)))||(decide (x7.At≠x8.At)))) fun x19=>Option.bind (aT (!x19) (ee F x7.X x8.X)) fun x20=>bA ((x19||(!x20))) fun x22=>Option.bind (aT (!x22) (fK F x7.Points x8.Points)) fun x23=>bA ((x22||(!x23))) fun x25=>Option.bind (aT (!x25) (jG F x7.Fields x8.Fields)) fun x26=>(if (x25||(!x26))=true then some (.inr (.inr false)) else some (.inl (i64.wrap (x4+(1:Int))))) else some (.inr (.inl ()))):Option (Int⊕(Unit⊕Bool)))) (0:Int)) (cy (fun x30=>Option.bind (ed F v0.Code b.Code) fun x31=>some x31) (fun x32=>some x32)))
def iM (F:Nat) (s:Str) (want:Source):Option Bool:=Option.bind (gZ F s) fun x1=>bA (decide (x1.2=(⟨(0:Int),(0:Int)⟩:Problem))) fun x2=>Option.bind (aT x2 (u3 F x1.1)) fun x3=>Option.bind (aT x2 (nu F x3 want)) fun x4=>some (x2&&x4)
def fq (F:Nat) (c:Int) (b1:aC) (b2:List Int):Option (Unit×aC×(List Int)):=Option.bind (GD F b1 b2) fun x1=>Option.bind (bT x1.2 ([c]:List Int)) fun x3=>some ((),x1.1,x3)
def eF (F:Nat) (b1:aC) (b2:List Int):Option (aC×(List Int)):=Option.bind (fq F (10:Int) b1 b2) fun x1=>some ({ x1.2.1 with fresh:=true,brace:=false },x1.2.2)
def dV (F:Nat) (s:Str) (b1:aC) (b2:List Int):Option (Int×Unit×aC×(List Int)):=Option.bind (GD F b1 b2) fun x1=>Option.bind (Cn x1.2 s) fun x2=>some ((s.length:Int),(),x1.1,x2)
def aM (F:Nat) (v1:List Str) (b1:aC) (b2:List Int):Option (aC×(List Int)):=Option.bind (iter F (fun (x2:Int×aC×(List Int))=>((if (decide (x2.1<(v1.length:Int)))=true then Option.bind (aD v1 x2.1) fun x4=>Option.bind ((if (x2.2.1.brace&&(decide (x4≠([101,108,115,101]:Str))))=true then Option.bind (eF F x2.2.1 x2.2.2) fun x7=>some (x7.1,x7.2) else some (x2.2.1,x2.2.2)):Option (aC×(List Int))) fun x8=>Option.bind ((if (decide (x4=([125]:Str)))=true then some ({ x8.1 with depth:=(i64.wrap (x8.1.depth-(1:Int))),brace:=false }) else some ({ x8.1 with brace:=false })):Option (aC)) fun x11=>Option.bind ((if x11.fresh=true then Option.bind (fA F ([32,32]:Str) x11.depth) fun x12=>Option.bind (dV F x12 x11 x8.2) fun x13=>some (x13.2.2.1,x13.2.2.2) else (if ((((!x11.close)&&(decide (x4≠([41]:Str))))&&(decide (x4≠([44]:Str))))&&(decide (x4≠([59]:Str))))=true then Option.bind (fq F (32:Int) x11 x8.2) fun x21=>some (x21.2.1,x21.2.2) else some (x11,x8.2))):Option (aC×(List Int))) fun x22=>Option.bind (dV F x4 x22.1 x22.2) fun x23=>bA (decide (x4=([40]:Str))) fun x24=>bA (decide (x4=([125]:Str))) fun x25=>Option.bind ((if (decide (x4=([123]:Str)))=true then some (⟨x23.2.2.1.w,x23.2.2.1.buf,(i64.wrap (x23.2.2.1.depth+(1:Int))),false,x24,x25,x23.2.2.1.bad⟩:aC) else some ({ x23.2.2.1 with fresh:=false,close:=x24,brace:=x25 })):Option (aC)) fun x28=>(if ((decide (x4=([123]:Str)))||(decide (x4=([59]:Str))))=true then Option.bind (eF F x28 x23.2.2.2) fun x32=>some (.inl ((i64.wrap (x2.1+(1:Int))),x32.1,x32.2)) else some (.inl ((i64.wrap (x2.1+(1:Int))),x28,x23.2.2.2))) else some (.inr (x2.2.1,x2.2.2))):Option ((Int×aC×(List Int))⊕(aC×(List Int))))) ((0:Int),b1,b2)) (fun x35=>some (x35.1,x35.2))
def dm (F:Nat) (ok:Bool) (b1:aC) (b2:List Int):Option (aC×(List Int)):=some ({ b1 with bad:=(b1.bad||(!ok)) },b2)
def sB (F:Nat) (s:Str):Option Bool:=Option.bind (cP F s) fun x1=>bA (((decide (x1.2.E=(0:Int)))&&(decide ((x1.1.length:Int)=(1:Int))))) fun x5=>Option.bind (aT x5 (aD x1.1 (0:Int))) fun x6=>bA ((x5&&(decide (x6.Kind=(2:Int))))) fun x8=>Option.bind (aT x8 (aD x1.1 (0:Int))) fun x9=>some (x8&&(decide (x9.S=s)))
def iP (F:Nat) (s:Str) (b1:aC) (b2:List Int):Option (aC×(List Int)):=Option.bind (sB F s) fun x1=>Option.bind (dm F x1 b1 b2) fun x2=>Option.bind (aM F ([s]:List Str) x2.1 x2.2) fun x4=>some (x4.1,x4.2)
def sA (F:Nat) (op:Int):Option Str:=some ((dH ([((5:Int),([43]:Str)),((6:Int),([45]:Str)),((7:Int),([42]:Str)),((8:Int),([47]:Str)),((10:Int),([60]:Str)),((11:Int),([62,61]:Str)),((12:Int),([62]:Str)),((13:Int),([60,61]:Str)),((14:Int),([61,61]:Str)),((15:Int),([33,61]:Str)),((16:Int),([97,110,100]:Str)),((17:Int),([111,114]:Str))]:List (Int×Str)) op).getD ([]:Str))
def rV (F:Nat) (x:ez):Option Bool:=Option.bind (lR F x.N) fun x1=>Option.bind (aT x1 (lR F x.D)) fun x2=>bA ((x1&&x2)) fun x3=>Option.bind (aT x3 (jW F x.D)) fun x4=>bA ((x3&&(decide ((0:Int)<x4)))) fun x6=>Option.bind (aT x6 (tv F x.N x.D)) fun x7=>Option.bind (aT x6 (qh F)) fun x8=>some (x6&&(decide (x7=x8)))
def w7 (F:Nat) (x:ez):Option Int:=Option.bind (rV F x) fun x1=>(if (!x1)=true then some (0:Int) else Option.bind (jW F x.N) fun x3=>some x3)
def u0 (F:Nat) (n:bc):Option ez:=Option.bind (qh F) fun x1=>Option.bind (rU F n x1) fun x2=>some x2
def Bh (F:Nat) (n:Int):Option ez:=Option.bind (gH F n) fun x1=>Option.bind (u0 F x1) fun x2=>some x2
def q9 (F:Nat) (x:ez):Option Str:=Option.bind (rV F x) fun x1=>bA (!x1) fun x2=>Option.bind (aT (!x2) (w7 F x)) fun x3=>(if (x2||(decide (x3<(0:Int))))=true then some ([]:Str) else Option.bind (iter F (fun (x6:Unit)=>((if (decide ((0:Int)<(41:Int)))=true then Option.bind (gH F (1:Int)) fun x8=>(if (!(decide (x.D=x8)))=true then Option.bind (Bh F (10:Int)) fun x10=>none else Option.bind (oS F x.N) fun x11=>Option.bind (fA F ([48]:Str) (max (0:Int) (i64.wrap ((i64.wrap ((0:Int)+(1:Int)))-(x11.length:Int))))) fun x16=>Option.bind (bT x16 x11) fun x17=>(if (decide ((40:Int)<(x17.length:Int)))=true then some (.inr (.inr ([]:Str))) else (if (decide ((0:Int)=(0:Int)))=true then some (.inr (.inr x17)) else Option.bind (s4 x17 (i64.wrap ((x17.length:Int)-(0:Int)))) fun x23=>Option.bind (bT x23 ([46]:Str)) fun x24=>Option.bind (p5 x17 (i64.wrap ((x17.length:Int)-(0:Int)))) fun x27=>Option.bind (bT x24 x27) fun x28=>some (.inr (.inr x28))))) else some (.inr (.inl ()))):Option (Unit⊕(Unit⊕Str)))) ()) (cy (fun x29=>some ([]:Str)) (fun x30=>some x30)))
mutual
def c9:Nat->ab->aC->(List Int)->Option (aC×(List Int))
 | 0,_,_,_=>none
 | F+1,x,b1,b2=>(if (decide (x.Op<(5:Int)))=true then Option.bind (eo F x b1 b2) fun x2=>some (x2.1,x2.2) else Option.bind (aM F ([([40]:Str)]:List Str) b1 b2) fun x4=>Option.bind (eo F x x4.1 x4.2) fun x5=>Option.bind (aM F ([([41]:Str)]:List Str) x5.1 x5.2) fun x7=>some (x7.1,x7.2))
def eo:Nat->ab->aC->(List Int)->Option (aC×(List Int))
 | 0,_,_,_=>none
 | F+1,x,b1,b2=>bA (decide (x.Op=(1:Int))) fun x1=>Option.bind (dm F ((x1||((decide (x.V=(⟨(⟨false,false,(⟨(0:Int),(0:Int),(0:Int),(0:Int),(0:Int),(0:Int),(0:Int),(0:Int),(0:Int),(0:Int),(0:Int),(0:Int),(0:Int),(0:Int),(0:Int),(0:Int)⟩:aY)⟩:bc),(⟨false,false,(⟨(0:Int),(0:Int),(0:Int),(0:Int),(0:Int),(0:Int),(0:Int),(0:Int),(0:Int),(0:Int),(0:Int),(0:Int),(0:Int),(0:Int),(0:Int),(0:Int)⟩:aY)⟩:bc)⟩:ez)))&&(decide (x.Unit=([]:Str)))))&&((decide (x.Op=(2:Int)))||(decide (x.Name=([]:Str))))) b1 b2) fun x10=>Option.bind (sA F x.Op) fun x11=>Option.bind ((if (decide (x11≠([]:Str)))=true then some (2:Int) else Option.bind (bA (decide (x.Op=(9:Int))) fun x13=>(if x13=true then some x13 else some (decide (x.Op=(18:Int)))):Option (Bool)) fun x15=>(if x15=true then some (1:Int) else some (0:Int))):Option (Int)) fun x16=>Option.bind (dm F (decide ((x.Args.length:Int)=x16)) x10.1 x10.2) fun x19=>(if (decide ((x.Args.length:Int)≠x16))=true then some (x19.1,x19.2) else (if x1=true then Option.bind (q9 F x.V) fun x22=>bA (decide (x22≠([]:Str))) fun x23=>Option.bind (aT x23 (k7 F x.Unit)) fun x24=>Option.bind (dm F (x23&&x24) x19.1 x19.2) fun x26=>Option.bind (aM F ([x22]:List Str) x26.1 x26.2) fun x28=>(if (decide (x.Unit≠([]:Str)))=true then Option.bind (bT ([91]:Str) x.Unit) fun x30=>Option.bind (bT x30 ([93]:Str)) fun x31=>Option.bind (aM F ([x31]:List Str) x28.1 x28.2) fun x33=>some (x33.1,x33.2) else some (x28.1,x28.2)) else (if (decide (x.Op=(2:Int)))=true then Option.bind (iP F x.Name x19.1 x19.2) fun x35=>some (x35.1,x35.2) else (if (decide (x.Op=(3:Int)))=true then Option.bind (aM F ([([116,114,117,101]:Str)]:List Str) x19.1 x19.2) fun x38=>some (x38.1,x38.2) else (if (decide (x.Op=(4:Int)))=true then Option.bind (aM F ([([102,97,108,115,101]:Str)]:List Str) x19.1 x19.2) fun x41=>some (x41.1,x41.2) else (if (decide (x.Op=(9:Int)))=true then Option.bind (aM F ([([45]:Str)]:List Str) x19.1 x19.2) fun x44=>Option.bind (aD x.Args (0:Int)) fun x45=>Option.bind (c9 F x45 ({ x44.1 with close:=true }) x44.2) fun x46=>some (x46.1,x46.2) else (if (decide (x.Op=(18:Int)))=true then Option.bind (aM F ([([110,111,116]:Str)]:List Str) x19.1 x19.2) fun x49=>Option.bind (aD x.Args (0:Int)) fun x50=>Option.bind (c9 F x50 x49.1 x49.2) fun x51=>some (x51.1,x51.2) else (if (decide (x11≠([]:Str)))=true then Option.bind (aD x.Args (0:Int)) fun x53=>Option.bind (c9 F x53 x19.1 x19.2) fun x54=>Option.bind (aM F ([x11]:List Str) x54.1 x54.2) fun x56=>Option.bind (aD x.Args (1:Int)) fun x57=>Option.bind (c9 F x57 x56.1 x56.2) fun x58=>some (x58.1,x58.2) else some ({ x19.1 with bad:=true },x19.2)))))))))
end
mutual
def iB:Nat->(List aA)->aC->(List Int)->Option (aC×(List Int))
 | 0,_,_,_=>none
 | F+1,v1,b1,b2=>Option.bind (aM F ([([123]:Str)]:List Str) b1 b2) fun x2=>Option.bind (iter F (fun (x4:Int×aC×(List Int))=>((if (decide (x4.1<(v1.length:Int)))=true then Option.bind (aD v1 x4.1) fun x6=>Option.bind (fR F x6 x4.2.1 x4.2.2) fun x7=>some (.inl ((i64.wrap (x4.1+(1:Int))),x7.1,x7.2)) else some (.inr (x4.2.1,x4.2.2))):Option ((Int×aC×(List Int))⊕(aC×(List Int))))) ((0:Int),x2.1,x2.2)) (fun x9=>Option.bind (aM F ([([125]:Str)]:List Str) x9.1 x9.2) fun x11=>some (x11.1,x11.2))
def fR:Nat->aA->aC->(List Int)->Option (aC×(List Int))
 | 0,_,_,_=>none
 | F+1,x,b1,b2=>bA (((decide (x.Kind=(3:Int)))||(decide (x.Kind=(4:Int))))) fun x6=>Option.bind (dm F (((((decide (x.Kind=(5:Int)))||((decide (x.Op=(0:Int)))&&(decide ((x.Poses.length:Int)=(0:Int)))))&&(x6||(decide ((x.Body.length:Int)=(0:Int)))))&&((decide (x.Kind=(4:Int)))||(decide ((x.Else.length:Int)=(0:Int)))))&&((!x6)||(decide (x.Name=([]:Str))))) b1 b2) fun x26=>Option.bind ((if ((decide (x.Kind=(1:Int)))||(decide (x.Kind=(2:Int))))=true then Option.bind (aM F ([((dH ([((1:Int),([108,101,116]:Str)),((2:Int),([115,101,116]:Str))]:List (Int×Str)) x.Kind).getD ([]:Str))]:List Str) x26.1 x26.2) fun x29=>Option.bind (iP F x.Name x29.1 x29.2) fun x30=>Option.bind (aM F ([([61]:Str)]:List Str) x30.1 x30.2) fun x32=>Option.bind (eo F x.X x32.1 x32.2) fun x33=>some (.inl (x33.1,x33.2)) else (if x6=true then Option.bind (aM F ([((dH ([((3:Int),([114,101,112,101,97,116]:Str)),((4:Int),([105,102]:Str))]:List (Int×Str)) x.Kind).getD ([]:Str))]:List Str) x26.1 x26.2) fun x36=>Option.bind (eo F x.X x36.1 x36.2) fun x37=>Option.bind (iB F x.Body x37.1 x37.2) fun x38=>bA (decide ((x.Else.length:Int)=(1:Int))) fun x40=>Option.bind (aT x40 (aD x.Else (0:Int))) fun x41=>(if (x40&&(decide (x41.Kind=(4:Int))))=true then Option.bind (aM F ([([101,108,115,101]:Str)]:List Str) x38.1 x38.2) fun x45=>Option.bind (aD x.Else (0:Int)) fun x46=>Option.bind (fR F x46 x45.1 x45.2) fun x47=>some (.inr (x47.1,x47.2)) else (if (decide ((0:Int)<(x.Else.length:Int)))=true then Option.bind (aM F ([([101,108,115,101]:Str)]:List Str) x38.1 x38.2) fun x51=>Option.bind (iB F x.Else x51.1 x51.2) fun x52=>some (.inr (x52.1,x52.2)) else some (.inr (x38.1,x38.2)))) else (if (decide (x.Kind=(5:Int)))=true then none else some (.inl ({ x26.1 with bad:=true },x26.2))))):Option ((aC×(List Int))⊕(aC×(List Int)))) (cy (fun x54=>Option.bind (aM F ([([59]:Str)]:List Str) x54.1 x54.2) fun x56=>some (x56.1,x56.2)) (fun x57=>some (x57.1,x57.2)))
end
def jb (F:Nat) (b1:aC) (b2:List Int):Option (Str×aC×(List Int)):=Option.bind (Et (!b2.isEmpty)) fun x1=>Option.bind (Et (decide ((b2.length:Int)=(b2.length:Int)) && !b2.isEmpty)) fun x3=>some ((toStr b2),b1,([]:List Int))
def ra (F:Nat) (s:Str):Option Problem:=Option.bind (gZ F s) fun x1=>some x1.2
def mo (F:Nat) (b1:aC) (b2:List Int):Option (Str×Int×aC×(List Int)):=Option.bind ((if b1.brace=true then Option.bind (eF F b1 b2) fun x1=>some (x1.1,x1.2) else some (b1,b2)):Option (aC×(List Int))) fun x2=>Option.bind (jb F x2.1 x2.2) fun x3=>(if x3.2.1.bad=true then some (([]:Str),(3:Int),x3.2.1,x3.2.2) else Option.bind (ra F x3.1) fun x4=>(if (decide (x4.E≠(0:Int)))=true then some (([]:Str),(2:Int),x3.2.1,x3.2.2) else some (x3.1,(0:Int),x3.2.1,x3.2.2)))
def tF (F:Nat) (x:Source):Option (Str×Int):=Option.bind (aM F ([([121,97,114,100]:Str),([123]:Str)]:List Str) (⟨false,([]:List Int),(0:Int),true,false,false,false⟩:aC) ([]:List Int)) fun x2=>Option.bind (iter F (fun (x4:Unit)=>((if (decide ((0:Int)<(x.Items.length:Int)))=true then Option.bind (aD x.Items (0:Int)) fun x6=>none else some (.inr ())):Option (Unit⊕Unit))) ()) (fun x7=>Option.bind (aM F ([([125]:Str)]:List Str) x2.1 x2.2) fun x9=>Option.bind (iter F (fun (x11:Int×aC×(List Int))=>((if (decide (x11.1<(x.Code.length:Int)))=true then Option.bind (aD x.Code x11.1) fun x13=>Option.bind (fR F x13 x11.2.1 x11.2.2) fun x14=>some (.inl ((i64.wrap (x11.1+(1:Int))),x14.1,x14.2)) else some (.inr (x11.2.1,x11.2.2))):Option ((Int×aC×(List Int))⊕(aC×(List Int))))) ((0:Int),x9.1,x9.2)) (fun x16=>Option.bind (mo F x16.1 x16.2) fun x17=>some (x17.1,x17.2.1)))
def eU (F:Nat) (s:Str) (pos:Int) (e:Int):Option Bool:=Option.bind (gZ F s) fun x1=>some (decide (x1.2=(⟨pos,e⟩:Problem)))
def dN (F:Nat)  : Option Bool:=Option.bind (dO F (2:Int) (1:Int) ([]:Str)) fun x1=>Option.bind (dO F (3:Int) (1:Int) ([]:Str)) fun x2=>Option.bind (dO F (1:Int) (1:Int) ([]:Str)) fun x4=>bA (([(⟨(1:Int),(0:Int),([97]:Str),(⟨(5:Int),(⟨(⟨false,false,(⟨(0:Int),(0:Int),(0:Int),(0:Int),(0:Int),(0:Int),(0:Int),(0:Int),(0:Int),(0:Int),(0:Int),(0:Int),(0:Int),(0:Int),(0:Int),(0:Int)⟩:aY)⟩:bc),(⟨false,false,(⟨(0:Int),(0:Int),(0:Int),(0:Int),(0:Int),(0:Int),(0:Int),(0:Int),(0:Int),(0:Int),(0:Int),(0:Int),(0:Int),(0:Int),(0:Int),(0:Int)⟩:aY)⟩:bc)⟩:ez),([]:Str),([]:Str),([x4,(⟨(7:Int),(⟨(⟨false,false,(⟨(0:Int),(0:Int),(0:Int),(0:Int),(0:Int),(0:Int),(0:Int),(0:Int),(0:Int),(0:Int),(0:Int),(0:Int),(0:Int),(0:Int),(0:Int),(0:Int)⟩:aY)⟩:bc),(⟨false,false,(⟨(0:Int),(0:Int),(0:Int),(0:Int),(0:Int),(0:Int),(0:Int),(0:Int),(0:Int),(0:Int),(0:Int),(0:Int),(0:Int),(0:Int),(0:Int),(0:Int)⟩:aY)⟩:bc)⟩:ez),([]:Str),([]:Str),([x1,x2]:List ab),(0:Int)⟩:ab)]:List ab),(0:Int)⟩:ab),([]:List aA),([]:List aA),([]:List bm),(0:Int)⟩:aA)]:List aA)) fun x6=>Option.bind (dO F (981:Int) (100:Int) ([109,47,115,94,50]:Str)) fun x7=>Option.bind (iM F ([121,97,114,100,32,123,32,125,32,108,101,116,32,97,32,61,32,49,32,43,32,50,32,42,32,51,59]:Str) (⟨([]:List aW),x6⟩:Source)) fun x11=>Option.bind (aT x11 (iM F ([121,97,114,100,32,123,32,103,114,97,118,105,116,121,32,57,46,56,49,32,91,109,47,115,94,50,93,59,32,125,32,112,97,117,115,101,59]:Str) (⟨([(⟨(1:Int),(0:Int),([]:Str),([]:Str),([]:Str),([x7]:List ab),([]:List af),([]:List aL),(0:Int)⟩:aW)]:List aW),([(⟨(5:Int),(7:Int),([]:Str),(⟨(0:Int),(⟨(⟨false,false,(⟨(0:Int),(0:Int),(0:Int),(0:Int),(0:Int),(0:Int),(0:Int),(0:Int),(0:Int),(0:Int),(0:Int),(0:Int),(0:Int),(0:Int),(0:Int),(0:Int)⟩:aY)⟩:bc),(⟨false,false,(⟨(0:Int),(0:Int),(0:Int),(0:Int),(0:Int),(0:Int),(0:Int),(0:Int),(0:Int),(0:Int),(0:Int),(0:Int),(0:Int),(0:Int),(0:Int),(0:Int)⟩:aY)⟩:bc)⟩:ez),([]:Str),([]:Str),([]:List ab),(0:Int)⟩:ab),([]:List aA),([]:List aA),([]:List bm),(0:Int)⟩:aA)]:List aA)⟩:Source))) fun x12=>Option.bind (tF F (⟨([]:List aW),x6⟩:Source)) fun x14=>Option.bind (gZ F ([121,97,114,100,32,123,32,112,114,111,112,32,112,32,123,32,98,111,120,32,40,48,44,32,48,44,32,48,41,32,116,111,32,40,49,44,32,49,44,32,50,41,59,32,109,97,115,115,32,49,32,91,107,103,93,32,46,46,32,50,32,91,107,103,93,59,32,97,116,32,40,48,44,32,48,44,32,48,41,32,116,117,114,110,32,40,49,44,32,48,44,32,48,44,32,45,49,41,59,32,125,32,125,32,112,108,97,99,101,32,112,32,98,121,32,40,49,44,32,50,44,32,51,41,44,32,40,49,44,32,50,44,32,50,41,59]:Str)) fun x18=>bA (((decide (x18.2=(⟨(0:Int),(0:Int)⟩:Problem)))&&(decide ((x18.1.Items.length:Int)=(1:Int))))) fun x22=>Option.bind (aT x22 (aD x18.1.Items (0:Int))) fun x23=>bA (((x22&&(decide ((x23.Fields.length:Int)=(3:Int))))&&(decide ((x18.1.Code.length:Int)=(1:Int))))) fun x29=>Option.bind (aT x29 (aD x18.1.Code (0:Int))) fun x30=>bA ((x29&&(decide (x30.Op=(1:Int))))) fun x32=>Option.bind (aT x32 (aD x18.1.Code (0:Int))) fun x33=>bA ((((x11&&x12)&&((decide (x14.2=(0:Int)))&&(decide (x14.1=([121,97,114,100,32,123,10,125,10,108,101,116,32,97,32,61,32,49,32,43,32,40,50,32,42,32,51,41,59,10]:Str)))))&&(x32&&(decide ((x33.Poses.length:Int)=(2:Int)))))) fun x38=>Option.bind (aT x38 (eU F ([121,97,114,100,32,123,32,125,32,108,101,116,32,97,32,61,32,59]:Str) (17:Int) (280:Int))) fun x39=>bA ((x38&&x39)) fun x40=>Option.bind (aT x40 (eU F ([121,97,114,100,32,123,32,125,32,114,117,110,32,49]:Str) (14:Int) (280:Int))) fun x41=>bA ((x40&&x41)) fun x42=>Option.bind (aT x42 (eU F ([121,97,114,100,32,123,32,125,32,112,108,97,99,101,32,112,32,98,121,32,40,48,44,32,48,44,32,48,41,32,116,117,114,110,32,40,49,44,32,48,44,32,48,44,32,54,53,41,59]:Str) (45:Int) (281:Int))) fun x43=>some (x42&&x43)
def eM (F:Nat) (op:Int):Option Str:=(if (decide (op=(17:Int)))=true then some ([111,114]:Str) else (if (decide (op=(16:Int)))=true then some ([97,110,100]:Str) else (if (decide (op=(5:Int)))=true then some ([43]:Str) else (if (decide (op=(6:Int)))=true then some ([45]:Str) else (if (decide (op=(7:Int)))=true then some ([42]:Str) else some ([47]:Str))))))
def cn (F:Nat) (op:Int):Option Int:=(if (decide (op=(17:Int)))=true then some (1:Int) else (if (decide (op=(16:Int)))=true then some (2:Int) else Option.bind (bA (decide (op=(5:Int))) fun x3=>(if x3=true then some x3 else some (decide (op=(6:Int)))):Option (Bool)) fun x5=>(if x5=true then some (5:Int) else Option.bind (bA (decide (op=(7:Int))) fun x6=>(if x6=true then some x6 else some (decide (op=(8:Int)))):Option (Bool)) fun x8=>(if x8=true then some (6:Int) else some (9:Int)))))
def cQ:Nat->ab->Option (Str×Bool)
 | 0,_=>none
 | F+1,x=>(if (decide ((x.Args.length:Int)≠(2:Int)))=true then some (x.Name,(decide (x.Op=(2:Int)))) else Option.bind (aD x.Args (0:Int)) fun x4=>Option.bind (cQ F x4) fun x5=>Option.bind (aD x.Args (1:Int)) fun x6=>Option.bind (cQ F x6) fun x7=>Option.bind (cn F x.Op) fun x8=>Option.bind (bT x5.1 ([32]:Str)) fun x9=>Option.bind (eM F x.Op) fun x10=>Option.bind (bT x9 x10) fun x11=>Option.bind (bT x11 ([32]:Str)) fun x12=>Option.bind (bT x12 x7.1) fun x13=>bA ((x5.2&&x7.2)) fun x14=>Option.bind (aT x14 (aD x.Args (0:Int))) fun x15=>Option.bind (aT x14 (cn F x15.Op)) fun x16=>bA ((x14&&(decide (x8<=x16)))) fun x18=>Option.bind (aT x18 (aD x.Args (1:Int))) fun x19=>Option.bind (aT x18 (cn F x19.Op)) fun x20=>some (x13,(x18&&(decide (x8<x20)))))
def df (F:Nat) (v0:List Int):Option Bool:=(if (decide ((40:Int)<(v0.length:Int)))=true then Option.bind (dN F) fun x3=>some x3 else Option.bind (iter F (fun (x5:Str×Int)=>((if (decide (x5.2<(v0.length:Int)))=true then Option.bind (bT x5.1 ([32]:Str)) fun x8=>Option.bind (aD v0 x5.2) fun x9=>Option.bind (lG x9 (6:Int)) fun x10=>Option.bind (aD ([(17:Int),(16:Int),(5:Int),(6:Int),(7:Int),(8:Int)]:List Int) x10) fun x11=>Option.bind (lG x5.2 (3:Int)) fun x13=>Option.bind (aD ([([97]:Str),([98]:Str),([99]:Str)]:List Str) x13) fun x14=>Option.bind (eM F x11) fun x15=>Option.bind (bT x8 x15) fun x16=>Option.bind (bT x16 ([32]:Str)) fun x17=>Option.bind (bT x17 x14) fun x18=>some (.inl (x18,(i64.wrap (x5.2+(1:Int))))) else some (.inr x5.1)):Option ((Str×Int)⊕Str))) (([97]:Str),(0:Int))) (fun x20=>Option.bind (kM F x20) fun x21=>Option.bind (cQ F x21.1) fun x22=>Option.bind (dN F) fun x23=>some (((x23&&(decide (x21.2=(⟨(0:Int),(0:Int)⟩:Problem))))&&x22.2)&&(decide (x22.1=x20)))))
end Go.Dn
