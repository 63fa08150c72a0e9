/- printed walks -/
import Derived.Test.YtpkheobgojeapaaGreatDoorW1
namespace Go.Dn
open Go Go.Sk Go.Proofs X
set_option linter.unusedVariables false
variable {mx:Int}
def iQ (F:Nat):bJ DD pk:=⟨14,[.d (.str)],[],[],[],[.sl (.st .Token),.st .Problem],true,false,false,false,fun a l=>ed F a.1⟩
theorem lv (F:Nat):av Tryz.prog (aw mx) (iQ F):=nH ⟨Tryz.call14⟩ fun a r h=>wK (mx:=mx) h
def uE (F:Nat):bJ DD pk:=⟨208,[.d (.str)],[],[],[],[.st .bb,.int .i64],true,false,false,false,fun a l=>j5 F a.1⟩
theorem Bd (F:Nat):av Tryz.prog (aw mx) (uE F):=nH ⟨Tryz.call208⟩ fun a r h=>xC (mx:=mx) h
def wA (F:Nat):bJ DD pk:=⟨161,[.d (.st .bb)],[],[],[],[.str],true,false,false,false,fun a l=>oq F a.1⟩
theorem CX (F:Nat):av Tryz.prog (aw mx) (wA F):=nH ⟨Tryz.call161⟩ fun a r h=>yA (mx:=mx) h
end Go.Dn
namespace Go.Dn
open Go Go.Sk
open X
set_option linter.unusedVariables false
def uk (F:Nat) (v0:List Token):Option Int:=Option.bind (iter F (fun (x2:Int × Int × Int)=>((if (decide (x2.2.2 < (v0.length:Int))) = true then Option.bind (aH v0 x2.2.2) fun x4=>(if ((decide ((8000:Int) ≤ x2.2.2)) || (decide ((40:Int) < (IntKind.i64.wrap (x2.1 + x2.2.1))))) = true then some (.inr (.inr x2.2.2)) else Option.bind (bN (((decide (x4.Kind = (1:Int))) && (decide (x4.S = ([110,111,116]:Str))))) fun x12=>(if x12 = true then some x12 else some ((decide (x4.Kind = (5:Int))) && (decide (x4.S = ([45]:Str))))):Option (Bool)) fun x16=>(if x16 = true then some (.inl (x2.1,(IntKind.i64.wrap (x2.2.1 + (1:Int))),(IntKind.i64.wrap (x2.2.2 + (1:Int))))) else (if (decide (x4.Kind ≠ (5:Int))) = true then some (.inl (x2.1,(0:Int),(IntKind.i64.wrap (x2.2.2 + (1:Int))))) else Option.bind (bN (decide (x4.S = ([40]:Str))) fun x20=>(if x20 = true then some x20 else some (decide (x4.S = ([123]:Str)))):Option (Bool)) fun x22=>(if x22 = true then some (.inl ((IntKind.i64.wrap (x2.1 + (1:Int))),(0:Int),(IntKind.i64.wrap (x2.2.2 + (1:Int))))) else Option.bind (bN (decide (x4.S = ([41]:Str))) fun x25=>(if x25 = true then some x25 else some (decide (x4.S = ([125]:Str)))):Option (Bool)) fun x27=>(if x27 = true then some (.inl ((IntKind.i64.wrap (x2.1 - (1:Int))),(0:Int),(IntKind.i64.wrap (x2.2.2 + (1:Int))))) else some (.inl (x2.1,(0:Int),(IntKind.i64.wrap (x2.2.2 + (1:Int)))))))))) else some (.inr (.inl ()))):Option ((Int × Int × Int) ⊕ (Unit ⊕ Int)))) ((0:Int),(0:Int),(0:Int))) (dX (fun x31=>some (v0.length:Int)) (fun x33=>some x33))
def aN (F:Nat) (b1:reader):Option Token:=(if (decide (b1.pos = (b1.l.length:Int))) = true then some (⟨(0:Int),b1.fin,([]:Str)⟩:Token) else Option.bind (aH b1.l b1.pos) fun x3=>some x3)
def aO (F:Nat) (e:Int) (b1:reader):Option ((Unit) ⊕ Problem):=Option.bind (aN F b1) fun x1=>some (.inr (⟨x1.At,e⟩:Problem))
def gR (F:Nat) (v1:List Str) (b1:reader):Option Bool:=Option.bind (aN F b1) fun x1=>Option.bind (iter F (fun (x3:Int)=>((if (decide (x3 < (v1.length:Int))) = true then Option.bind (aH v1 x3) fun x5=>(if ((decide (x1.S = x5)) && ((decide (x1.Kind = (1:Int))) || (decide (x1.Kind = (5:Int))))) = true then some (.inr (.inr true)) else some (.inl (IntKind.i64.wrap (x3 + (1:Int))))) else some (.inr (.inl ()))):Option (Int ⊕ (Unit ⊕ Bool)))) (0:Int)) (dX (fun x12=>some false) (fun x13=>some x13))
def az (F:Nat) (s:Str) (b1:reader):Option (Bool × reader):=Option.bind (gR F ([s]:List Str) b1) fun x2=>(if x2 = true then some (x2,{ b1 with pos:=(IntKind.i64.wrap (b1.pos + (1:Int))) }) else some (x2,b1))
def aE (F:Nat) (v1:List Str) (b1:reader):Option ((reader) ⊕ Problem):=Option.bind (iter F (fun (x2:Int × reader)=>((if (decide (x2.1 < (v1.length:Int))) = true then Option.bind (aH v1 x2.1) fun x4=>Option.bind (az F x4 x2.2) fun x5=>(if (!x5.1) = true then Option.bind (aO F (280:Int) x5.2) (bB (fun p=>some (.inr (.inr p))) fun x7=>some (.inl ((IntKind.i64.wrap (x2.1 + (1:Int))),x5.2))) else some (.inl ((IntKind.i64.wrap (x2.1 + (1:Int))),x5.2))) else some (.inr (.inl x2.2))):Option ((Int × reader) ⊕ (reader ⊕ Problem)))) ((0:Int),b1)) (dX (fun x10=>some (.inl x10)) (fun x11=>some (.inr x11)))
def ef (F:Nat) (kind:Int) (other:Int) (b1:reader):Option ((Token × reader) ⊕ Problem):=Option.bind (aN F b1) fun x1=>Option.bind ((if (((decide (x1.Kind ≠ kind)) && (decide (x1.Kind ≠ other))) || (decide (x1.Kind = (0:Int)))) = true then Option.bind (aO F (280:Int) b1) (bB (fun p=>some (.inr p)) fun x7=>some (.inl ())) else some (.inl ())):Option (Unit ⊕ Problem)) (dX (fun x8=>some (.inl (x1,{ b1 with pos:=(IntKind.i64.wrap (b1.pos + (1:Int))) }))) (fun x10=>some (.inr x10)))
def rX (F:Nat) (t:Token):Option Str:=(if (decide (t.Kind ≠ (4:Int))) = true then some t.S else none)
def qG (F:Nat) (t:Token):Option Bool:=Option.bind (rX F t) fun x1=>Option.bind (ed F x1) fun x2=>bN (((decide (x2.2 = (⟨(0:Int),(0:Int)⟩:Problem))) && (decide ((x2.1.length:Int) = (1:Int))))) fun x6=>Option.bind (bn x6 (aH x2.1 (0:Int))) fun x7=>some (x6 && (decide (x7 = ({ t with At:=(0:Int) }))))
def lA (F:Nat) (s:Str) (c:Int):Option Str:=Option.bind (iter F (fun (x1:Str)=>(bN (decide ((0:Int) < (x1.length:Int))) fun x3=>Option.bind (bn x3 (aH x1 (0:Int))) fun x4=>(if (x3 && (decide ((x4.toNat:Int) = c))) = true then Option.bind (rP x1 (1:Int)) fun x8=>some (.inl x8) else some (.inr x1)):Option (Str ⊕ Str))) s) (fun x9=>some x9)
def oX (F:Nat) (s:Str) (cutset:Str):Option Str:=(if ((decide (s = ([]:Str))) || (decide (cutset = ([]:Str)))) = true then some s else bN (decide ((cutset.length:Int) = (1:Int))) fun x5=>Option.bind (bn x5 (aH cutset (0:Int))) fun x6=>(if (x5 && (decide ((x6.toNat:Int) < (128:Int)))) = true then Option.bind (aH cutset (0:Int)) fun x10=>Option.bind (lA F s (x10.toNat:Int)) fun x12=>some x12 else none))
def ln (F:Nat) (x:bb):Option Bool:=bN (!x.Bad) fun x1=>Option.bind (bn x1 (qf F x)) fun x2=>some (x1 && x2)
def jt (F:Nat) (x:bb):Option Int:=Option.bind (dh F ([x]:List bb)) fun x2=>(if ((!x2) || (decide (x.W = (⟨(0:Int),(0:Int),(0:Int),(0:Int),(0:Int),(0:Int),(0:Int),(0:Int),(0:Int),(0:Int),(0:Int),(0:Int),(0:Int),(0:Int),(0:Int),(0:Int)⟩:aX)))) = true then some (0:Int) else (if x.Neg = true then some (-1:Int) else some (1:Int)))
def pJ (F:Nat)  : Option bb:=Option.bind (fW F (1:Int)) fun x1=>some x1
def xV (F:Nat)  : Option dW:=Option.bind (cJ F) fun x1=>Option.bind (pJ F) fun x2=>some (⟨x1,x2⟩:dW)
def xQ (F:Nat) (x:bb):Option bb:=Option.bind (dh F ([x]:List bb)) fun x2=>(if (!x2) = true then Option.bind (cJ F) fun x4=>some x4 else Option.bind (cK F false x.W) fun x5=>some x5)
def sQ (F:Nat) (v0:bb) (b:bb):Option bb:=Option.bind (dh F ([v0,b]:List bb)) fun x2=>(if (!x2) = true then Option.bind (cJ F) fun x4=>some x4 else Option.bind (gN F v0.W) fun x5=>bN (decide (x5 ≤ (2:Int))) fun x6=>Option.bind (bn x6 (gN F b.W)) fun x7=>(if (x6 && (decide (x7 ≤ (2:Int)))) = true then Option.bind (Df .u64 (IntKind.u64.wrap v0.W.a1) (32:Int)) fun x11=>Option.bind (Df .u64 (IntKind.u64.wrap b.W.a1) (32:Int)) fun x15=>Option.bind (iter F (fun (x18:Int × Int)=>((if (decide (x18.2 ≠ (0:Int))) = true then Option.bind (nC x18.1 x18.2) fun x20=>some (.inl (x18.2,x20)) else some (.inr x18.1)):Option ((Int × Int) ⊕ Int))) ((ior .u64 x11 (IntKind.u64.wrap v0.W.a0)),(ior .u64 x15 (IntKind.u64.wrap b.W.a0)))) (fun x21=>Option.bind (y9 .u64 x21 (32:Int)) fun x23=>Option.bind (cK F false (⟨(IntKind.u32.wrap x21),(IntKind.u32.wrap x23),(0:Int),(0:Int),(0:Int),(0:Int),(0:Int),(0:Int),(0:Int),(0:Int),(0:Int),(0:Int),(0:Int),(0:Int),(0:Int),(0:Int)⟩:aX)) fun x25=>some x25) else (if (!(decide (b.W = (⟨(0:Int),(0:Int),(0:Int),(0:Int),(0:Int),(0:Int),(0:Int),(0:Int),(0:Int),(0:Int),(0:Int),(0:Int),(0:Int),(0:Int),(0:Int),(0:Int)⟩:aX)))) = true then none else Option.bind (xQ F v0) fun x27=>some x27)))
def xP (F:Nat) (x:bb):Option bb:=Option.bind (dh F ([x]:List bb)) fun x2=>(if (!x2) = true then Option.bind (cJ F) fun x4=>some x4 else Option.bind (cK F (!x.Neg) x.W) fun x6=>some x6)
def wE (F:Nat) (x:Int):Option Int:=Option.bind ((if (decide ((65536:Int) ≤ x)) = true then Option.bind (y9 .u32 x (16:Int)) fun x2=>some (x2,(16:Int)) else some (x,(0:Int))):Option (Int × Int)) fun x3=>Option.bind ((if (decide ((256:Int) ≤ x3.1)) = true then Option.bind (y9 .u32 x3.1 (8:Int)) fun x5=>some (x5,(IntKind.i64.wrap (x3.2 + (8:Int)))) else some (x3.1,x3.2)):Option (Int × Int)) fun x7=>Option.bind (aH ([0,1,2,2,3,3,3,3,4,4,4,4,4,4,4,4,5,5,5,5,5,5,5,5,5,5,5,5,5,5,5,5,6,6,6,6,6,6,6,6,6,6,6,6,6,6,6,6,6,6,6,6,6,6,6,6,6,6,6,6,6,6,6,6,7,7,7,7,7,7,7,7,7,7,7,7,7,7,7,7,7,7,7,7,7,7,7,7,7,7,7,7,7,7,7,7,7,7,7,7,7,7,7,7,7,7,7,7,7,7,7,7,7,7,7,7,7,7,7,7,7,7,7,7,7,7,7,7,8,8,8,8,8,8,8,8,8,8,8,8,8,8,8,8,8,8,8,8,8,8,8,8,8,8,8,8,8,8,8,8,8,8,8,8,8,8,8,8,8,8,8,8,8,8,8,8,8,8,8,8,8,8,8,8,8,8,8,8,8,8,8,8,8,8,8,8,8,8,8,8,8,8,8,8,8,8,8,8,8,8,8,8,8,8,8,8,8,8,8,8,8,8,8,8,8,8,8,8,8,8,8,8,8,8,8,8,8,8,8,8,8,8,8,8,8,8,8,8,8,8,8,8,8,8,8,8]:Str) (IntKind.u8.wrap x7.1)) fun x9=>some (IntKind.i64.wrap (x7.2 + (IntKind.i64.wrap (x9.toNat:Int))))
def wa (F:Nat) (x:bb):Option Int:=Option.bind (gN F x.W) fun x1=>Option.bind (dh F ([x]:List bb)) fun x3=>(if ((!x3) || (decide (x1 = (0:Int)))) = true then some (0:Int) else bN (IntKind.i64.wrap (x1 - (1:Int))) fun x9=>Option.bind (aH (aX.al x.W) x9) fun x10=>Option.bind (aH (aX.al x.W) x9) fun x11=>Option.bind (wE F x11) fun x12=>some (IntKind.i64.wrap ((IntKind.i64.wrap ((32:Int) * (IntKind.i64.wrap (x1 - (1:Int))))) + x12)))
def mK (F:Nat) (x:bb):Option (Int × Bool):=Option.bind (dh F ([x]:List bb)) fun x2=>bN (!x2) fun x3=>Option.bind (bn (!x3) (wa F x)) fun x4=>(if (x3 || (decide ((64:Int) < x4))) = true then some ((0:Int),false) else Option.bind (Df .u64 (IntKind.u64.wrap x.W.a1) (32:Int)) fun x8=>bN (ior .u64 x8 (IntKind.u64.wrap x.W.a0)) fun x10=>(if (x.Neg && (decide (x10 ≤ (9223372036854775808:Int)))) = true then some ((IntKind.i64.wrap (IntKind.u64.wrap (-x10))),true) else (if ((!x.Neg) && (decide (x10 < (9223372036854775808:Int)))) = true then some ((IntKind.i64.wrap x10),true) else some ((0:Int),false))))
def rS (F:Nat) (v0:bb) (b:bb):Option (bb × bb):=Option.bind (dh F ([v0,b]:List bb)) fun x2=>bN (!x2) fun x3=>Option.bind (bn (!x3) (jt F b)) fun x4=>(if (x3 || (decide (x4 = (0:Int)))) = true then Option.bind (cJ F) fun x7=>Option.bind (cJ F) fun x8=>some (x7,x8) else Option.bind (Option.bind (mK F v0) fun x9=>(if (x9.2 && (decide (x9.1 ≠ (-9223372036854775808:Int)))) = true then Option.bind (mK F b) fun x12=>(if (x12.2 && (decide (x12.1 ≠ (-9223372036854775808:Int)))) = true then Option.bind (oE .i64 x9.1 x12.1) fun x15=>Option.bind (nC x9.1 x12.1) fun x16=>Option.bind ((if ((decide (x16 ≠ (0:Int))) && ((decide (x16 < (0:Int))) != (decide (x12.1 < (0:Int))))) = true then some ((IntKind.i64.wrap (x15 - (1:Int))),(IntKind.i64.wrap (x16 + x12.1))) else some (x15,x16)):Option (Int × Int)) fun x24=>Option.bind (fW F x24.1) fun x25=>Option.bind (fW F x24.2) fun x26=>some (.inr (x25,x26)) else some (.inl ((⟨false,false,(⟨(0:Int),(0:Int),(0:Int),(0:Int),(0:Int),(0:Int),(0:Int),(0:Int),(0:Int),(0:Int),(0:Int),(0:Int),(0:Int),(0:Int),(0:Int),(0:Int)⟩:aX)⟩:bb),(⟨false,false,(⟨(0:Int),(0:Int),(0:Int),(0:Int),(0:Int),(0:Int),(0:Int),(0:Int),(0:Int),(0:Int),(0:Int),(0:Int),(0:Int),(0:Int),(0:Int),(0:Int)⟩:aX)⟩:bb)))) else some (.inl ((⟨false,false,(⟨(0:Int),(0:Int),(0:Int),(0:Int),(0:Int),(0:Int),(0:Int),(0:Int),(0:Int),(0:Int),(0:Int),(0:Int),(0:Int),(0:Int),(0:Int),(0:Int)⟩:aX)⟩:bb),(⟨false,false,(⟨(0:Int),(0:Int),(0:Int),(0:Int),(0:Int),(0:Int),(0:Int),(0:Int),(0:Int),(0:Int),(0:Int),(0:Int),(0:Int),(0:Int),(0:Int),(0:Int)⟩:aX)⟩:bb)))):Option ((bb × bb) ⊕ (bb × bb))) (dX (fun x27=>none) (fun x28=>some (x28.1,x28.2))))
def sO (F:Nat) (v0:bb) (b:bb):Option bb:=Option.bind (rS F v0 b) fun x1=>some x1.1
def rl (F:Nat) (n:bb) (d:bb):Option dW:=Option.bind (ln F n) fun x1=>bN (!x1) fun x2=>Option.bind (bn (!x2) (ln F d)) fun x3=>bN ((x2 || (!x3))) fun x5=>Option.bind (bn (!x5) (jt F d)) fun x6=>(if (x5 || (decide (x6 = (0:Int)))) = true then Option.bind (xV F) fun x9=>some x9 else Option.bind (sQ F n d) fun x10=>Option.bind (Option.bind (jt F d) fun x11=>(if (decide (x11 < (0:Int))) = true then Option.bind (xP F x10) fun x13=>some x13 else some x10):Option (bb)) fun x14=>Option.bind (sO F n x14) fun x15=>Option.bind (sO F d x14) fun x16=>some (⟨x15,x16⟩:dW))
def qh (F:Nat) (t:Token):Option (dW × Int):=bN (decide (t.Kind ≠ (3:Int))) fun x1=>Option.bind (bn (!x1) (qG F t)) fun x2=>(if (x1 || (!x2)) = true then some ((⟨(⟨false,false,(⟨(0:Int),(0:Int),(0:Int),(0:Int),(0:Int),(0:Int),(0:Int),(0:Int),(0:Int),(0:Int),(0:Int),(0:Int),(0:Int),(0:Int),(0:Int),(0:Int)⟩:aX)⟩:bb),(⟨false,false,(⟨(0:Int),(0:Int),(0:Int),(0:Int),(0:Int),(0:Int),(0:Int),(0:Int),(0:Int),(0:Int),(0:Int),(0:Int),(0:Int),(0:Int),(0:Int),(0:Int)⟩:aX)⟩:bb)⟩:dW),(1:Int)) else Option.bind (ui F t.S ([46]:Str)) fun x5=>Option.bind (bV x5.1 x5.2.1) fun x6=>Option.bind (oX F x6 ([48]:Str)) fun x7=>Option.bind ((if (decide (x7 = ([]:Str))) = true then some ([48]:Str) else some x7):Option (Str)) fun x9=>Option.bind (j5 F x9) fun x10=>Option.bind (eV F ([48]:Str) (x5.2.1.length:Int)) fun x12=>Option.bind (bV ([49]:Str) x12) fun x13=>Option.bind (j5 F x13) fun x14=>Option.bind (rl F x10.1 x14.1) fun x15=>some (x15,(0:Int)))
def c6 (F:Nat) (s:Str) (b1:Builder) (b2:List Int):Option (Int × Unit × Builder × (List Int)):=Option.bind (Ju F b1 b2) fun x1=>Option.bind (Br x1.2 s) fun x2=>some ((s.length:Int),(),x1.1,x2)
def nM (F:Nat) (s:Str) (substr:Str):Option Int:=bN ((substr.length:Int)) fun x1=>(if ((decide (x1 = (0:Int))) || (decide (substr = s))) = true then some (0:Int) else (if (decide (x1 = (1:Int))) = true then Option.bind (aH substr (0:Int)) fun x6=>Option.bind (mF F s (x6.toNat:Int)) fun x8=>some x8 else (if (decide ((s.length:Int) ≤ x1)) = true then some (-1:Int) else none)))
def rT (F:Nat) (s:Str) (substr:Str):Option Int:=Option.bind (nM F s substr) fun x1=>some x1
def oY (F:Nat) (s:Str) (substr:Str):Option Bool:=Option.bind (rT F s substr) fun x1=>some (decide ((0:Int) ≤ x1))
def gz (F:Nat) (most:Int) (b1:reader):Option ((Int × Str × reader) ⊕ Problem):=Option.bind (az F ([45]:Str) b1) fun x1=>Option.bind (ef F (3:Int) (3:Int) x1.2) (bB (fun p=>some (.inr p)) fun x2=>Option.bind (qh F x2.1) fun x3=>Option.bind (mK F x3.1.N) fun x4=>Option.bind (bN (((!x4.2) || (decide (most < x4.1)))) fun x7=>Option.bind (bn (!x7) (oY F x2.1.S ([46]:Str))) fun x8=>(if (x7 || x8) = true then bN (IntKind.i64.wrap (x2.2.pos - (1:Int))) fun x10=>Option.bind (aO F (281:Int) ({ x2.2 with pos:=x10 })) (bB (fun p=>some (.inr p)) fun x11=>some (.inl ({ x2.2 with pos:=x10 }))) else some (.inl x2.2)):Option (reader ⊕ Problem)) (dX (fun x12=>(if x1.1 = true then Option.bind (bV ([45]:Str) x2.1.S) fun x14=>some (.inl ((IntKind.i64.wrap (-x4.1)),x14,x12)) else some (.inl (x4.1,x2.1.S,x12)))) (fun x15=>some (.inr x15))))
def j7 (F:Nat) (b1:Builder) (b2:List Int):Option (Str × Builder × (List Int)):=Option.bind (Dg (!b2.isEmpty)) fun x1=>Option.bind (Dg (decide ((b2.length:Int) = (b2.length:Int)) && !b2.isEmpty)) fun x3=>some ((toStr b2),b1,([]:List Int))
def mX (F:Nat) (b1:reader):Option ((Str × reader) ⊕ Problem):=Option.bind (iter F (fun (x1:reader × Builder × (List Int))=>(Option.bind (ef F (2:Int) (3:Int) x1.1) (bB (fun p=>some (.inr (.inr p))) fun x2=>Option.bind ((if ((decide (x2.1.Kind = (3:Int))) && (decide (x2.1.S ≠ ([49]:Str)))) = true then bN (IntKind.i64.wrap (x2.2.pos - (1:Int))) fun x6=>Option.bind (aO F (281:Int) ({ x2.2 with pos:=x6 })) (bB (fun p=>some (.inr p)) fun x7=>some (.inl ({ x2.2 with pos:=x6 }))) else some (.inl x2.2)):Option (reader ⊕ Problem)) (dX (fun x8=>Option.bind (c6 F x2.1.S x1.2.1 x1.2.2) fun x9=>Option.bind (Option.bind (az F ([94]:Str) x8) fun x10=>(if x10.1 = true then Option.bind (gz F (1000000:Int) x10.2) (bB (fun p=>some (.inr p)) fun x11=>Option.bind (bV ([94]:Str) x11.2.1) fun x12=>Option.bind (c6 F x12 x9.2.2.1 x9.2.2.2) fun x13=>some (.inl (x11.2.2,x13.2.2.1,x13.2.2.2))) else some (.inl (x10.2,x9.2.2.1,x9.2.2.2))):Option ((reader × Builder × (List Int)) ⊕ Problem)) (dX (fun x14=>Option.bind (gR F ([([42]:Str),([47]:Str)]:List Str) x14.1) fun x16=>(if (!x16) = true then Option.bind (j7 F x14.2.1 x14.2.2) fun x18=>some (.inr (.inl (x18.1,x14.1))) else Option.bind (aN F x14.1) fun x19=>Option.bind (c6 F x19.S x14.2.1 x14.2.2) fun x20=>some (.inl ({ x14.1 with pos:=(IntKind.i64.wrap (x14.1.pos + (1:Int))) },x20.2.2.1,x20.2.2.2)))) (fun x22=>some (.inr (.inr x22))))) (fun x23=>some (.inr (.inr x23))))):Option ((reader × Builder × (List Int)) ⊕ ((Str × reader) ⊕ Problem)))) (b1,(⟨false,([]:List Int)⟩:Builder),([]:List Int))) (dX (fun x24=>some (.inl (x24.1,x24.2))) (fun x25=>some (.inr x25)))
mutual
def m':Nat → reader → Option ((af × reader) ⊕ Problem)
 | 0,_=>none
 | F + 1,b1=>Option.bind (aN F b1) fun x1=>Option.bind (az F ([116,114,117,101]:Str) b1) fun x2=>(if x2.1 = true then some (.inl ((⟨(3:Int),(⟨(⟨false,false,(⟨(0:Int),(0:Int),(0:Int),(0:Int),(0:Int),(0:Int),(0:Int),(0:Int),(0:Int),(0:Int),(0:Int),(0:Int),(0:Int),(0:Int),(0:Int),(0:Int)⟩:aX)⟩:bb),(⟨false,false,(⟨(0:Int),(0:Int),(0:Int),(0:Int),(0:Int),(0:Int),(0:Int),(0:Int),(0:Int),(0:Int),(0:Int),(0:Int),(0:Int),(0:Int),(0:Int),(0:Int)⟩:aX)⟩:bb)⟩:dW),([]:Str),([]:Str),([]:List af),x1.At⟩:af),x2.2)) else Option.bind (az F ([102,97,108,115,101]:Str) x2.2) fun x3=>(if x3.1 = true then some (.inl ((⟨(4:Int),(⟨(⟨false,false,(⟨(0:Int),(0:Int),(0:Int),(0:Int),(0:Int),(0:Int),(0:Int),(0:Int),(0:Int),(0:Int),(0:Int),(0:Int),(0:Int),(0:Int),(0:Int),(0:Int)⟩:aX)⟩:bb),(⟨false,false,(⟨(0:Int),(0:Int),(0:Int),(0:Int),(0:Int),(0:Int),(0:Int),(0:Int),(0:Int),(0:Int),(0:Int),(0:Int),(0:Int),(0:Int),(0:Int),(0:Int)⟩:aX)⟩:bb)⟩:dW),([]:Str),([]:Str),([]:List af),x1.At⟩:af),x3.2)) else Option.bind (az F ([40]:Str) x3.2) fun x4=>(if x4.1 = true then Option.bind (cf F x4.2) (bB (fun p=>some (.inr p)) fun x5=>Option.bind (aE F ([([41]:Str)]:List Str) x5.2) (bB (fun p=>some (.inr p)) fun x7=>some (.inl (x5.1,x7)))) else Option.bind (ef F (2:Int) (3:Int) x4.2) (bB (fun p=>some (.inr p)) fun x8=>(if (decide (x1.Kind = (2:Int))) = true then some (.inl ((⟨(2:Int),(⟨(⟨false,false,(⟨(0:Int),(0:Int),(0:Int),(0:Int),(0:Int),(0:Int),(0:Int),(0:Int),(0:Int),(0:Int),(0:Int),(0:Int),(0:Int),(0:Int),(0:Int),(0:Int)⟩:aX)⟩:bb),(⟨false,false,(⟨(0:Int),(0:Int),(0:Int),(0:Int),(0:Int),(0:Int),(0:Int),(0:Int),(0:Int),(0:Int),(0:Int),(0:Int),(0:Int),(0:Int),(0:Int),(0:Int)⟩:aX)⟩:bb)⟩:dW),([]:Str),x1.S,([]:List af),x1.At⟩:af),x8.2)) else Option.bind (qh F x1) fun x10=>Option.bind (az F ([91]:Str) x8.2) fun x11=>(if x11.1 = true then Option.bind (mX F x11.2) (bB (fun p=>some (.inr p)) fun x12=>Option.bind (aE F ([([93]:Str)]:List Str) x12.2) (bB (fun p=>some (.inr p)) fun x14=>some (.inl ((⟨(1:Int),x10.1,x12.1,([]:Str),([]:List af),x1.At⟩:af),x14)))) else some (.inl ((⟨(1:Int),x10.1,([]:Str),([]:Str),([]:List af),x1.At⟩:af),x11.2))))))))
def fL:Nat → reader → Option ((af × reader) ⊕ Problem)
 | 0,_=>none
 | F + 1,b1=>Option.bind (aN F b1) fun x1=>Option.bind (az F ([45]:Str) b1) fun x2=>(if x2.1 = true then Option.bind (fL F x2.2) (bB (fun p=>some (.inr p)) fun x3=>some (.inl ((⟨(9:Int),(⟨(⟨false,false,(⟨(0:Int),(0:Int),(0:Int),(0:Int),(0:Int),(0:Int),(0:Int),(0:Int),(0:Int),(0:Int),(0:Int),(0:Int),(0:Int),(0:Int),(0:Int),(0:Int)⟩:aX)⟩:bb),(⟨false,false,(⟨(0:Int),(0:Int),(0:Int),(0:Int),(0:Int),(0:Int),(0:Int),(0:Int),(0:Int),(0:Int),(0:Int),(0:Int),(0:Int),(0:Int),(0:Int),(0:Int)⟩:aX)⟩:bb)⟩:dW),([]:Str),([]:Str),([x3.1]:List af),x1.At⟩:af),x3.2))) else Option.bind (m' F x2.2) (bB (fun p=>some (.inr p)) fun x5=>some (.inl (x5.1,x5.2))))
def jd:Nat → reader → Option ((af × reader) ⊕ Problem)
 | 0,_=>none
 | F + 1,b1=>Option.bind (fL F b1) (bB (fun p=>some (.inr p)) fun x1=>Option.bind (iter F (fun (x2:reader × af × af)=>(Option.bind (aN F x2.1) fun x3=>bN ((dU ([(([42]:Str),(7:Int)),(([47]:Str),(8:Int))]:List (Str × Int)) x3.S).getD (0:Int)) fun x4=>(if ((decide (x4 = (0:Int))) || ((decide (x3.Kind ≠ (1:Int))) && (decide (x3.Kind ≠ (5:Int))))) = true then some (.inr (.inl (x2.1,x2.2.2))) else Option.bind (fL F ({ x2.1 with pos:=(IntKind.i64.wrap (x2.1.pos + (1:Int))) })) (bB (fun p=>some (.inr (.inr p))) fun x11=>some (.inl (x11.2,x2.2.1,(⟨x4,(⟨(⟨false,false,(⟨(0:Int),(0:Int),(0:Int),(0:Int),(0:Int),(0:Int),(0:Int),(0:Int),(0:Int),(0:Int),(0:Int),(0:Int),(0:Int),(0:Int),(0:Int),(0:Int)⟩:aX)⟩:bb),(⟨false,false,(⟨(0:Int),(0:Int),(0:Int),(0:Int),(0:Int),(0:Int),(0:Int),(0:Int),(0:Int),(0:Int),(0:Int),(0:Int),(0:Int),(0:Int),(0:Int),(0:Int)⟩:aX)⟩:bb)⟩:dW),([]:Str),([]:Str),([x2.2.2,x11.1]:List af),x3.At⟩:af))))):Option ((reader × af × af) ⊕ ((reader × af) ⊕ Problem)))) (x1.2,(⟨(0:Int),(⟨(⟨false,false,(⟨(0:Int),(0:Int),(0:Int),(0:Int),(0:Int),(0:Int),(0:Int),(0:Int),(0:Int),(0:Int),(0:Int),(0:Int),(0:Int),(0:Int),(0:Int),(0:Int)⟩:aX)⟩:bb),(⟨false,false,(⟨(0:Int),(0:Int),(0:Int),(0:Int),(0:Int),(0:Int),(0:Int),(0:Int),(0:Int),(0:Int),(0:Int),(0:Int),(0:Int),(0:Int),(0:Int),(0:Int)⟩:aX)⟩:bb)⟩:dW),([]:Str),([]:Str),([]:List af),(0:Int)⟩:af),x1.1)) (dX (fun x13=>some (.inl (x13.2,x13.1))) (fun x14=>some (.inr x14))))
def gy:Nat → reader → Option ((af × reader) ⊕ Problem)
 | 0,_=>none
 | F + 1,b1=>Option.bind (jd F b1) (bB (fun p=>some (.inr p)) fun x1=>some (.inl (x1.1,x1.2)))
def jF:Nat → reader → Option ((af × reader) ⊕ Problem)
 | 0,_=>none
 | F + 1,b1=>Option.bind (gy F b1) (bB (fun p=>some (.inr p)) fun x1=>Option.bind (iter F (fun (x2:reader × af × af)=>(Option.bind (aN F x2.1) fun x3=>bN ((dU ([(([43]:Str),(5:Int)),(([45]:Str),(6:Int))]:List (Str × Int)) x3.S).getD (0:Int)) fun x4=>(if ((decide (x4 = (0:Int))) || ((decide (x3.Kind ≠ (1:Int))) && (decide (x3.Kind ≠ (5:Int))))) = true then some (.inr (.inl (x2.1,x2.2.2))) else Option.bind (gy F ({ x2.1 with pos:=(IntKind.i64.wrap (x2.1.pos + (1:Int))) })) (bB (fun p=>some (.inr (.inr p))) fun x11=>some (.inl (x11.2,x2.2.1,(⟨x4,(⟨(⟨false,false,(⟨(0:Int),(0:Int),(0:Int),(0:Int),(0:Int),(0:Int),(0:Int),(0:Int),(0:Int),(0:Int),(0:Int),(0:Int),(0:Int),(0:Int),(0:Int),(0:Int)⟩:aX)⟩:bb),(⟨false,false,(⟨(0:Int),(0:Int),(0:Int),(0:Int),(0:Int),(0:Int),(0:Int),(0:Int),(0:Int),(0:Int),(0:Int),(0:Int),(0:Int),(0:Int),(0:Int),(0:Int)⟩:aX)⟩:bb)⟩:dW),([]:Str),([]:Str),([x2.2.2,x11.1]:List af),x3.At⟩:af))))):Option ((reader × af × af) ⊕ ((reader × af) ⊕ Problem)))) (x1.2,(⟨(0:Int),(⟨(⟨false,false,(⟨(0:Int),(0:Int),(0:Int),(0:Int),(0:Int),(0:Int),(0:Int),(0:Int),(0:Int),(0:Int),(0:Int),(0:Int),(0:Int),(0:Int),(0:Int),(0:Int)⟩:aX)⟩:bb),(⟨false,false,(⟨(0:Int),(0:Int),(0:Int),(0:Int),(0:Int),(0:Int),(0:Int),(0:Int),(0:Int),(0:Int),(0:Int),(0:Int),(0:Int),(0:Int),(0:Int),(0:Int)⟩:aX)⟩:bb)⟩:dW),([]:Str),([]:Str),([]:List af),(0:Int)⟩:af),x1.1)) (dX (fun x13=>some (.inl (x13.2,x13.1))) (fun x14=>some (.inr x14))))
def jQ:Nat → reader → Option ((af × reader) ⊕ Problem)
 | 0,_=>none
 | F + 1,b1=>Option.bind (jF F b1) (bB (fun p=>some (.inr p)) fun x1=>some (.inl (x1.1,x1.2)))
def mY:Nat → reader → Option ((af × reader) ⊕ Problem)
 | 0,_=>none
 | F + 1,b1=>Option.bind (jQ F b1) (bB (fun p=>some (.inr p)) fun x1=>Option.bind (aN F x1.2) fun x2=>bN ((dU ([(([60]:Str),(10:Int)),(([60,61]:Str),(13:Int)),(([62]:Str),(12:Int)),(([62,61]:Str),(11:Int)),(([61,61]:Str),(14:Int)),(([33,61]:Str),(15:Int))]:List (Str × Int)) x2.S).getD (0:Int)) fun x3=>(if ((decide (x3 = (0:Int))) || (decide (x2.Kind ≠ (5:Int)))) = true then some (.inl (x1.1,x1.2)) else Option.bind (jQ F ({ x1.2 with pos:=(IntKind.i64.wrap (x1.2.pos + (1:Int))) })) (bB (fun p=>some (.inr p)) fun x8=>some (.inl ((⟨x3,(⟨(⟨false,false,(⟨(0:Int),(0:Int),(0:Int),(0:Int),(0:Int),(0:Int),(0:Int),(0:Int),(0:Int),(0:Int),(0:Int),(0:Int),(0:Int),(0:Int),(0:Int),(0:Int)⟩:aX)⟩:bb),(⟨false,false,(⟨(0:Int),(0:Int),(0:Int),(0:Int),(0:Int),(0:Int),(0:Int),(0:Int),(0:Int),(0:Int),(0:Int),(0:Int),(0:Int),(0:Int),(0:Int),(0:Int)⟩:aX)⟩:bb)⟩:dW),([]:Str),([]:Str),([x1.1,x8.1]:List af),x2.At⟩:af),x8.2)))))
def gi:Nat → reader → Option ((af × reader) ⊕ Problem)
 | 0,_=>none
 | F + 1,b1=>Option.bind (aN F b1) fun x1=>Option.bind (az F ([110,111,116]:Str) b1) fun x2=>(if x2.1 = true then Option.bind (gi F x2.2) (bB (fun p=>some (.inr p)) fun x3=>some (.inl ((⟨(18:Int),(⟨(⟨false,false,(⟨(0:Int),(0:Int),(0:Int),(0:Int),(0:Int),(0:Int),(0:Int),(0:Int),(0:Int),(0:Int),(0:Int),(0:Int),(0:Int),(0:Int),(0:Int),(0:Int)⟩:aX)⟩:bb),(⟨false,false,(⟨(0:Int),(0:Int),(0:Int),(0:Int),(0:Int),(0:Int),(0:Int),(0:Int),(0:Int),(0:Int),(0:Int),(0:Int),(0:Int),(0:Int),(0:Int),(0:Int)⟩:aX)⟩:bb)⟩:dW),([]:Str),([]:Str),([x3.1]:List af),x1.At⟩:af),x3.2))) else Option.bind (mY F x2.2) (bB (fun p=>some (.inr p)) fun x5=>some (.inl (x5.1,x5.2))))
def j8:Nat → reader → Option ((af × reader) ⊕ Problem)
 | 0,_=>none
 | F + 1,b1=>Option.bind (gi F b1) (bB (fun p=>some (.inr p)) fun x1=>Option.bind (iter F (fun (x2:reader × af × af)=>(Option.bind (aN F x2.1) fun x3=>bN ((dU ([(([97,110,100]:Str),(16:Int))]:List (Str × Int)) x3.S).getD (0:Int)) fun x4=>(if ((decide (x4 = (0:Int))) || ((decide (x3.Kind ≠ (1:Int))) && (decide (x3.Kind ≠ (5:Int))))) = true then some (.inr (.inl (x2.1,x2.2.2))) else Option.bind (gi F ({ x2.1 with pos:=(IntKind.i64.wrap (x2.1.pos + (1:Int))) })) (bB (fun p=>some (.inr (.inr p))) fun x11=>some (.inl (x11.2,x2.2.1,(⟨x4,(⟨(⟨false,false,(⟨(0:Int),(0:Int),(0:Int),(0:Int),(0:Int),(0:Int),(0:Int),(0:Int),(0:Int),(0:Int),(0:Int),(0:Int),(0:Int),(0:Int),(0:Int),(0:Int)⟩:aX)⟩:bb),(⟨false,false,(⟨(0:Int),(0:Int),(0:Int),(0:Int),(0:Int),(0:Int),(0:Int),(0:Int),(0:Int),(0:Int),(0:Int),(0:Int),(0:Int),(0:Int),(0:Int),(0:Int)⟩:aX)⟩:bb)⟩:dW),([]:Str),([]:Str),([x2.2.2,x11.1]:List af),x3.At⟩:af))))):Option ((reader × af × af) ⊕ ((reader × af) ⊕ Problem)))) (x1.2,(⟨(0:Int),(⟨(⟨false,false,(⟨(0:Int),(0:Int),(0:Int),(0:Int),(0:Int),(0:Int),(0:Int),(0:Int),(0:Int),(0:Int),(0:Int),(0:Int),(0:Int),(0:Int),(0:Int),(0:Int)⟩:aX)⟩:bb),(⟨false,false,(⟨(0:Int),(0:Int),(0:Int),(0:Int),(0:Int),(0:Int),(0:Int),(0:Int),(0:Int),(0:Int),(0:Int),(0:Int),(0:Int),(0:Int),(0:Int),(0:Int)⟩:aX)⟩:bb)⟩:dW),([]:Str),([]:Str),([]:List af),(0:Int)⟩:af),x1.1)) (dX (fun x13=>some (.inl (x13.2,x13.1))) (fun x14=>some (.inr x14))))
def jT:Nat → reader → Option ((af × reader) ⊕ Problem)
 | 0,_=>none
 | F + 1,b1=>Option.bind (j8 F b1) (bB (fun p=>some (.inr p)) fun x1=>some (.inl (x1.1,x1.2)))
def lO:Nat → reader → Option ((af × reader) ⊕ Problem)
 | 0,_=>none
 | F + 1,b1=>Option.bind (jT F b1) (bB (fun p=>some (.inr p)) fun x1=>Option.bind (iter F (fun (x2:reader × af × af)=>(Option.bind (aN F x2.1) fun x3=>bN ((dU ([(([111,114]:Str),(17:Int))]:List (Str × Int)) x3.S).getD (0:Int)) fun x4=>(if ((decide (x4 = (0:Int))) || ((decide (x3.Kind ≠ (1:Int))) && (decide (x3.Kind ≠ (5:Int))))) = true then some (.inr (.inl (x2.1,x2.2.2))) else Option.bind (jT F ({ x2.1 with pos:=(IntKind.i64.wrap (x2.1.pos + (1:Int))) })) (bB (fun p=>some (.inr (.inr p))) fun x11=>some (.inl (x11.2,x2.2.1,(⟨x4,(⟨(⟨false,false,(⟨(0:Int),(0:Int),(0:Int),(0:Int),(0:Int),(0:Int),(0:Int),(0:Int),(0:Int),(0:Int),(0:Int),(0:Int),(0:Int),(0:Int),(0:Int),(0:Int)⟩:aX)⟩:bb),(⟨false,false,(⟨(0:Int),(0:Int),(0:Int),(0:Int),(0:Int),(0:Int),(0:Int),(0:Int),(0:Int),(0:Int),(0:Int),(0:Int),(0:Int),(0:Int),(0:Int),(0:Int)⟩:aX)⟩:bb)⟩:dW),([]:Str),([]:Str),([x2.2.2,x11.1]:List af),x3.At⟩:af))))):Option ((reader × af × af) ⊕ ((reader × af) ⊕ Problem)))) (x1.2,(⟨(0:Int),(⟨(⟨false,false,(⟨(0:Int),(0:Int),(0:Int),(0:Int),(0:Int),(0:Int),(0:Int),(0:Int),(0:Int),(0:Int),(0:Int),(0:Int),(0:Int),(0:Int),(0:Int),(0:Int)⟩:aX)⟩:bb),(⟨false,false,(⟨(0:Int),(0:Int),(0:Int),(0:Int),(0:Int),(0:Int),(0:Int),(0:Int),(0:Int),(0:Int),(0:Int),(0:Int),(0:Int),(0:Int),(0:Int),(0:Int)⟩:aX)⟩:bb)⟩:dW),([]:Str),([]:Str),([]:List af),(0:Int)⟩:af),x1.1)) (dX (fun x13=>some (.inl (x13.2,x13.1))) (fun x14=>some (.inr x14))))
def cf:Nat → reader → Option ((af × reader) ⊕ Problem)
 | 0,_=>none
 | F + 1,b1=>Option.bind (lO F b1) (bB (fun p=>some (.inr p)) fun x1=>some (.inl (x1.1,x1.2)))
end
def kB (F:Nat) (b1:reader) (b2:af):Option ((reader × af) ⊕ Problem):=Option.bind (cf F b1) (bB (fun p=>some (.inr p)) fun x1=>some (.inl (x1.2,x1.1)))
def dk (F:Nat) (b1:reader):Option ((Str × reader) ⊕ Problem):=Option.bind (ef F (2:Int) (2:Int) b1) (bB (fun p=>some (.inr p)) fun x1=>some (.inl (x1.1.S,x1.2)))
def jS (F:Nat) (b1:reader) (b2:ay):Option ((reader × ay) ⊕ Problem):=Option.bind (dk F b1) (bB (fun p=>some (.inr p)) fun x1=>Option.bind (aE F ([([61]:Str)]:List Str) x1.2) (bB (fun p=>some (.inr p)) fun x3=>Option.bind (cf F x3) (bB (fun p=>some (.inr p)) fun x4=>Option.bind (aE F ([([59]:Str)]:List Str) x4.2) (bB (fun p=>some (.inr p)) fun x6=>some (.inl (x6,{ b2 with Name:=x1.1,X:=x4.1 }))))))
def cj (F:Nat) (b1:reader):Option ((ae × reader) ⊕ Problem):=Option.bind (iter F (fun (x1:Int × reader × ae)=>((if (decide (x1.1 < (3:Int))) = true then Option.bind (aH (bX.al (⟨([40]:Str),([44]:Str),([44]:Str)⟩:bX)) x1.1) fun x3=>Option.bind (aE F ([x3]:List Str) x1.2.1) (bB (fun p=>some (.inr (.inr p))) fun x5=>Option.bind (cf F x5) (bB (fun p=>some (.inr (.inr p))) fun x6=>Option.bind (aH (ae.al x1.2.2) x1.1) fun x7=>Option.bind (aH (ae.al x1.2.2) x1.1) fun x8=>some (.inl ((IntKind.i64.wrap (x1.1 + (1:Int))),x6.2,ae.ao ((ae.al x1.2.2).set x1.1.toNat x6.1))))) else some (.inr (.inl (x1.2.1,x1.2.2)))):Option ((Int × reader × ae) ⊕ ((reader × ae) ⊕ Problem)))) ((0:Int),b1,(⟨(⟨(0:Int),(⟨(⟨false,false,(⟨(0:Int),(0:Int),(0:Int),(0:Int),(0:Int),(0:Int),(0:Int),(0:Int),(0:Int),(0:Int),(0:Int),(0:Int),(0:Int),(0:Int),(0:Int),(0:Int)⟩:aX)⟩:bb),(⟨false,false,(⟨(0:Int),(0:Int),(0:Int),(0:Int),(0:Int),(0:Int),(0:Int),(0:Int),(0:Int),(0:Int),(0:Int),(0:Int),(0:Int),(0:Int),(0:Int),(0:Int)⟩:aX)⟩:bb)⟩:dW),([]:Str),([]:Str),([]:List af),(0:Int)⟩:af),(⟨(0:Int),(⟨(⟨false,false,(⟨(0:Int),(0:Int),(0:Int),(0:Int),(0:Int),(0:Int),(0:Int),(0:Int),(0:Int),(0:Int),(0:Int),(0:Int),(0:Int),(0:Int),(0:Int),(0:Int)⟩:aX)⟩:bb),(⟨false,false,(⟨(0:Int),(0:Int),(0:Int),(0:Int),(0:Int),(0:Int),(0:Int),(0:Int),(0:Int),(0:Int),(0:Int),(0:Int),(0:Int),(0:Int),(0:Int),(0:Int)⟩:aX)⟩:bb)⟩:dW),([]:Str),([]:Str),([]:List af),(0:Int)⟩:af),(⟨(0:Int),(⟨(⟨false,false,(⟨(0:Int),(0:Int),(0:Int),(0:Int),(0:Int),(0:Int),(0:Int),(0:Int),(0:Int),(0:Int),(0:Int),(0:Int),(0:Int),(0:Int),(0:Int),(0:Int)⟩:aX)⟩:bb),(⟨false,false,(⟨(0:Int),(0:Int),(0:Int),(0:Int),(0:Int),(0:Int),(0:Int),(0:Int),(0:Int),(0:Int),(0:Int),(0:Int),(0:Int),(0:Int),(0:Int),(0:Int)⟩:aX)⟩:bb)⟩:dW),([]:Str),([]:Str),([]:List af),(0:Int)⟩:af)⟩:ae))) (dX (fun x10=>Option.bind (aE F ([([41]:Str)]:List Str) x10.1) (bB (fun p=>some (.inr p)) fun x12=>some (.inl (x10.2,x12)))) (fun x13=>some (.inr x13)))
def fM (F:Nat) (b1:reader):Option ((bj × reader) ⊕ Problem):=Option.bind (cj F b1) (bB (fun p=>some (.inr p)) fun x1=>Option.bind (az F ([116,117,114,110]:Str) x1.2) fun x2=>(if x2.1 = true then Option.bind (iter F (fun (x3:Int × reader × bj)=>((if (decide (x3.1 < (4:Int))) = true then Option.bind (aH (bW.al (⟨([40]:Str),([44]:Str),([44]:Str),([44]:Str)⟩:bW)) x3.1) fun x5=>Option.bind (aE F ([x5]:List Str) x3.2.1) (bB (fun p=>some (.inr (.inr p))) fun x7=>Option.bind (gz F (64:Int) x7) (bB (fun p=>some (.inr (.inr p))) fun x8=>Option.bind (aH (A4.al x3.2.2.Turn) x3.1) fun x9=>Option.bind (aH (A4.al x3.2.2.Turn) x3.1) fun x10=>some (.inl ((IntKind.i64.wrap (x3.1 + (1:Int))),x8.2.2,(⟨x3.2.2.X,A4.ao ((A4.al x3.2.2.Turn).set x3.1.toNat x8.1)⟩:bj))))) else some (.inr (.inl (x3.2.1,x3.2.2)))):Option ((Int × reader × bj) ⊕ ((reader × bj) ⊕ Problem)))) ((0:Int),x2.2,(⟨x1.1,(⟨(1:Int),(0:Int),(0:Int),(0:Int)⟩:A4)⟩:bj))) (dX (fun x12=>Option.bind (aE F ([([41]:Str)]:List Str) x12.1) (bB (fun p=>some (.inr p)) fun x14=>some (.inl (x12.2,x14)))) (fun x15=>some (.inr x15))) else some (.inl ((⟨x1.1,(⟨(1:Int),(0:Int),(0:Int),(0:Int)⟩:A4)⟩:bj),x2.2))))
def nS (F:Nat) (sign:Str) (b1:reader):Option (((List bj) × reader) ⊕ Problem):=Option.bind (fM F b1) (bB (fun p=>some (.inr p)) fun x2=>Option.bind (iter F (fun (x3:reader × (List bj))=>(Option.bind (az F sign x3.1) fun x4=>(if x4.1 = true then Option.bind (fM F x4.2) (bB (fun p=>some (.inr (.inr p))) fun x5=>Option.bind (bV x3.2 ([x5.1]:List bj)) fun x7=>some (.inl (x5.2,x7))) else some (.inr (.inl (x4.2,x3.2)))):Option ((reader × (List bj)) ⊕ ((reader × (List bj)) ⊕ Problem)))) (x2.2,([x2.1]:List bj))) (dX (fun x8=>some (.inl (x8.2,x8.1))) (fun x9=>some (.inr x9))))
def iT (F:Nat) (b1:reader) (b2:ay):Option ((reader × ay) ⊕ Problem):=Option.bind (dk F b1) (bB (fun p=>some (.inr p)) fun x1=>Option.bind (aE F ([([98,121]:Str)]:List Str) x1.2) (bB (fun p=>some (.inr p)) fun x3=>Option.bind (nS F ([44]:Str) x3) (bB (fun p=>some (.inr p)) fun x4=>Option.bind (aE F ([([59]:Str)]:List Str) x4.2) (bB (fun p=>some (.inr p)) fun x6=>some (.inl (x6,{ b2 with Name:=x1.1,Poses:=x4.1 }))))))
def ib (F:Nat) (b1:reader) (b2:ay):Option ((reader × ay) ⊕ Problem):=Option.bind (aE F ([([59]:Str)]:List Str) b1) (bB (fun p=>some (.inr p)) fun x2=>some (.inl (x2,b2)))
def jR (F:Nat) (b1:reader) (b2:ay):Option ((reader × ay) ⊕ Problem):=Option.bind (cf F b1) (bB (fun p=>some (.inr p)) fun x1=>Option.bind (aE F ([([59]:Str)]:List Str) x1.2) (bB (fun p=>some (.inr p)) fun x3=>some (.inl (x3,{ b2 with X:=x1.1 }))))
def eM (F:Nat) (b1:reader):Option (((List af) × reader) ⊕ Problem):=Option.bind (cf F b1) (bB (fun p=>some (.inr p)) fun x2=>Option.bind (az F ([46,46]:Str) x2.2) fun x3=>(if x3.1 = true then Option.bind (cf F x3.2) (bB (fun p=>some (.inr p)) fun x4=>Option.bind (bV ([x2.1]:List af) ([x4.1]:List af)) fun x6=>some (.inl (x6,x4.2))) else some (.inl (([x2.1]:List af),x3.2))))
def nT (F:Nat) (sign:Str) (b1:reader):Option (((List ae) × reader) ⊕ Problem):=Option.bind (cj F b1) (bB (fun p=>some (.inr p)) fun x2=>Option.bind (iter F (fun (x3:reader × (List ae))=>(Option.bind (az F sign x3.1) fun x4=>(if x4.1 = true then Option.bind (cj F x4.2) (bB (fun p=>some (.inr (.inr p))) fun x5=>Option.bind (bV x3.2 ([x5.1]:List ae)) fun x7=>some (.inl (x5.2,x7))) else some (.inr (.inl (x4.2,x3.2)))):Option ((reader × (List ae)) ⊕ ((reader × (List ae)) ⊕ Problem)))) (x2.2,([x2.1]:List ae))) (dX (fun x8=>some (.inl (x8.2,x8.1))) (fun x9=>some (.inr x9))))
def lP (F:Nat) (b1:reader):Option ((aK × reader) ⊕ Problem):=Option.bind (aN F b1) fun x1=>Option.bind (Option.bind (az F ([98,111,120]:Str) b1) fun x2=>(if x2.1 = true then Option.bind (cj F x2.2) (bB (fun p=>some (.inr (.inr p))) fun x3=>Option.bind (aE F ([([116,111]:Str)]:List Str) x3.2) (bB (fun p=>some (.inr (.inr p))) fun x5=>Option.bind (cj F x5) (bB (fun p=>some (.inr (.inr p))) fun x6=>some (.inl (x6.2,(⟨(0:Int),([]:List af),([]:List ae),(⟨(⟨(⟨(0:Int),(⟨(⟨false,false,(⟨(0:Int),(0:Int),(0:Int),(0:Int),(0:Int),(0:Int),(0:Int),(0:Int),(0:Int),(0:Int),(0:Int),(0:Int),(0:Int),(0:Int),(0:Int),(0:Int)⟩:aX)⟩:bb),(⟨false,false,(⟨(0:Int),(0:Int),(0:Int),(0:Int),(0:Int),(0:Int),(0:Int),(0:Int),(0:Int),(0:Int),(0:Int),(0:Int),(0:Int),(0:Int),(0:Int),(0:Int)⟩:aX)⟩:bb)⟩:dW),([]:Str),([]:Str),([]:List af),(0:Int)⟩:af),(⟨(0:Int),(⟨(⟨false,false,(⟨(0:Int),(0:Int),(0:Int),(0:Int),(0:Int),(0:Int),(0:Int),(0:Int),(0:Int),(0:Int),(0:Int),(0:Int),(0:Int),(0:Int),(0:Int),(0:Int)⟩:aX)⟩:bb),(⟨false,false,(⟨(0:Int),(0:Int),(0:Int),(0:Int),(0:Int),(0:Int),(0:Int),(0:Int),(0:Int),(0:Int),(0:Int),(0:Int),(0:Int),(0:Int),(0:Int),(0:Int)⟩:aX)⟩:bb)⟩:dW),([]:Str),([]:Str),([]:List af),(0:Int)⟩:af),(⟨(0:Int),(⟨(⟨false,false,(⟨(0:Int),(0:Int),(0:Int),(0:Int),(0:Int),(0:Int),(0:Int),(0:Int),(0:Int),(0:Int),(0:Int),(0:Int),(0:Int),(0:Int),(0:Int),(0:Int)⟩:aX)⟩:bb),(⟨false,false,(⟨(0:Int),(0:Int),(0:Int),(0:Int),(0:Int),(0:Int),(0:Int),(0:Int),(0:Int),(0:Int),(0:Int),(0:Int),(0:Int),(0:Int),(0:Int),(0:Int)⟩:aX)⟩:bb)⟩:dW),([]:Str),([]:Str),([]:List af),(0:Int)⟩:af)⟩:ae),(⟨(0:Int),(0:Int),(0:Int),(0:Int)⟩:A4)⟩:bj),(0:Int)⟩:aK),(⟨(1:Int),([]:List af),([x3.1,x6.1]:List ae),(⟨(⟨(⟨(0:Int),(⟨(⟨false,false,(⟨(0:Int),(0:Int),(0:Int),(0:Int),(0:Int),(0:Int),(0:Int),(0:Int),(0:Int),(0:Int),(0:Int),(0:Int),(0:Int),(0:Int),(0:Int),(0:Int)⟩:aX)⟩:bb),(⟨false,false,(⟨(0:Int),(0:Int),(0:Int),(0:Int),(0:Int),(0:Int),(0:Int),(0:Int),(0:Int),(0:Int),(0:Int),(0:Int),(0:Int),(0:Int),(0:Int),(0:Int)⟩:aX)⟩:bb)⟩:dW),([]:Str),([]:Str),([]:List af),(0:Int)⟩:af),(⟨(0:Int),(⟨(⟨false,false,(⟨(0:Int),(0:Int),(0:Int),(0:Int),(0:Int),(0:Int),(0:Int),(0:Int),(0:Int),(0:Int),(0:Int),(0:Int),(0:Int),(0:Int),(0:Int),(0:Int)⟩:aX)⟩:bb),(⟨false,false,(⟨(0:Int),(0:Int),(0:Int),(0:Int),(0:Int),(0:Int),(0:Int),(0:Int),(0:Int),(0:Int),(0:Int),(0:Int),(0:Int),(0:Int),(0:Int),(0:Int)⟩:aX)⟩:bb)⟩:dW),([]:Str),([]:Str),([]:List af),(0:Int)⟩:af),(⟨(0:Int),(⟨(⟨false,false,(⟨(0:Int),(0:Int),(0:Int),(0:Int),(0:Int),(0:Int),(0:Int),(0:Int),(0:Int),(0:Int),(0:Int),(0:Int),(0:Int),(0:Int),(0:Int),(0:Int)⟩:aX)⟩:bb),(⟨false,false,(⟨(0:Int),(0:Int),(0:Int),(0:Int),(0:Int),(0:Int),(0:Int),(0:Int),(0:Int),(0:Int),(0:Int),(0:Int),(0:Int),(0:Int),(0:Int),(0:Int)⟩:aX)⟩:bb)⟩:dW),([]:Str),([]:Str),([]:List af),(0:Int)⟩:af)⟩:ae),(⟨(0:Int),(0:Int),(0:Int),(0:Int)⟩:A4)⟩:bj),x1.At⟩:aK)))))) else Option.bind (az F ([112,111,105,110,116,115]:Str) x2.2) fun x8=>(if x8.1 = true then Option.bind (aE F ([([123]:Str)]:List Str) x8.2) (bB (fun p=>some (.inr (.inr p))) fun x10=>Option.bind (nT F ([44]:Str) x10) (bB (fun p=>some (.inr (.inr p))) fun x11=>Option.bind (aE F ([([125]:Str)]:List Str) x11.2) (bB (fun p=>some (.inr (.inr p))) fun x13=>some (.inr (.inl (x13,(⟨(2:Int),([]:List af),x11.1,(⟨(⟨(⟨(0:Int),(⟨(⟨false,false,(⟨(0:Int),(0:Int),(0:Int),(0:Int),(0:Int),(0:Int),(0:Int),(0:Int),(0:Int),(0:Int),(0:Int),(0:Int),(0:Int),(0:Int),(0:Int),(0:Int)⟩:aX)⟩:bb),(⟨false,false,(⟨(0:Int),(0:Int),(0:Int),(0:Int),(0:Int),(0:Int),(0:Int),(0:Int),(0:Int),(0:Int),(0:Int),(0:Int),(0:Int),(0:Int),(0:Int),(0:Int)⟩:aX)⟩:bb)⟩:dW),([]:Str),([]:Str),([]:List af),(0:Int)⟩:af),(⟨(0:Int),(⟨(⟨false,false,(⟨(0:Int),(0:Int),(0:Int),(0:Int),(0:Int),(0:Int),(0:Int),(0:Int),(0:Int),(0:Int),(0:Int),(0:Int),(0:Int),(0:Int),(0:Int),(0:Int)⟩:aX)⟩:bb),(⟨false,false,(⟨(0:Int),(0:Int),(0:Int),(0:Int),(0:Int),(0:Int),(0:Int),(0:Int),(0:Int),(0:Int),(0:Int),(0:Int),(0:Int),(0:Int),(0:Int),(0:Int)⟩:aX)⟩:bb)⟩:dW),([]:Str),([]:Str),([]:List af),(0:Int)⟩:af),(⟨(0:Int),(⟨(⟨false,false,(⟨(0:Int),(0:Int),(0:Int),(0:Int),(0:Int),(0:Int),(0:Int),(0:Int),(0:Int),(0:Int),(0:Int),(0:Int),(0:Int),(0:Int),(0:Int),(0:Int)⟩:aX)⟩:bb),(⟨false,false,(⟨(0:Int),(0:Int),(0:Int),(0:Int),(0:Int),(0:Int),(0:Int),(0:Int),(0:Int),(0:Int),(0:Int),(0:Int),(0:Int),(0:Int),(0:Int),(0:Int)⟩:aX)⟩:bb)⟩:dW),([]:Str),([]:Str),([]:List af),(0:Int)⟩:af)⟩:ae),(⟨(0:Int),(0:Int),(0:Int),(0:Int)⟩:A4)⟩:bj),x1.At⟩:aK))))))) else Option.bind (az F ([109,97,115,115]:Str) x8.2) fun x14=>(if x14.1 = true then Option.bind (eM F x14.2) (bB (fun p=>some (.inr (.inr p))) fun x15=>some (.inl (x15.2,(⟨(0:Int),([]:List af),([]:List ae),(⟨(⟨(⟨(0:Int),(⟨(⟨false,false,(⟨(0:Int),(0:Int),(0:Int),(0:Int),(0:Int),(0:Int),(0:Int),(0:Int),(0:Int),(0:Int),(0:Int),(0:Int),(0:Int),(0:Int),(0:Int),(0:Int)⟩:aX)⟩:bb),(⟨false,false,(⟨(0:Int),(0:Int),(0:Int),(0:Int),(0:Int),(0:Int),(0:Int),(0:Int),(0:Int),(0:Int),(0:Int),(0:Int),(0:Int),(0:Int),(0:Int),(0:Int)⟩:aX)⟩:bb)⟩:dW),([]:Str),([]:Str),([]:List af),(0:Int)⟩:af),(⟨(0:Int),(⟨(⟨false,false,(⟨(0:Int),(0:Int),(0:Int),(0:Int),(0:Int),(0:Int),(0:Int),(0:Int),(0:Int),(0:Int),(0:Int),(0:Int),(0:Int),(0:Int),(0:Int),(0:Int)⟩:aX)⟩:bb),(⟨false,false,(⟨(0:Int),(0:Int),(0:Int),(0:Int),(0:Int),(0:Int),(0:Int),(0:Int),(0:Int),(0:Int),(0:Int),(0:Int),(0:Int),(0:Int),(0:Int),(0:Int)⟩:aX)⟩:bb)⟩:dW),([]:Str),([]:Str),([]:List af),(0:Int)⟩:af),(⟨(0:Int),(⟨(⟨false,false,(⟨(0:Int),(0:Int),(0:Int),(0:Int),(0:Int),(0:Int),(0:Int),(0:Int),(0:Int),(0:Int),(0:Int),(0:Int),(0:Int),(0:Int),(0:Int),(0:Int)⟩:aX)⟩:bb),(⟨false,false,(⟨(0:Int),(0:Int),(0:Int),(0:Int),(0:Int),(0:Int),(0:Int),(0:Int),(0:Int),(0:Int),(0:Int),(0:Int),(0:Int),(0:Int),(0:Int),(0:Int)⟩:aX)⟩:bb)⟩:dW),([]:Str),([]:Str),([]:List af),(0:Int)⟩:af)⟩:ae),(⟨(0:Int),(0:Int),(0:Int),(0:Int)⟩:A4)⟩:bj),(0:Int)⟩:aK),(⟨(3:Int),x15.1,([]:List ae),(⟨(⟨(⟨(0:Int),(⟨(⟨false,false,(⟨(0:Int),(0:Int),(0:Int),(0:Int),(0:Int),(0:Int),(0:Int),(0:Int),(0:Int),(0:Int),(0:Int),(0:Int),(0:Int),(0:Int),(0:Int),(0:Int)⟩:aX)⟩:bb),(⟨false,false,(⟨(0:Int),(0:Int),(0:Int),(0:Int),(0:Int),(0:Int),(0:Int),(0:Int),(0:Int),(0:Int),(0:Int),(0:Int),(0:Int),(0:Int),(0:Int),(0:Int)⟩:aX)⟩:bb)⟩:dW),([]:Str),([]:Str),([]:List af),(0:Int)⟩:af),(⟨(0:Int),(⟨(⟨false,false,(⟨(0:Int),(0:Int),(0:Int),(0:Int),(0:Int),(0:Int),(0:Int),(0:Int),(0:Int),(0:Int),(0:Int),(0:Int),(0:Int),(0:Int),(0:Int),(0:Int)⟩:aX)⟩:bb),(⟨false,false,(⟨(0:Int),(0:Int),(0:Int),(0:Int),(0:Int),(0:Int),(0:Int),(0:Int),(0:Int),(0:Int),(0:Int),(0:Int),(0:Int),(0:Int),(0:Int),(0:Int)⟩:aX)⟩:bb)⟩:dW),([]:Str),([]:Str),([]:List af),(0:Int)⟩:af),(⟨(0:Int),(⟨(⟨false,false,(⟨(0:Int),(0:Int),(0:Int),(0:Int),(0:Int),(0:Int),(0:Int),(0:Int),(0:Int),(0:Int),(0:Int),(0:Int),(0:Int),(0:Int),(0:Int),(0:Int)⟩:aX)⟩:bb),(⟨false,false,(⟨(0:Int),(0:Int),(0:Int),(0:Int),(0:Int),(0:Int),(0:Int),(0:Int),(0:Int),(0:Int),(0:Int),(0:Int),(0:Int),(0:Int),(0:Int),(0:Int)⟩:aX)⟩:bb)⟩:dW),([]:Str),([]:Str),([]:List af),(0:Int)⟩:af)⟩:ae),(⟨(0:Int),(0:Int),(0:Int),(0:Int)⟩:A4)⟩:bj),x1.At⟩:aK)))) else Option.bind (az F ([114,111,117,103,104]:Str) x14.2) fun x16=>(if x16.1 = true then Option.bind (eM F x16.2) (bB (fun p=>some (.inr (.inr p))) fun x17=>some (.inl (x17.2,(⟨(0:Int),([]:List af),([]:List ae),(⟨(⟨(⟨(0:Int),(⟨(⟨false,false,(⟨(0:Int),(0:Int),(0:Int),(0:Int),(0:Int),(0:Int),(0:Int),(0:Int),(0:Int),(0:Int),(0:Int),(0:Int),(0:Int),(0:Int),(0:Int),(0:Int)⟩:aX)⟩:bb),(⟨false,false,(⟨(0:Int),(0:Int),(0:Int),(0:Int),(0:Int),(0:Int),(0:Int),(0:Int),(0:Int),(0:Int),(0:Int),(0:Int),(0:Int),(0:Int),(0:Int),(0:Int)⟩:aX)⟩:bb)⟩:dW),([]:Str),([]:Str),([]:List af),(0:Int)⟩:af),(⟨(0:Int),(⟨(⟨false,false,(⟨(0:Int),(0:Int),(0:Int),(0:Int),(0:Int),(0:Int),(0:Int),(0:Int),(0:Int),(0:Int),(0:Int),(0:Int),(0:Int),(0:Int),(0:Int),(0:Int)⟩:aX)⟩:bb),(⟨false,false,(⟨(0:Int),(0:Int),(0:Int),(0:Int),(0:Int),(0:Int),(0:Int),(0:Int),(0:Int),(0:Int),(0:Int),(0:Int),(0:Int),(0:Int),(0:Int),(0:Int)⟩:aX)⟩:bb)⟩:dW),([]:Str),([]:Str),([]:List af),(0:Int)⟩:af),(⟨(0:Int),(⟨(⟨false,false,(⟨(0:Int),(0:Int),(0:Int),(0:Int),(0:Int),(0:Int),(0:Int),(0:Int),(0:Int),(0:Int),(0:Int),(0:Int),(0:Int),(0:Int),(0:Int),(0:Int)⟩:aX)⟩:bb),(⟨false,false,(⟨(0:Int),(0:Int),(0:Int),(0:Int),(0:Int),(0:Int),(0:Int),(0:Int),(0:Int),(0:Int),(0:Int),(0:Int),(0:Int),(0:Int),(0:Int),(0:Int)⟩:aX)⟩:bb)⟩:dW),([]:Str),([]:Str),([]:List af),(0:Int)⟩:af)⟩:ae),(⟨(0:Int),(0:Int),(0:Int),(0:Int)⟩:A4)⟩:bj),(0:Int)⟩:aK),(⟨(4:Int),x17.1,([]:List ae),(⟨(⟨(⟨(0:Int),(⟨(⟨false,false,(⟨(0:Int),(0:Int),(0:Int),(0:Int),(0:Int),(0:Int),(0:Int),(0:Int),(0:Int),(0:Int),(0:Int),(0:Int),(0:Int),(0:Int),(0:Int),(0:Int)⟩:aX)⟩:bb),(⟨false,false,(⟨(0:Int),(0:Int),(0:Int),(0:Int),(0:Int),(0:Int),(0:Int),(0:Int),(0:Int),(0:Int),(0:Int),(0:Int),(0:Int),(0:Int),(0:Int),(0:Int)⟩:aX)⟩:bb)⟩:dW),([]:Str),([]:Str),([]:List af),(0:Int)⟩:af),(⟨(0:Int),(⟨(⟨false,false,(⟨(0:Int),(0:Int),(0:Int),(0:Int),(0:Int),(0:Int),(0:Int),(0:Int),(0:Int),(0:Int),(0:Int),(0:Int),(0:Int),(0:Int),(0:Int),(0:Int)⟩:aX)⟩:bb),(⟨false,false,(⟨(0:Int),(0:Int),(0:Int),(0:Int),(0:Int),(0:Int),(0:Int),(0:Int),(0:Int),(0:Int),(0:Int),(0:Int),(0:Int),(0:Int),(0:Int),(0:Int)⟩:aX)⟩:bb)⟩:dW),([]:Str),([]:Str),([]:List af),(0:Int)⟩:af),(⟨(0:Int),(⟨(⟨false,false,(⟨(0:Int),(0:Int),(0:Int),(0:Int),(0:Int),(0:Int),(0:Int),(0:Int),(0:Int),(0:Int),(0:Int),(0:Int),(0:Int),(0:Int),(0:Int),(0:Int)⟩:aX)⟩:bb),(⟨false,false,(⟨(0:Int),(0:Int),(0:Int),(0:Int),(0:Int),(0:Int),(0:Int),(0:Int),(0:Int),(0:Int),(0:Int),(0:Int),(0:Int),(0:Int),(0:Int),(0:Int)⟩:aX)⟩:bb)⟩:dW),([]:Str),([]:Str),([]:List af),(0:Int)⟩:af)⟩:ae),(⟨(0:Int),(0:Int),(0:Int),(0:Int)⟩:A4)⟩:bj),x1.At⟩:aK)))) else Option.bind (az F ([97,116]:Str) x16.2) fun x18=>(if x18.1 = true then Option.bind (fM F x18.2) (bB (fun p=>some (.inr (.inr p))) fun x19=>some (.inl (x19.2,(⟨(0:Int),([]:List af),([]:List ae),(⟨(⟨(⟨(0:Int),(⟨(⟨false,false,(⟨(0:Int),(0:Int),(0:Int),(0:Int),(0:Int),(0:Int),(0:Int),(0:Int),(0:Int),(0:Int),(0:Int),(0:Int),(0:Int),(0:Int),(0:Int),(0:Int)⟩:aX)⟩:bb),(⟨false,false,(⟨(0:Int),(0:Int),(0:Int),(0:Int),(0:Int),(0:Int),(0:Int),(0:Int),(0:Int),(0:Int),(0:Int),(0:Int),(0:Int),(0:Int),(0:Int),(0:Int)⟩:aX)⟩:bb)⟩:dW),([]:Str),([]:Str),([]:List af),(0:Int)⟩:af),(⟨(0:Int),(⟨(⟨false,false,(⟨(0:Int),(0:Int),(0:Int),(0:Int),(0:Int),(0:Int),(0:Int),(0:Int),(0:Int),(0:Int),(0:Int),(0:Int),(0:Int),(0:Int),(0:Int),(0:Int)⟩:aX)⟩:bb),(⟨false,false,(⟨(0:Int),(0:Int),(0:Int),(0:Int),(0:Int),(0:Int),(0:Int),(0:Int),(0:Int),(0:Int),(0:Int),(0:Int),(0:Int),(0:Int),(0:Int),(0:Int)⟩:aX)⟩:bb)⟩:dW),([]:Str),([]:Str),([]:List af),(0:Int)⟩:af),(⟨(0:Int),(⟨(⟨false,false,(⟨(0:Int),(0:Int),(0:Int),(0:Int),(0:Int),(0:Int),(0:Int),(0:Int),(0:Int),(0:Int),(0:Int),(0:Int),(0:Int),(0:Int),(0:Int),(0:Int)⟩:aX)⟩:bb),(⟨false,false,(⟨(0:Int),(0:Int),(0:Int),(0:Int),(0:Int),(0:Int),(0:Int),(0:Int),(0:Int),(0:Int),(0:Int),(0:Int),(0:Int),(0:Int),(0:Int),(0:Int)⟩:aX)⟩:bb)⟩:dW),([]:Str),([]:Str),([]:List af),(0:Int)⟩:af)⟩:ae),(⟨(0:Int),(0:Int),(0:Int),(0:Int)⟩:A4)⟩:bj),(0:Int)⟩:aK),(⟨(5:Int),([]:List af),([]:List ae),x19.1,x1.At⟩:aK)))) else Option.bind (aO F (280:Int) x18.2) (bB (fun p=>some (.inr (.inr p))) fun x20=>some (.inl (x18.2,(⟨(0:Int),([]:List af),([]:List ae),(⟨(⟨(⟨(0:Int),(⟨(⟨false,false,(⟨(0:Int),(0:Int),(0:Int),(0:Int),(0:Int),(0:Int),(0:Int),(0:Int),(0:Int),(0:Int),(0:Int),(0:Int),(0:Int),(0:Int),(0:Int),(0:Int)⟩:aX)⟩:bb),(⟨false,false,(⟨(0:Int),(0:Int),(0:Int),(0:Int),(0:Int),(0:Int),(0:Int),(0:Int),(0:Int),(0:Int),(0:Int),(0:Int),(0:Int),(0:Int),(0:Int),(0:Int)⟩:aX)⟩:bb)⟩:dW),([]:Str),([]:Str),([]:List af),(0:Int)⟩:af),(⟨(0:Int),(⟨(⟨false,false,(⟨(0:Int),(0:Int),(0:Int),(0:Int),(0:Int),(0:Int),(0:Int),(0:Int),(0:Int),(0:Int),(0:Int),(0:Int),(0:Int),(0:Int),(0:Int),(0:Int)⟩:aX)⟩:bb),(⟨false,false,(⟨(0:Int),(0:Int),(0:Int),(0:Int),(0:Int),(0:Int),(0:Int),(0:Int),(0:Int),(0:Int),(0:Int),(0:Int),(0:Int),(0:Int),(0:Int),(0:Int)⟩:aX)⟩:bb)⟩:dW),([]:Str),([]:Str),([]:List af),(0:Int)⟩:af),(⟨(0:Int),(⟨(⟨false,false,(⟨(0:Int),(0:Int),(0:Int),(0:Int),(0:Int),(0:Int),(0:Int),(0:Int),(0:Int),(0:Int),(0:Int),(0:Int),(0:Int),(0:Int),(0:Int),(0:Int)⟩:aX)⟩:bb),(⟨false,false,(⟨(0:Int),(0:Int),(0:Int),(0:Int),(0:Int),(0:Int),(0:Int),(0:Int),(0:Int),(0:Int),(0:Int),(0:Int),(0:Int),(0:Int),(0:Int),(0:Int)⟩:aX)⟩:bb)⟩:dW),([]:Str),([]:Str),([]:List af),(0:Int)⟩:af)⟩:ae),(⟨(0:Int),(0:Int),(0:Int),(0:Int)⟩:A4)⟩:bj),(0:Int)⟩:aK),(⟨(0:Int),([]:List af),([]:List ae),(⟨(⟨(⟨(0:Int),(⟨(⟨false,false,(⟨(0:Int),(0:Int),(0:Int),(0:Int),(0:Int),(0:Int),(0:Int),(0:Int),(0:Int),(0:Int),(0:Int),(0:Int),(0:Int),(0:Int),(0:Int),(0:Int)⟩:aX)⟩:bb),(⟨false,false,(⟨(0:Int),(0:Int),(0:Int),(0:Int),(0:Int),(0:Int),(0:Int),(0:Int),(0:Int),(0:Int),(0:Int),(0:Int),(0:Int),(0:Int),(0:Int),(0:Int)⟩:aX)⟩:bb)⟩:dW),([]:Str),([]:Str),([]:List af),(0:Int)⟩:af),(⟨(0:Int),(⟨(⟨false,false,(⟨(0:Int),(0:Int),(0:Int),(0:Int),(0:Int),(0:Int),(0:Int),(0:Int),(0:Int),(0:Int),(0:Int),(0:Int),(0:Int),(0:Int),(0:Int),(0:Int)⟩:aX)⟩:bb),(⟨false,false,(⟨(0:Int),(0:Int),(0:Int),(0:Int),(0:Int),(0:Int),(0:Int),(0:Int),(0:Int),(0:Int),(0:Int),(0:Int),(0:Int),(0:Int),(0:Int),(0:Int)⟩:aX)⟩:bb)⟩:dW),([]:Str),([]:Str),([]:List af),(0:Int)⟩:af),(⟨(0:Int),(⟨(⟨false,false,(⟨(0:Int),(0:Int),(0:Int),(0:Int),(0:Int),(0:Int),(0:Int),(0:Int),(0:Int),(0:Int),(0:Int),(0:Int),(0:Int),(0:Int),(0:Int),(0:Int)⟩:aX)⟩:bb),(⟨false,false,(⟨(0:Int),(0:Int),(0:Int),(0:Int),(0:Int),(0:Int),(0:Int),(0:Int),(0:Int),(0:Int),(0:Int),(0:Int),(0:Int),(0:Int),(0:Int),(0:Int)⟩:aX)⟩:bb)⟩:dW),([]:Str),([]:Str),([]:List af),(0:Int)⟩:af)⟩:ae),(⟨(0:Int),(0:Int),(0:Int),(0:Int)⟩:A4)⟩:bj),x1.At⟩:aK))))))))):Option ((reader × aK × aK) ⊕ ((reader × aK) ⊕ Problem))) (dX (fun x21=>Option.bind (aE F ([([59]:Str)]:List Str) x21.1) (bB (fun p=>some (.inr p)) fun x23=>some (.inl (x21.2.2,x23)))) (dX (fun x24=>some (.inl (x24.2,x24.1))) (fun x25=>some (.inr x25))))
def lN (F:Nat) (sign:Str) (b1:reader):Option (((List aK) × reader) ⊕ Problem):=Option.bind (iter F (fun (x2:reader × (List aK))=>(Option.bind (az F sign x2.1) fun x3=>(if (!x3.1) = true then Option.bind (lP F x3.2) (bB (fun p=>some (.inr (.inr p))) fun x5=>Option.bind (bV x2.2 ([x5.1]:List aK)) fun x7=>some (.inl (x5.2,x7))) else some (.inr (.inl (x3.2,x2.2)))):Option ((reader × (List aK)) ⊕ ((reader × (List aK)) ⊕ Problem)))) (b1,([]:List aK))) (dX (fun x8=>some (.inl (x8.2,x8.1))) (fun x9=>some (.inr x9)))
def h31 (F:Nat) (z:reader × aV × aV):Option ((reader × aV × aV) ⊕ Problem):=Option.bind (aN F z.1) fun x=>some (.inl (z.1,z.2.1,{ z.2.2 with Kind:=3,Thing:=(dU ([([98,108,111,99,107],1),([112,114,111,112],2)]:List (Str × Int)) x.S).getD 0 }))
def h31b (F:Nat) (z:reader × aV × aV):Option ((reader × aV × aV) ⊕ Problem):=Option.bind (aN F z.1) fun x=>some (.inl (z.1,z.2.1,{ z.2.2 with Kind:=3,Thing:=(dU ([([112,114,111,112],2),([98,108,111,99,107],1)]:List (Str × Int)) x.S).getD 0 }))
theorem h31_eq {F:Nat} {z:reader × aV × aV}:h31b F z = h31 F z:=by
 unfold h31 h31b
 congr 1
 funext x
 simp only [dU]
 by_cases h1:x.S = [112,114,111,112]
 ·simp [h1]
 ·simp [h1]
def mZ (F:Nat) (b1:reader):Option ((aV × reader) ⊕ Problem):=Option.bind (aN F b1) fun x1=>Option.bind (Option.bind (az F ([103,114,97,118,105,116,121]:Str) b1) fun x2=>(if x2.1 = true then Option.bind (cf F x2.2) (bB (fun p=>some (.inr (.inr p))) fun x3=>some (.inl (x3.2,(⟨(0:Int),(0:Int),([]:Str),([]:Str),([]:Str),([]:List af),([]:List ae),([]:List aK),(0:Int)⟩:aV),(⟨(1:Int),(0:Int),([]:Str),([]:Str),([]:Str),([x3.1]:List af),([]:List ae),([]:List aK),x1.At⟩:aV)))) else Option.bind (az F ([114,111,117,103,104]:Str) x2.2) fun x5=>(if x5.1 = true then Option.bind (eM F x5.2) (bB (fun p=>some (.inr (.inr p))) fun x6=>some (.inl (x6.2,(⟨(0:Int),(0:Int),([]:Str),([]:Str),([]:Str),([]:List af),([]:List ae),([]:List aK),(0:Int)⟩:aV),(⟨(2:Int),(0:Int),([]:Str),([]:Str),([]:Str),x6.1,([]:List ae),([]:List aK),x1.At⟩:aV)))) else Option.bind (gR F ([([98,108,111,99,107]:Str),([112,114,111,112]:Str)]:List Str) x5.2) fun x8=>(if x8 = true then Option.bind (h31 F (x5.2,(⟨(0:Int),(0:Int),([]:Str),([]:Str),([]:Str),([]:List af),([]:List ae),([]:List aK),(0:Int)⟩:aV),(⟨(0:Int),(0:Int),([]:Str),([]:Str),([]:Str),([]:List af),([]:List ae),([]:List aK),x1.At⟩:aV))) (bB (fun p=>some (.inr (.inr p))) fun x9=>Option.bind (dk F ({ x9.1 with pos:=(IntKind.i64.wrap (x9.1.pos + (1:Int))) })) (bB (fun p=>some (.inr (.inr p))) fun x11=>Option.bind (aE F ([([123]:Str)]:List Str) x11.2) (bB (fun p=>some (.inr (.inr p))) fun x13=>Option.bind (lN F ([125]:Str) x13) (bB (fun p=>some (.inr (.inr p))) fun x14=>some (.inr (.inl (x14.2,{ x9.2.2 with Name:=x11.1,Fields:=x14.1 }))))))) else Option.bind (az F ([114,111,112,101]:Str) x5.2) fun x15=>(if x15.1 = true then none else Option.bind (az F ([108,111,97,100]:Str) x15.2) fun x16=>(if x16.1 = true then Option.bind (dk F x16.2) (bB (fun p=>some (.inr (.inr p))) fun x17=>Option.bind (aE F ([([111,110]:Str)]:List Str) x17.2) (bB (fun p=>some (.inr (.inr p))) fun x19=>Option.bind (dk F x19) (bB (fun p=>some (.inr (.inr p))) fun x20=>Option.bind (aE F ([([97,116]:Str)]:List Str) x20.2) (bB (fun p=>some (.inr (.inr p))) fun x22=>Option.bind (cj F x22) (bB (fun p=>some (.inr (.inr p))) fun x23=>Option.bind (aE F ([([102,111,114,99,101]:Str)]:List Str) x23.2) (bB (fun p=>some (.inr (.inr p))) fun x25=>none)))))) else Option.bind (aO F (280:Int) x16.2) (bB (fun p=>some (.inr (.inr p))) fun x26=>some (.inl (x16.2,(⟨(0:Int),(0:Int),([]:Str),([]:Str),([]:Str),([]:List af),([]:List ae),([]:List aK),(0:Int)⟩:aV),(⟨(0:Int),(0:Int),([]:Str),([]:Str),([]:Str),([]:List af),([]:List ae),([]:List aK),x1.At⟩:aV))))))))):Option ((reader × aV × aV) ⊕ ((reader × aV) ⊕ Problem))) (dX (fun x27=>Option.bind (aE F ([([59]:Str)]:List Str) x27.1) (bB (fun p=>some (.inr p)) fun x29=>some (.inl (x27.2.2,x29)))) (dX (fun x30=>some (.inl (x30.2,x30.1))) (fun x31=>some (.inr x31))))
end Go.Dn
namespace Go.Dn
open Go Go.Sk Go.Proofs
open X
set_option linter.unusedVariables false
set_option maxRecDepth 100000
variable {mx:Int}
def qk (F:Nat):bJ DD pk:=⟨15,[.d (.sl (.st .Token))],[],[],[],[.int .i64],true,false,false,false,fun a l=>uk F a.1⟩
theorem uA (F:Nat):av Tryz.prog (aw mx) (qk F):=ak (B0:=BB) (L:=LL) (G:=[]) 64 ⟨Tryz.call15⟩ Tryz.func15 Tryz.ntmps15 rfl (Nat.le_of_ble_eq_true rfl) rfl trivial (.two (.no) (.two (.no) (.two (.two (.no) (.loop ⟨[0,8,9],[],[]⟩ [.s 3 (.int .i64),.s 4 (.int .i64),.s 10 (.int .i64)] [(.x (some 0),[]),(.x none,[.s 2 (.int .i64)])] (.two (.no) (.two (.no) (.two (.two (.no) (.two (.no) (.two (.no) (.two (.two (.no) (.join ⟨[0,3,4,6,7,8,9,10],[106],[]⟩ [.s 28 (.bool)] (.no) (.two (.no) (.two (.no) (.two (.no) (.join ⟨[0,3,7,8,9,10],[],[]⟩ [.s 47 (.bool)] (.no) (.two (.no) (.join ⟨[0,3,8,9,10],[],[]⟩ [.s 54 (.bool)] (.no) (.no))))))))) (.no))))) (.no)))))) (.no)))) [] F fun a l=>by kernel_rfl
def aT (F:Nat):bJ DD pk:=⟨39,[.k],[.p (.ptr 1 0)],[1],[.b 64 (.st .reader)],[.st .Token],true,false,false,false,fun a l=>aN F l.1⟩
theorem bf (F:Nat):av Tryz.prog (aw mx) (aT F):=ak (B0:=BB) (L:=LL) (G:=[]) 28 ⟨Tryz.call39⟩ Tryz.func39 Tryz.ntmps39 rfl (Nat.le_of_ble_eq_true rfl) rfl trivial (.two (.no) (.two (.two (.hX [⟨0,[0],[]⟩,⟨1,[3],[]⟩,⟨2,[4],[]⟩,⟨3,[5],[1]⟩,⟨4,[0],[]⟩,⟨5,[7],[]⟩,⟨6,[8],[]⟩,⟨7,[9],[1]⟩,⟨8,[10],[]⟩] [9] []) (.no)) (.two (.hX [⟨0,[0],[]⟩,⟨1,[18],[]⟩,⟨2,[19],[]⟩,⟨3,[20],[1]⟩,⟨4,[0],[]⟩,⟨5,[22],[]⟩,⟨6,[23],[]⟩,⟨7,[24],[1]⟩] [8,9,10] []) (.no)))) [] F fun a l=>by kernel_rfl
def bH (F:Nat):bJ DD pk:=⟨17,[.k,.d (.int .i64)],[.p (.ptr 1 0)],[1],[.b 64 (.st .reader)],[],true,true,false,false,fun a l=>aO F a.1 l.1⟩
theorem bS (F:Nat):av Tryz.prog (aw mx) (bH F):=ak (B0:=BB) (L:=LL) (G:=[aT F]) 10 ⟨Tryz.call17⟩ Tryz.func17 Tryz.ntmps17 rfl (Nat.le_of_ble_eq_true rfl) rfl ⟨bf F,trivial⟩ (.no) [] F fun a l=>by kernel_rfl
def fh (F:Nat):bJ DD pk:=⟨69,[.k,.d (.sl (.str))],[.p (.ptr 1 0)],[1],[.b 64 (.st .reader)],[.bool],true,false,false,false,fun a l=>gR F a.1 l.1⟩
theorem kG (F:Nat):av Tryz.prog (aw mx) (fh F):=ak (B0:=BB) (L:=LL) (G:=[aT F]) 31 ⟨Tryz.call69⟩ Tryz.func69 Tryz.ntmps69 rfl (Nat.le_of_ble_eq_true rfl) rfl ⟨bf F,trivial⟩ (.two (.no) (.two (.no) (.two (.two (.no) (.loop ⟨[5,10,11],[1,105],[]⟩ [.s 12 (.int .i64)] [(.x (some 0),[]),(.x none,[.s 4 (.bool)])] (.no))) (.no)))) [] F fun a l=>by kernel_rfl
def aU (F:Nat):bJ DD pk:=⟨67,[.k,.d (.str)],[.p (.ptr 1 0)],[1],[.b 64 (.st .reader)],[.bool],false,false,false,false,fun a l=>az F a.1 l.1⟩
theorem bg (F:Nat):av Tryz.prog (aw mx) (aU F):=ak (B0:=BB) (L:=LL) (G:=[fh F]) 19 ⟨Tryz.call67⟩ Tryz.func67 Tryz.ntmps67 rfl (Nat.le_of_ble_eq_true rfl) rfl ⟨kG F,trivial⟩ (.no) [] F fun a l=>by kernel_rfl
def br (F:Nat):bJ DD pk:=⟨29,[.k,.d (.sl (.str))],[.p (.ptr 1 0)],[1],[.b 64 (.st .reader)],[],false,true,false,false,fun a l=>aE F a.1 l.1⟩
theorem bO (F:Nat):av Tryz.prog (aw mx) (br F):=ak (B0:=BB) (L:=LL) (G:=[aU F,bH F]) 19 ⟨Tryz.call29⟩ Tryz.func29 Tryz.ntmps29 rfl (Nat.le_of_ble_eq_true rfl) rfl ⟨bg F,bS F,trivial⟩ (.two (.no) (.loop ⟨[0,6,7],[],[]⟩ [.s 8 (.int .i64),.b 1 64 (.st .reader)] [(.x (some 0),[.b 1 64 (.st .reader)]),(.hC,[])] (.no))) [] F fun a l=>by kernel_rfl
def eo (F:Nat):bJ DD pk:=⟨129,[.k,.d (.int .i64),.d (.int .i64)],[.p (.ptr 1 0)],[1],[.b 64 (.st .reader)],[.st .Token],false,true,false,false,fun a l=>ef F a.1 a.2.1 l.1⟩
theorem fP (F:Nat):av Tryz.prog (aw mx) (eo F):=ak (B0:=BB) (L:=LL) (G:=[aT F,bH F]) 35 ⟨Tryz.call129⟩ Tryz.func129 Tryz.ntmps129 rfl (Nat.le_of_ble_eq_true rfl) rfl ⟨bf F,bS F,trivial⟩ (.two (.no) (.two (.no) (.qu ⟨[0,6,7],[1,106,107],[]⟩ [] [(.hC,[])] (.no) (.no)))) [] F fun a l=>by kernel_rfl
def r8 (F:Nat):bJ DD pk:=⟨224,[.d (.st .Token)],[],[],[],[.str],true,false,false,false,fun a l=>rX F a.1⟩
theorem yJ (F:Nat):av Tryz.prog (aw mx) (r8 F):=ak (B0:=BB) (L:=LL) (G:=[]) 15 ⟨Tryz.call224⟩ Tryz.func224 Tryz.ntmps224 rfl (Nat.le_of_ble_eq_true rfl) rfl trivial (.two (.no) (.two (.no) (.two (.hX [⟨0,[],[]⟩,⟨2,[1],[]⟩,⟨3,[10],[101]⟩,⟨1,[8],[]⟩] [4,5,6,7] []) (.no)))) [] F fun a l=>by kernel_rfl
def qJ (F:Nat):bJ DD pk:=⟨205,[.d (.st .Token)],[],[],[],[.bool],true,false,false,false,fun a l=>qG F a.1⟩
theorem xH (F:Nat):av Tryz.prog (aw mx) (qJ F):=ak (B0:=BB) (L:=LL) (G:=[r8 F,iQ F]) 27 ⟨Tryz.call205⟩ Tryz.func205 Tryz.ntmps205 rfl (Nat.le_of_ble_eq_true rfl) rfl ⟨yJ F,lv F,trivial⟩ (.two (.no) (.two (.no) (.two (.no) (.two (.hX [⟨0,[4],[104]⟩,⟨1,[],[]⟩,⟨2,[12,13],[]⟩,⟨3,[14],[]⟩,⟨4,[3,15],[]⟩,⟨5,[16,15],[]⟩,⟨6,[17,15],[]⟩,⟨7,[15,18],[]⟩,⟨8,[19],[]⟩,⟨9,[3,20],[]⟩,⟨10,[21,20],[]⟩,⟨11,[22,20],[]⟩,⟨12,[1,20],[101]⟩] [13,14,15] []) (.no))))) [] F fun a l=>by kernel_rfl
def lD (F:Nat):bJ DD pk:=⟨226,[.d (.str),.d (.int .u8)],[],[],[],[.str],true,false,false,false,fun a l=>lA F a.1 a.2.1⟩
theorem rH (F:Nat):av Tryz.prog (aw mx) (lD F):=ak (B0:=BB) (L:=LL) (G:=[]) 17 ⟨Tryz.call226⟩ Tryz.func226 Tryz.ntmps226 rfl (Nat.le_of_ble_eq_true rfl) rfl trivial (.two (.no) (.two (.loop ⟨[1],[],[]⟩ [.s 0 (.str)] [(.x (some 0),[.s 0 (.str)])] (.no)) (.no))) [] F fun a l=>by kernel_rfl
def o2 (F:Nat):bJ DD pk:=⟨207,[.d (.str),.d (.str)],[],[],[],[.str],true,false,false,false,fun a l=>oX F a.1 a.2.1⟩
theorem ve (F:Nat):av Tryz.prog (aw mx) (o2 F):=ak (B0:=BB) (L:=LL) (G:=[lD F]) 37 ⟨Tryz.call207⟩ Tryz.func207 Tryz.ntmps207 rfl (Nat.le_of_ble_eq_true rfl) rfl ⟨rH F,trivial⟩ (.no) [] F fun a l=>by kernel_rfl
def rB (F:Nat):bJ DD pk:=⟨178,[.d (.st .bb)],[],[],[],[.bool],true,false,false,false,fun a l=>ln F a.1⟩
theorem wk (F:Nat):av Tryz.prog (aw mx) (rB F):=ak (B0:=BB) (L:=LL) (G:=[qi F]) 10 ⟨Tryz.call178⟩ Tryz.func178 Tryz.ntmps178 rfl (Nat.le_of_ble_eq_true rfl) rfl ⟨uy F,trivial⟩ (.no) [] F fun a l=>by kernel_rfl
def lq (F:Nat):bJ DD pk:=⟨179,[.d (.st .bb)],[],[],[],[.int .i64],true,false,false,false,fun a l=>jt F a.1⟩
theorem ou (F:Nat):av Tryz.prog (aw mx) (lq F):=ak (B0:=BB) (L:=LL) (G:=[eJ F]) 17 ⟨Tryz.call179⟩ Tryz.func179 Tryz.ntmps179 rfl (Nat.le_of_ble_eq_true rfl) rfl ⟨eI F,trivial⟩ (.no) [] F fun a l=>by kernel_rfl
def pP (F:Nat):bJ DD pk:=⟨181,[],[],[],[],[.st .bb],true,false,false,false,fun a l=>pJ F⟩
theorem sT (F:Nat):av Tryz.prog (aw mx) (pP F):=ak (B0:=BB) (L:=LL) (G:=[oT F]) 2 ⟨Tryz.call181⟩ Tryz.func181 Tryz.ntmps181 rfl (Nat.le_of_ble_eq_true rfl) rfl ⟨oS F,trivial⟩ (.no) [] F fun a l=>by kernel_rfl
def yq (F:Nat):bJ DD pk:=⟨183,[],[],[],[],[.st .dW],true,false,false,false,fun a l=>xV F⟩
theorem ED (F:Nat):av Tryz.prog (aw mx) (yq F):=ak (B0:=BB) (L:=LL) (G:=[iM F,pP F]) 4 ⟨Tryz.call183⟩ Tryz.func183 Tryz.ntmps183 rfl (Nat.le_of_ble_eq_true rfl) rfl ⟨iK F,sT F,trivial⟩ (.no) [] F fun a l=>by kernel_rfl
def yp (F:Nat):bJ DD pk:=⟨201,[.d (.st .bb)],[],[],[],[.st .bb],true,false,false,false,fun a l=>xQ F a.1⟩
theorem EC (F:Nat):av Tryz.prog (aw mx) (yp F):=ak (B0:=BB) (L:=LL) (G:=[eJ F,iM F,gx F]) 11 ⟨Tryz.call201⟩ Tryz.func201 Tryz.ntmps201 rfl (Nat.le_of_ble_eq_true rfl) rfl ⟨eI F,iK F,gw F,trivial⟩ (.no) [] F fun a l=>by kernel_rfl
def sV (F:Nat):bJ DD pk:=⟨180,[.d (.st .bb),.d (.st .bb)],[],[],[],[.st .bb],true,false,false,false,fun a l=>sQ F a.1 a.2.1⟩
theorem yc (F:Nat):av Tryz.prog (aw mx) (sV F):=ak (B0:=BB) (L:=LL) (G:=[eJ F,iM F,rA F,gx F,yp F]) 80 ⟨Tryz.call180⟩ Tryz.func180 Tryz.ntmps180 rfl (Nat.le_of_ble_eq_true rfl) rfl ⟨eI F,iK F,rp F,gw F,EC F,trivial⟩ (.two (.no) (.two (.no) (.two (.two (.no) (.two (.two (.hX [⟨0,[2],[]⟩,⟨1,[27],[102]⟩,⟨2,[28],[102]⟩,⟨3,[29],[]⟩,⟨4,[30],[]⟩,⟨5,[2],[]⟩,⟨6,[32],[102]⟩,⟨7,[33],[102]⟩,⟨8,[34],[]⟩,⟨9,[31,35],[]⟩,⟨10,[3],[]⟩,⟨11,[37],[103]⟩,⟨12,[38],[103]⟩,⟨13,[39],[]⟩,⟨14,[40],[]⟩,⟨15,[3],[]⟩,⟨16,[42],[103]⟩,⟨17,[43],[103]⟩,⟨18,[44],[]⟩,⟨19,[41,45],[]⟩,⟨20,[36],[]⟩] [21] []) (.two (.loop ⟨[4],[104],[]⟩ [.s 5 (.int .u64),.s 6 (.int .u64)] [(.x (some 0),[.s 5 (.int .u64)])] (.two (.no) (.hX [⟨0,[6],[]⟩,⟨1,[5],[]⟩,⟨2,[6],[]⟩,⟨3,[50,51],[]⟩,⟨4,[49],[]⟩] [5] []))) (.no))) (.no))) (.two (.two (.hX [⟨0,[2],[]⟩,⟨1,[60],[102]⟩,⟨2,[3],[]⟩,⟨3,[62],[103]⟩,⟨4,[],[107]⟩,⟨5,[],[108]⟩,⟨6,[7,61],[107]⟩] [7] []) (.no)) (.no))))) [] F fun a l=>by kernel_rfl
def yn (F:Nat):bJ DD pk:=⟨202,[.d (.st .bb)],[],[],[],[.st .bb],true,false,false,false,fun a l=>xP F a.1⟩
theorem EA (F:Nat):av Tryz.prog (aw mx) (yn F):=ak (B0:=BB) (L:=LL) (G:=[eJ F,iM F,gx F]) 14 ⟨Tryz.call202⟩ Tryz.func202 Tryz.ntmps202 rfl (Nat.le_of_ble_eq_true rfl) rfl ⟨eI F,iK F,gw F,trivial⟩ (.no) [] F fun a l=>by kernel_rfl
def wD (F:Nat):bJ DD pk:=⟨231,[.d (.int .u32)],[],[],[],[.int .i64],true,false,false,false,fun a l=>wE F a.1⟩
theorem C1 (F:Nat):av Tryz.prog (aw mx) (wD F):=ak (B0:=BB) (L:=LL) (G:=[]) 19 ⟨Tryz.call231⟩ Tryz.func231 Tryz.ntmps231 rfl (Nat.le_of_ble_eq_true rfl) rfl trivial (.two (.no) (.join ⟨[],[],[]⟩ [.s 0 (.int .u32),.s 2 (.int .i64)] (.no) (.join ⟨[],[],[]⟩ [.s 0 (.int .u32),.s 2 (.int .i64)] (.no) (.no)))) [] F fun a l=>by kernel_rfl
def wB (F:Nat):bJ DD pk:=⟨209,[.d (.st .bb)],[],[],[],[.int .i64],true,false,false,false,fun a l=>wa F a.1⟩
theorem CY (F:Nat):av Tryz.prog (aw mx) (wB F):=ak (B0:=BB) (L:=LL) (G:=[rA F,eJ F,wD F]) 25 ⟨Tryz.call209⟩ Tryz.func209 Tryz.ntmps209 rfl (Nat.le_of_ble_eq_true rfl) rfl ⟨rp F,eI F,C1 F,trivial⟩ (.no) [] F fun a l=>by kernel_rfl
def qj (F:Nat):bJ DD pk:=⟨193,[.d (.st .bb)],[],[],[],[.int .i64,.bool],true,false,false,false,fun a l=>mK F a.1⟩
theorem uz (F:Nat):av Tryz.prog (aw mx) (qj F):=ak (B0:=BB) (L:=LL) (G:=[eJ F,wB F]) 44 ⟨Tryz.call193⟩ Tryz.func193 Tryz.ntmps193 rfl (Nat.le_of_ble_eq_true rfl) rfl ⟨eI F,CY F,trivial⟩ (.no) [] F fun a l=>by kernel_rfl
def rY (F:Nat):bJ DD pk:=⟨219,[.d (.st .bb),.d (.st .bb)],[],[],[],[.st .bb,.st .bb],true,false,false,false,fun a l=>rS F a.1 a.2.1⟩
theorem yD (F:Nat):av Tryz.prog (aw mx) (rY F):=ak (B0:=BB) (L:=LL) (G:=[eJ F,lq F,iM F,qj F,oT F]) 108 ⟨Tryz.call219⟩ Tryz.func219 Tryz.ntmps219 rfl (Nat.le_of_ble_eq_true rfl) rfl ⟨eI F,ou F,iK F,uz F,oS F,trivial⟩ (.two (.no) (.two (.no) (.qu ⟨[2,3,4,5],[102,103],[]⟩ [.b 104 25 (.st .bb),.b 105 25 (.st .bb)] [(.x none,[.b 104 25 (.st .bb),.b 105 25 (.st .bb)])] (.two (.no) (.two (.no) (.two (.two (.no) (.two (.no) (.two (.two (.hX [⟨0,[6],[]⟩,⟨1,[8],[]⟩,⟨2,[47,48],[]⟩,⟨3,[6],[]⟩,⟨4,[8],[]⟩,⟨5,[50,51],[]⟩,⟨6,[49],[]⟩] [7] []) (.join ⟨[2,3,4,5],[102,103,104,105],[]⟩ [.s 10 (.int .i64),.s 11 (.int .i64)] (.no) (.no))) (.no)))) (.no)))) (.no)))) [] F fun a l=>by kernel_rfl
def ym (F:Nat):bJ DD pk:=⟨203,[.d (.st .bb),.d (.st .bb)],[],[],[],[.st .bb],true,false,false,false,fun a l=>sO F a.1 a.2.1⟩
theorem Ez (F:Nat):av Tryz.prog (aw mx) (ym F):=ak (B0:=BB) (L:=LL) (G:=[rY F]) 14 ⟨Tryz.call203⟩ Tryz.func203 Tryz.ntmps203 rfl (Nat.le_of_ble_eq_true rfl) rfl ⟨yD F,trivial⟩ (.no) [] F fun a l=>by kernel_rfl
def rC (F:Nat):bJ DD pk:=⟨184,[.d (.st .bb),.d (.st .bb)],[],[],[],[.st .dW],true,false,false,false,fun a l=>rl F a.1 a.2.1⟩
theorem wm (F:Nat):av Tryz.prog (aw mx) (rC F):=ak (B0:=BB) (L:=LL) (G:=[rB F,lq F,yq F,sV F,yn F,ym F]) 35 ⟨Tryz.call184⟩ Tryz.func184 Tryz.ntmps184 rfl (Nat.le_of_ble_eq_true rfl) rfl ⟨wk F,ou F,ED F,yc F,EA F,Ez F,trivial⟩ (.two (.no) (.two (.no) (.two (.no) (.join ⟨[2,3,4,5],[102,103,104],[]⟩ [.b 105 25 (.st .bb)] (.no) (.two (.hX [⟨0,[2],[102]⟩,⟨1,[5],[105]⟩,⟨3,[3],[103]⟩,⟨4,[5],[105]⟩,⟨2,[28,29],[]⟩] [5,6,7] []) (.no)))))) [] F fun a l=>by kernel_rfl
def ql (F:Nat):bJ DD pk:=⟨192,[.d (.st .Token)],[],[],[],[.st .dW,.int .i64],true,false,false,false,fun a l=>qh F a.1⟩
theorem uB (F:Nat):av Tryz.prog (aw mx) (ql F):=ak (B0:=BB) (L:=LL) (G:=[qJ F,uF F,o2 F,uE F,b4 F,rC F]) 50 ⟨Tryz.call192⟩ Tryz.func192 Tryz.ntmps192 rfl (Nat.le_of_ble_eq_true rfl) rfl ⟨xH F,Be F,ve F,Bd F,bZ F,wm F,trivial⟩ (.two (.no) (.two (.no) (.two (.no) (.two (.no) (.join ⟨[2,5],[102],[]⟩ [.s 7 (.str)] (.no) (.no)))))) [] F fun a l=>by kernel_rfl
def gF (F:Nat):bJ DD pk:=⟨52,[.k,.d (.str)],[.p (.ptr 1 0)],[1,2],[.x 79 .Builder,.r 5 (.int .u8)],[.int .i64,.u],false,false,false,false,fun a l=>c6 F a.1 l.1 l.2.1⟩
theorem nB (F:Nat):av Tryz.prog (aw mx) (gF F):=ak (B0:=BB) (L:=LL) (G:=[Jv F]) 19 ⟨Tryz.call52⟩ Tryz.func52 Tryz.ntmps52 rfl (Nat.le_of_ble_eq_true rfl) rfl ⟨(m_cc79 F),trivial⟩ (.no) [] F fun a l=>by kernel_rfl
def nV (F:Nat):bJ DD pk:=⟨232,[.d (.str),.d (.str)],[],[],[],[.int .i64],true,false,false,false,fun a l=>nM F a.1 a.2.1⟩
theorem tN (F:Nat):av Tryz.prog (aw mx) (nV F):=ak (B0:=BB) (L:=LL) (G:=[mH F]) 143 ⟨Tryz.call232⟩ Tryz.func232 Tryz.ntmps232 rfl (Nat.le_of_ble_eq_true rfl) rfl ⟨qF F,trivial⟩ (.no) [] F fun a l=>by kernel_rfl
def rZ (F:Nat):bJ DD pk:=⟨210,[.d (.str),.d (.str)],[],[],[],[.int .i64],true,false,false,false,fun a l=>rT F a.1 a.2.1⟩
theorem yE (F:Nat):av Tryz.prog (aw mx) (rZ F):=ak (B0:=BB) (L:=LL) (G:=[nV F]) 8 ⟨Tryz.call210⟩ Tryz.func210 Tryz.ntmps210 rfl (Nat.le_of_ble_eq_true rfl) rfl ⟨tN F,trivial⟩ (.no) [] F fun a l=>by kernel_rfl
def o5 (F:Nat):bJ DD pk:=⟨194,[.d (.str),.d (.str)],[],[],[],[.bool],true,false,false,false,fun a l=>oY F a.1 a.2.1⟩
theorem vf (F:Nat):av Tryz.prog (aw mx) (o5 F):=ak (B0:=BB) (L:=LL) (G:=[rZ F]) 9 ⟨Tryz.call194⟩ Tryz.func194 Tryz.ntmps194 rfl (Nat.le_of_ble_eq_true rfl) rfl ⟨yE F,trivial⟩ (.no) [] F fun a l=>by kernel_rfl
def gA (F:Nat):bJ DD pk:=⟨167,[.k,.d (.int .i64)],[.p (.ptr 1 0)],[1],[.b 64 (.st .reader)],[.int .i64,.str],false,true,false,false,fun a l=>gz F a.1 l.1⟩
theorem kQ (F:Nat):av Tryz.prog (aw mx) (gA F):=ak (B0:=BB) (L:=LL) (G:=[aU F,eo F,ql F,qj F,o5 F,bH F]) 57 ⟨Tryz.call167⟩ Tryz.func167 Tryz.ntmps167 rfl (Nat.le_of_ble_eq_true rfl) rfl ⟨bg F,fP F,uB F,uz F,vf F,bS F,trivial⟩ (.two (.no) (.two (.no) (.two (.no) (.two (.no) (.two (.no) (.qu ⟨[6,7,10],[107],[]⟩ [.b 1 64 (.st .reader)] [(.hC,[])] (.no) (.two (.two (.no) (.two (.two (.hX [⟨0,[10],[]⟩,⟨1,[49],[]⟩,⟨2,[7],[]⟩,⟨3,[51],[107]⟩,⟨4,[52],[]⟩,⟨5,[50],[]⟩] [6] []) (.no)) (.no))) (.two (.hX [⟨0,[10],[]⟩,⟨1,[7],[]⟩,⟨2,[55],[107]⟩,⟨3,[54],[]⟩] [4] []) (.no))))))))) [] F fun a l=>by kernel_rfl
def km (F:Nat):bJ DD pk:=⟨66,[.k],[.p (.ptr 1 0)],[1,2],[.x 79 .Builder,.r 5 (.int .u8)],[.str],false,false,false,true,fun a l=>j7 F l.1 l.2.1⟩
theorem qm (F:Nat):av Tryz.prog (aw mx) (km F):=ak (B0:=BB) (L:=LL) (G:=[]) 14 ⟨Tryz.call66⟩ Tryz.func66 Tryz.ntmps66 rfl (Nat.le_of_ble_eq_true rfl) rfl trivial (.two (.no) (.two (.hX [⟨0,[0],[]⟩,⟨1,[3],[]⟩,⟨2,[4],[]⟩,⟨3,[5],[1,2]⟩,⟨4,[6],[2,100107]⟩,⟨5,[0],[]⟩,⟨6,[8],[]⟩,⟨7,[9],[]⟩,⟨8,[10],[1,2]⟩,⟨9,[11],[2]⟩] [10,11] []) (.no))) [] F fun a l=>by kernel_rfl
def ns (F:Nat):bJ DD pk:=⟨163,[.k],[.p (.ptr 1 0)],[1],[.b 64 (.st .reader)],[.str],false,true,false,false,fun a l=>mX F l.1⟩
theorem tf (F:Nat):av Tryz.prog (aw mx) (ns F):=ak (B0:=BB) (L:=LL) (G:=[eo F,bH F,((gF F).sw 1 103).sw 2 100103,aU F,gA F,fh F,((km F).sw 1 103).sw 2 100103,aT F]) 55 ⟨Tryz.call163⟩ Tryz.func163 Tryz.ntmps163 rfl (Nat.le_of_ble_eq_true rfl) rfl ⟨fP F,bS F,((nB F).sw 1 103).sw 2 100103,bg F,kQ F,kG F,((qm F).sw 1 103).sw 2 100103,bf F,trivial⟩ (.two (.no) (.two (.no) (.loop ⟨[0,3],[],[]⟩ [.b 1 64 (.st .reader),.x 103 79 .Builder 100103,.r 100103 5 (.int .u8)] [(.x none,[.s 2 (.str),.b 1 64 (.st .reader)]),(.hC,[])] (.two (.no) (.qu ⟨[0,3,4],[103,104,100103],[]⟩ [.b 1 64 (.st .reader)] [(.hC,[])] (.no) (.two (.no) (.qu ⟨[0,3],[],[]⟩ [.b 1 64 (.st .reader),.x 103 79 .Builder 100103,.r 100103 5 (.int .u8)] [(.hC,[])] (.no) (.no)))))))) [3] F fun a l=>by kernel_rfl
def nv (F:Nat):bJ DD pk:=⟨211,[.k],[.p (.ptr 1 0)],[1],[.b 64 (.st .reader)],[.st .af],false,true,false,false,fun a l=>m' F l.1⟩
def ja (F:Nat):bJ DD pk:=⟨196,[.k],[.p (.ptr 1 0)],[1],[.b 64 (.st .reader)],[.st .af],false,true,false,false,fun a l=>fL F l.1⟩
def jh (F:Nat):bJ DD pk:=⟨18,[.k,.k,.k],[.p (.ptr 1 0),.p (.cC 196 [.ptr 1 0] []),.p (.row 2)],[1,2],[.b 64 (.st .reader),.ms (.int .i64) ([(([42]:Str),(7:Int)),(([47]:Str),(8:Int))]:List (Str × Int))],[.st .af],false,true,false,false,fun a l=>jd F l.1⟩
def kT (F:Nat):bJ DD pk:=⟨172,[.k],[.p (.ptr 1 0)],[1],[.b 64 (.st .reader)],[.st .af],false,true,false,false,fun a l=>gy F l.1⟩
def jI (F:Nat):bJ DD pk:=⟨18,[.k,.k,.k],[.p (.ptr 1 0),.p (.cC 172 [.ptr 1 0] []),.p (.row 2)],[1,2],[.b 64 (.st .reader),.ms (.int .i64) ([(([43]:Str),(5:Int)),(([45]:Str),(6:Int))]:List (Str × Int))],[.st .af],false,true,false,false,fun a l=>jF F l.1⟩
def n4 (F:Nat):bJ DD pk:=⟨137,[.k],[.p (.ptr 1 0)],[1],[.b 64 (.st .reader)],[.st .af],false,true,false,false,fun a l=>jQ F l.1⟩
def nu (F:Nat):bJ DD pk:=⟨95,[.k],[.p (.ptr 1 0)],[1],[.b 64 (.st .reader)],[.st .af],false,true,false,false,fun a l=>mY F l.1⟩
def jV (F:Nat):bJ DD pk:=⟨40,[.k],[.p (.ptr 1 0)],[1],[.b 64 (.st .reader)],[.st .af],false,true,false,false,fun a l=>gi F l.1⟩
def kn (F:Nat):bJ DD pk:=⟨18,[.k,.k,.k],[.p (.ptr 1 0),.p (.cC 40 [.ptr 1 0] []),.p (.row 2)],[1,2],[.b 64 (.st .reader),.ms (.int .i64) ([(([97,110,100]:Str),(16:Int))]:List (Str × Int))],[.st .af],false,true,false,false,fun a l=>j8 F l.1⟩
def n7 (F:Nat):bJ DD pk:=⟨19,[.k],[.p (.ptr 1 0)],[1],[.b 64 (.st .reader)],[.st .af],false,true,false,false,fun a l=>jT F l.1⟩
def ma (F:Nat):bJ DD pk:=⟨18,[.k,.k,.k],[.p (.ptr 1 0),.p (.cC 19 [.ptr 1 0] []),.p (.row 2)],[1,2],[.b 64 (.st .reader),.ms (.int .i64) ([(([111,114]:Str),(17:Int))]:List (Str × Int))],[.st .af],false,true,false,false,fun a l=>lO F l.1⟩
def bU (F:Nat):bJ DD pk:=⟨8,[.k],[.p (.ptr 1 0)],[1],[.b 64 (.st .reader)],[.st .af],false,true,false,false,fun a l=>cf F l.1⟩
theorem bq:∀ F:Nat,av Tryz.prog (aw mx) (nv F) ∧ av Tryz.prog (aw mx) (ja F) ∧ av Tryz.prog (aw mx) (jh F) ∧ av Tryz.prog (aw mx) (kT F) ∧ av Tryz.prog (aw mx) (jI F) ∧ av Tryz.prog (aw mx) (n4 F) ∧ av Tryz.prog (aw mx) (nu F) ∧ av Tryz.prog (aw mx) (jV F) ∧ av Tryz.prog (aw mx) (kn F) ∧ av Tryz.prog (aw mx) (n7 F) ∧ av Tryz.prog (aw mx) (ma F) ∧ av Tryz.prog (aw mx) (bU F)
 | 0=>⟨cG ⟨Tryz.call211⟩ rfl fun a l=>rfl,cG ⟨Tryz.call196⟩ rfl fun a l=>rfl,cG ⟨Tryz.call18⟩ rfl fun a l=>rfl,cG ⟨Tryz.call172⟩ rfl fun a l=>rfl,cG ⟨Tryz.call18⟩ rfl fun a l=>rfl,cG ⟨Tryz.call137⟩ rfl fun a l=>rfl,cG ⟨Tryz.call95⟩ rfl fun a l=>rfl,cG ⟨Tryz.call40⟩ rfl fun a l=>rfl,cG ⟨Tryz.call18⟩ rfl fun a l=>rfl,cG ⟨Tryz.call19⟩ rfl fun a l=>rfl,cG ⟨Tryz.call18⟩ rfl fun a l=>rfl,cG ⟨Tryz.call8⟩ rfl fun a l=>rfl⟩
 | F + 1=>⟨ak (B0:=BB) (L:=LL) (G:=[aT F,aU F,bU F,br F,eo F,ql F,ns F]) 57 ⟨Tryz.call211⟩ Tryz.func211 Tryz.ntmps211 rfl (Nat.le_of_ble_eq_true rfl) rfl ⟨bf F,bg F,(bq F).2.2.2.2.2.2.2.2.2.2.2,bO F,fP F,uB F,tf F,trivial⟩ (.no) [] F fun a l=>by kernel_rfl,
  ak (B0:=BB) (L:=LL) (G:=[aT F,aU F,ja F,nv F]) 16 ⟨Tryz.call196⟩ Tryz.func196 Tryz.ntmps196 rfl (Nat.le_of_ble_eq_true rfl) rfl ⟨bf F,bg F,(bq F).2.1,(bq F).1,trivial⟩ (.two (.no) (.two (.no) (.two (.two (.no) (.two (.two (.hX [⟨0,[0],[]⟩,⟨3,[3],[]⟩,⟨4,[11],[103]⟩,⟨1,[8],[1]⟩,⟨2,[9],[]⟩] [5,6] []) (.no)) (.no))) (.no)))) [] F fun a l=>by kernel_rfl,
  ak (B0:=BB) (L:=LL) (G:=[ja F,aT F]) 46 ⟨Tryz.call18⟩ Tryz.func18 Tryz.ntmps18 rfl (Nat.le_of_ble_eq_true rfl) rfl ⟨(bq F).2.1,bf F,trivial⟩ (.two (.no) (.two (.no) (.loop ⟨[0,1,2,6,7],[2],[]⟩ [.b 1 64 (.st .reader),.b 106 30 (.st .af),.b 107 30 (.st .af)] [(.x none,[.b 1 64 (.st .reader),.b 106 30 (.st .af)]),(.hC,[])] (.two (.no) (.two (.no) (.two (.no) (.two (.no) (.hX [⟨0,[9],[]⟩,⟨1,[7],[107]⟩,⟨2,[1],[]⟩,⟨5,[8],[]⟩,⟨6,[43],[108]⟩,⟨3,[40],[1]⟩,⟨4,[39,41],[]⟩] [7,8] [])))))))) [] F fun a l=>by kernel_rfl,
  ak (B0:=BB) (L:=LL) (G:=[(jh F).sw 2 106]) 9 ⟨Tryz.call172⟩ Tryz.func172 Tryz.ntmps172 rfl (Nat.le_of_ble_eq_true rfl) rfl ⟨((bq F).2.2.1).sw 2 106,trivial⟩ (.no) [] F fun a l=>by kernel_rfl,
  ak (B0:=BB) (L:=LL) (G:=[kT F,aT F]) 46 ⟨Tryz.call18⟩ Tryz.func18 Tryz.ntmps18 rfl (Nat.le_of_ble_eq_true rfl) rfl ⟨(bq F).2.2.2.1,bf F,trivial⟩ (.two (.no) (.two (.no) (.loop ⟨[0,1,2,6,7],[2],[]⟩ [.b 1 64 (.st .reader),.b 106 30 (.st .af),.b 107 30 (.st .af)] [(.x none,[.b 1 64 (.st .reader),.b 106 30 (.st .af)]),(.hC,[])] (.two (.no) (.two (.no) (.two (.no) (.two (.no) (.hX [⟨0,[9],[]⟩,⟨1,[7],[107]⟩,⟨2,[1],[]⟩,⟨5,[8],[]⟩,⟨6,[43],[108]⟩,⟨3,[40],[1]⟩,⟨4,[39,41],[]⟩] [7,8] [])))))))) [] F fun a l=>by kernel_rfl,
  ak (B0:=BB) (L:=LL) (G:=[(jI F).sw 2 106]) 9 ⟨Tryz.call137⟩ Tryz.func137 Tryz.ntmps137 rfl (Nat.le_of_ble_eq_true rfl) rfl ⟨((bq F).2.2.2.2.1).sw 2 106,trivial⟩ (.no) [] F fun a l=>by kernel_rfl,
  ak (B0:=BB) (L:=LL) (G:=[n4 F,aT F]) 38 ⟨Tryz.call95⟩ Tryz.func95 Tryz.ntmps95 rfl (Nat.le_of_ble_eq_true rfl) rfl ⟨(bq F).2.2.2.2.2.1,bf F,trivial⟩ (.two (.no) (.two (.no) (.two (.no) (.two (.no) (.two (.no) (.two (.no) (.two (.hX [⟨0,[5],[]⟩,⟨1,[3],[103]⟩,⟨2,[0],[]⟩,⟨5,[4],[]⟩,⟨6,[35],[104]⟩,⟨3,[32],[1]⟩,⟨4,[31,33],[]⟩] [7,8] []) (.no)))))))) [] F fun a l=>by kernel_rfl,
  ak (B0:=BB) (L:=LL) (G:=[aT F,aU F,jV F,nu F]) 16 ⟨Tryz.call40⟩ Tryz.func40 Tryz.ntmps40 rfl (Nat.le_of_ble_eq_true rfl) rfl ⟨bf F,bg F,(bq F).2.2.2.2.2.2.2.1,(bq F).2.2.2.2.2.2.1,trivial⟩ (.two (.no) (.two (.no) (.two (.two (.no) (.two (.two (.hX [⟨0,[0],[]⟩,⟨3,[3],[]⟩,⟨4,[11],[103]⟩,⟨1,[8],[1]⟩,⟨2,[9],[]⟩] [5,6] []) (.no)) (.no))) (.no)))) [] F fun a l=>by kernel_rfl,
  ak (B0:=BB) (L:=LL) (G:=[jV F,aT F]) 46 ⟨Tryz.call18⟩ Tryz.func18 Tryz.ntmps18 rfl (Nat.le_of_ble_eq_true rfl) rfl ⟨(bq F).2.2.2.2.2.2.2.1,bf F,trivial⟩ (.two (.no) (.two (.no) (.loop ⟨[0,1,2,6,7],[2],[]⟩ [.b 1 64 (.st .reader),.b 106 30 (.st .af),.b 107 30 (.st .af)] [(.x none,[.b 1 64 (.st .reader),.b 106 30 (.st .af)]),(.hC,[])] (.two (.no) (.two (.no) (.two (.no) (.two (.no) (.hX [⟨0,[9],[]⟩,⟨1,[7],[107]⟩,⟨2,[1],[]⟩,⟨5,[8],[]⟩,⟨6,[43],[108]⟩,⟨3,[40],[1]⟩,⟨4,[39,41],[]⟩] [7,8] [])))))))) [] F fun a l=>by kernel_rfl,
  ak (B0:=BB) (L:=LL) (G:=[(kn F).sw 2 106]) 9 ⟨Tryz.call19⟩ Tryz.func19 Tryz.ntmps19 rfl (Nat.le_of_ble_eq_true rfl) rfl ⟨((bq F).2.2.2.2.2.2.2.2.1).sw 2 106,trivial⟩ (.no) [] F fun a l=>by kernel_rfl,
  ak (B0:=BB) (L:=LL) (G:=[n7 F,aT F]) 46 ⟨Tryz.call18⟩ Tryz.func18 Tryz.ntmps18 rfl (Nat.le_of_ble_eq_true rfl) rfl ⟨(bq F).2.2.2.2.2.2.2.2.2.1,bf F,trivial⟩ (.two (.no) (.two (.no) (.loop ⟨[0,1,2,6,7],[2],[]⟩ [.b 1 64 (.st .reader),.b 106 30 (.st .af),.b 107 30 (.st .af)] [(.x none,[.b 1 64 (.st .reader),.b 106 30 (.st .af)]),(.hC,[])] (.two (.no) (.two (.no) (.two (.no) (.two (.no) (.hX [⟨0,[9],[]⟩,⟨1,[7],[107]⟩,⟨2,[1],[]⟩,⟨5,[8],[]⟩,⟨6,[43],[108]⟩,⟨3,[40],[1]⟩,⟨4,[39,41],[]⟩] [7,8] [])))))))) [] F fun a l=>by kernel_rfl,
  ak (B0:=BB) (L:=LL) (G:=[(ma F).sw 2 106]) 9 ⟨Tryz.call8⟩ Tryz.func8 Tryz.ntmps8 rfl (Nat.le_of_ble_eq_true rfl) rfl ⟨((bq F).2.2.2.2.2.2.2.2.2.2.1).sw 2 106,trivial⟩ (.no) [] F fun a l=>by kernel_rfl⟩
theorem dT (F:Nat):av Tryz.prog (aw mx) (bU F):=(bq F).2.2.2.2.2.2.2.2.2.2.2
def r7 (F:Nat):bJ DD pk:=⟨7,[.k,.k],[.p (.ptr 1 0),.p (.ptr 2 0)],[1,2],[.b 64 (.st .reader),.b 30 (.st .af)],[],false,true,false,false,fun a l=>kB F l.1 l.2.1⟩
theorem yI (F:Nat):av Tryz.prog (aw mx) (r7 F):=ak (B0:=BB) (L:=LL) (G:=[bU F]) 5 ⟨Tryz.call7⟩ Tryz.func7 Tryz.ntmps7 rfl (Nat.le_of_ble_eq_true rfl) rfl ⟨dT F,trivial⟩ (.no) [] F fun a l=>by kernel_rfl
def er (F:Nat):bJ DD pk:=⟨70,[.k],[.p (.ptr 1 0)],[1],[.b 64 (.st .reader)],[.str],false,true,false,false,fun a l=>dk F l.1⟩
theorem iU (F:Nat):av Tryz.prog (aw mx) (er F):=ak (B0:=BB) (L:=LL) (G:=[eo F]) 6 ⟨Tryz.call70⟩ Tryz.func70 Tryz.ntmps70 rfl (Nat.le_of_ble_eq_true rfl) rfl ⟨fP F,trivial⟩ (.no) [] F fun a l=>by kernel_rfl
def n6 (F:Nat):bJ DD pk:=⟨75,[.k,.k],[.p (.ptr 1 0),.p (.ptr 2 0)],[1,2],[.b 64 (.st .reader),.b 46 (.st .ay)],[],false,true,false,false,fun a l=>jS F l.1 l.2.1⟩
theorem tX (F:Nat):av Tryz.prog (aw mx) (n6 F):=ak (B0:=BB) (L:=LL) (G:=[er F,br F,bU F]) 20 ⟨Tryz.call75⟩ Tryz.func75 Tryz.ntmps75 rfl (Nat.le_of_ble_eq_true rfl) rfl ⟨iU F,bO F,dT F,trivial⟩ (.no) [] F fun a l=>by kernel_rfl
def cR (F:Nat):bJ DD pk:=⟨74,[.k],[.p (.ptr 1 0)],[1],[.b 64 (.st .reader)],[.st .ae],false,true,false,false,fun a l=>cj F l.1⟩
theorem eN (F:Nat):av Tryz.prog (aw mx) (cR F):=ak (B0:=BB) (L:=LL) (G:=[br F,bU F]) 24 ⟨Tryz.call74⟩ Tryz.func74 Tryz.ntmps74 rfl (Nat.le_of_ble_eq_true rfl) rfl ⟨bO F,dT F,trivial⟩ (.two (.no) (.two (.no) (.two (.two (.no) (.loop ⟨[0,2,3,6],[102],[]⟩ [.s 7 (.int .i64),.b 1 64 (.st .reader),.b 103 120 (.st .ae)] [(.x (some 0),[.b 1 64 (.st .reader),.b 103 120 (.st .ae)]),(.hC,[])] (.no))) (.no)))) [] F fun a l=>by kernel_rfl
def jb (F:Nat):bJ DD pk:=⟨131,[.k],[.p (.ptr 1 0)],[1],[.b 64 (.st .reader)],[.st .bj],false,true,false,false,fun a l=>fM F l.1⟩
theorem nh (F:Nat):av Tryz.prog (aw mx) (jb F):=ak (B0:=BB) (L:=LL) (G:=[cR F,aU F,br F,gA F]) 34 ⟨Tryz.call131⟩ Tryz.func131 Tryz.ntmps131 rfl (Nat.le_of_ble_eq_true rfl) rfl ⟨eN F,bg F,bO F,kQ F,trivial⟩ (.two (.no) (.two (.no) (.two (.two (.no) (.two (.two (.two (.no) (.loop ⟨[0,2,3,12],[102],[]⟩ [.s 13 (.int .i64),.b 1 64 (.st .reader),.b 103 124 (.st .bj)] [(.x (some 0),[.b 1 64 (.st .reader),.b 103 124 (.st .bj)]),(.hC,[])] (.no))) (.no)) (.no))) (.no)))) [] F fun a l=>by kernel_rfl
def n8 (F:Nat):bJ DD pk:=⟨133,[.k,.d (.str),.k],[.p (.ptr 1 0),.p (.cC 131 [.ptr 1 0] [])],[1],[.b 64 (.st .reader)],[.sl (.st .bj)],false,true,false,false,fun a l=>nS F a.1 l.1⟩
theorem tY (F:Nat):av Tryz.prog (aw mx) (n8 F):=ak (B0:=BB) (L:=LL) (G:=[jb F,aU F]) 20 ⟨Tryz.call133⟩ Tryz.func133 Tryz.ntmps133 rfl (Nat.le_of_ble_eq_true rfl) rfl ⟨nh F,bg F,trivial⟩ (.two (.no) (.two (.no) (.two (.loop ⟨[0,1,2],[],[(7,110)]⟩ [.b 1 64 (.st .reader),.r 110 124 (.st .bj)] [(.x (some 0),[.b 1 64 (.st .reader),.r 110 124 (.st .bj)]),(.hC,[])] (.no)) (.no)))) [10] F fun a l=>by kernel_rfl
def nt (F:Nat):bJ DD pk:=⟨78,[.k,.k],[.p (.ptr 1 0),.p (.ptr 2 0)],[1,2],[.b 64 (.st .reader),.b 46 (.st .ay)],[],false,true,false,false,fun a l=>iT F l.1 l.2.1⟩
theorem th (F:Nat):av Tryz.prog (aw mx) (nt F):=ak (B0:=BB) (L:=LL) (G:=[er F,br F,n8 F]) 22 ⟨Tryz.call78⟩ Tryz.func78 Tryz.ntmps78 rfl (Nat.le_of_ble_eq_true rfl) rfl ⟨iU F,bO F,tY F,trivial⟩ (.no) [] F fun a l=>by kernel_rfl
def lZ (F:Nat):bJ DD pk:=⟨80,[.k,.k],[.p (.ptr 1 0),.p (.ptr 2 0)],[1,2],[.b 64 (.st .reader),.b 46 (.st .ay)],[],false,true,false,false,fun a l=>ib F l.1 l.2.1⟩
theorem sn (F:Nat):av Tryz.prog (aw mx) (lZ F):=ak (B0:=BB) (L:=LL) (G:=[br F]) 7 ⟨Tryz.call80⟩ Tryz.func80 Tryz.ntmps80 rfl (Nat.le_of_ble_eq_true rfl) rfl ⟨bO F,trivial⟩ (.no) [] F fun a l=>by kernel_rfl
def n5 (F:Nat):bJ DD pk:=⟨81,[.k,.k],[.p (.ptr 1 0),.p (.ptr 2 0)],[1,2],[.b 64 (.st .reader),.b 46 (.st .ay)],[],false,true,false,false,fun a l=>jR F l.1 l.2.1⟩
theorem tW (F:Nat):av Tryz.prog (aw mx) (n5 F):=ak (B0:=BB) (L:=LL) (G:=[bU F,br F]) 12 ⟨Tryz.call81⟩ Tryz.func81 Tryz.ntmps81 rfl (Nat.le_of_ble_eq_true rfl) rfl ⟨dT F,bO F,trivial⟩ (.no) [] F fun a l=>by kernel_rfl
def eO (F:Nat):bJ DD pk:=⟨68,[.k],[.p (.ptr 1 0)],[1],[.b 64 (.st .reader)],[.sl (.st .af)],false,true,false,false,fun a l=>eM F l.1⟩
theorem lC (F:Nat):av Tryz.prog (aw mx) (eO F):=ak (B0:=BB) (L:=LL) (G:=[bU F,aU F]) 15 ⟨Tryz.call68⟩ Tryz.func68 Tryz.ntmps68 rfl (Nat.le_of_ble_eq_true rfl) rfl ⟨dT F,bg F,trivial⟩ (.no) [6] F fun a l=>by kernel_rfl
def n9 (F:Nat):bJ DD pk:=⟨130,[.k,.d (.str),.k],[.p (.ptr 1 0),.p (.cC 74 [.ptr 1 0] [])],[1],[.b 64 (.st .reader)],[.sl (.st .ae)],false,true,false,false,fun a l=>nT F a.1 l.1⟩
theorem tZ (F:Nat):av Tryz.prog (aw mx) (n9 F):=ak (B0:=BB) (L:=LL) (G:=[cR F,aU F]) 20 ⟨Tryz.call130⟩ Tryz.func130 Tryz.ntmps130 rfl (Nat.le_of_ble_eq_true rfl) rfl ⟨eN F,bg F,trivial⟩ (.two (.no) (.two (.no) (.two (.loop ⟨[0,1,2],[],[(7,110)]⟩ [.b 1 64 (.st .reader),.r 110 120 (.st .ae)] [(.x (some 0),[.b 1 64 (.st .reader),.r 110 120 (.st .ae)]),(.hC,[])] (.no)) (.no)))) [10] F fun a l=>by kernel_rfl
def mb (F:Nat):bJ DD pk:=⟨72,[.k],[.p (.ptr 1 0)],[1],[.b 64 (.st .reader)],[.st .aK],false,true,false,false,fun a l=>lP F l.1⟩
theorem so (F:Nat):av Tryz.prog (aw mx) (mb F):=ak (B0:=BB) (L:=LL) (G:=[aT F,aU F,cR F,br F,n9 F,eO F,jb F,bH F]) 66 ⟨Tryz.call72⟩ Tryz.func72 Tryz.ntmps72 rfl (Nat.le_of_ble_eq_true rfl) rfl ⟨bf F,bg F,eN F,bO F,tZ F,lC F,nh F,bS F,trivial⟩ (.two (.no) (.two (.no) (.qu ⟨[0,2,3],[],[]⟩ [.b 1 64 (.st .reader),.b 102 126 (.st .aK),.b 103 126 (.st .aK)] [(.x none,[.b 1 64 (.st .reader),.b 102 126 (.st .aK)]),(.hC,[])] (.two (.no) (.two (.two (.no) (.two (.no) (.hX [⟨0,[4],[104]⟩,⟨1,[0],[]⟩,⟨4,[3],[]⟩,⟨2,[20],[1]⟩,⟨3,[19,21],[]⟩,⟨5,[23],[103]⟩] [6,7] []))) (.no))) (.no)))) [] F fun a l=>by kernel_rfl
def il (F:Nat):bJ DD pk:=⟨71,[.k,.d (.str),.k],[.p (.ptr 1 0),.p (.cC 72 [.ptr 1 0] [])],[1],[.b 64 (.st .reader)],[.sl (.st .aK)],false,true,false,false,fun a l=>lN F a.1 l.1⟩
theorem sj (F:Nat):av Tryz.prog (aw mx) (il F):=ak (B0:=BB) (L:=LL) (G:=[aU F,mb F]) 18 ⟨Tryz.call71⟩ Tryz.func71 Tryz.ntmps71 rfl (Nat.le_of_ble_eq_true rfl) rfl ⟨bg F,so F,trivial⟩ (.two (.no) (.two (.no) (.two (.loop ⟨[0,1,2],[],[(7,107)]⟩ [.b 1 64 (.st .reader),.r 107 126 (.st .aK)] [(.x (some 0),[.b 1 64 (.st .reader),.r 107 126 (.st .aK)]),(.hC,[])] (.no)) (.no)))) [7] F fun a l=>by kernel_rfl
def fS (F:Nat):bJ DD pk:=⟨31,[.k],[.p (.ptr 1 0)],[1],[.b 64 (.st .reader)],[.st .aV],false,true,false,false,fun a l=>mZ F l.1⟩
theorem h31_lin (F:Nat):Gq (BB (mx:=mx)) LL [aT F,aU F,bU F,eO F,fh F,er F,br F,il F,cR F,bH F] ⟨129,Ic (fS F).ks (fS F).ls,[]⟩ (regOf 8 Tryz.f31) [(0,1),(2,102),(3,103)] [(0,1),(2,102),(3,103)] [.b 1 64 (.st .reader),.b 102 53 (.st .aV),.b 103 53 (.st .aV)] [.b 1 64 (.st .reader),.b 102 53 (.st .aV),.b 103 53 (.st .aV)] .Problem (h31 F):=GV (pk:=pk) [[],[0],[0],[0,1,2],[],[4],[5],[3,6],[],[8,5],[0,1,2,3,4,5,6,7,8,9],[10,7,9,0,1,2,3,4,5,6,7,8,9]] (by kernel_rfl) (fun σ z=>if σ.idxOf 1 < σ.idxOf 2 then h31 F z else h31b F z) (fun σ z=>by
 show (if σ.idxOf 1 < σ.idxOf 2 then h31 F z else h31b F z) = h31 F z
 split
 ·rfl
 ·exact h31_eq) (fun z0=>by kernel_rfl)
theorem ti (F:Nat):av Tryz.prog (aw mx) (fS F):=CE (B0:=BB (mx:=mx)) (L:=LL) (G:=[aT F,aU F,bU F,eO F,fh F,er F,br F,il F,cR F,bH F]) 129 ⟨Tryz.call31⟩ Tryz.func31 Tryz.ntmps31 rfl (Nat.le_of_ble_eq_true rfl) rfl ⟨bf F,bg F,dT F,lC F,kG F,iU F,bO F,sj F,eN F,bS F,trivial⟩ (.two (.no) (.two (.no) (.qu ⟨[0,2,3],[],[]⟩ [.b 1 64 (.st .reader),.b 102 53 (.st .aV),.b 103 53 (.st .aV)] [(.x none,[.b 1 64 (.st .reader),.b 102 53 (.st .aV)]),(.hC,[])] (.two (.no) (.two (.no) (.two (.no) (.two (.no) (.two (.no) (.two (.two (.lin [(0,1),(2,102),(3,103)] [(0,1),(2,102),(3,103)] [.b 1 64 (.st .reader),.b 102 53 (.st .aV),.b 103 53 (.st .aV)] [.b 1 64 (.st .reader),.b 102 53 (.st .aV),.b 103 53 (.st .aV)] .Problem (h31 F)) (.no)) (.two (.no) (.two (.two (.hX [] [] []) (.no)) (.two (.no) (.two (.two (.no) (.two (.no) (.two (.no) (.two (.no) (.two (.no) (.two (.no) (.two (.hX [] [] []) (.no)))))))) (.no))))))))))) (.no)))) [] F (fun a l=>by kernel_rfl) ⟨(bR _ rfl),⟨(bR _ rfl),⟨⟨(bR _ rfl),⟨(bR _ rfl),⟨(bR _ rfl),⟨(bR _ rfl),⟨(bR _ rfl),⟨⟨(h31_lin (mx:=mx) F),(bR _ rfl)⟩,(bR _ rfl)⟩⟩⟩⟩⟩⟩,(bR _ rfl)⟩⟩⟩
end Go.Dn
namespace Go.Dn
open Go Go.Sk Go.Proofs X
set_option linter.unusedVariables false
set_option maxRecDepth 100000
section
variable {P:Program} {TB:aF} {E:Env TB} {n:Sh} {s:St} {dst:Option Nat} {t ty yt:TypeId} {pos:String} {after:Array Edge} {g:Option (Nat × Bool)} {x y:Operand} {ops:Array Oper} {l:List Oper} {Q:bE}
theorem toRaw {a:Nat} {k:Nat} {ac:Act} {w:World} (hk:k ∈ n.fix) (hl:lk s.slots a = some (.b (.ptr k 0))) (hr:R E n s ac w):R E n ⟨(a,.b (.one (.raw (E.ρ0 k)))) :: s.slots,s.own⟩ ac w:=by
 obtain ⟨h1,h2,h,ρ,hw,hs⟩:=hr
 refine ⟨h1,h2,h,ρ,hw,fun j z hz=>?_⟩
 rcases List.mem_cons.1 hz with e | e
 ·cases e
  obtain ⟨v,hv,b,e1,e2⟩:=hs _ _ (bh hl)
  refine ⟨v,hv,?_⟩
  have e3:v = E.ρ0 k:=by rw [e2,← hw.fixed k hk,e1]
  refine (show (CP.raw (E.ρ0 k)).rel h v from ⟨e3,?_⟩)
  rw [← e3,e2]; rfl
 ·exact hs j z e
theorem ofRaw {a f:Nat} {k:Nat} {T:TypeId} {ps:List CP} {ac:Act} {w:World} (hk:k ∈ n.fix) (hb:lk s.own k = some (.box T ps)) (hl:lk s.slots a = some (.b (.one (.raw (.func (.func f) #[E.ρ0 k] #[]))))) (hr:R E n s ac w):R E n ⟨(a,.b (.cC f [.ptr k 0] [])) :: s.slots,s.own⟩ ac w:=by
 obtain ⟨h1,h2,h,ρ,hw,hs⟩:=hr
 obtain ⟨b,cur,e1,_,_⟩:=hU hw hb
 refine ⟨h1,h2,h,ρ,hw,fun j z hz=>?_⟩
 rcases List.mem_cons.1 hz with e | e
 ·cases e
  obtain ⟨v,hv,e2,_⟩:=hs _ _ (bh hl)
  refine ⟨v,hv,#[E.ρ0 k],#[],e2,.cons ⟨b,e1,?_⟩ .nil,.nil⟩
  rw [← hw.fixed k hk,e1]
 ·exact hs j z e
theorem CQ {f:FuncId} {u:Value} (hx:s.ev x = some (.b (.one (.raw u)))):aQ P E n ⟨dst,.makeFunc (.func f) ⟨[x]⟩ ⟨[]⟩,ty,pos,after,g⟩ s (s.put n dst (.b (.one (.raw (.func (.func f) #[u] #[]))))) :=
 aQ.val (o:=⟨dst,.makeFunc (.func f) ⟨[x]⟩ ⟨[]⟩,ty,pos,after,g⟩) fun ac w h ρ hw hs=>by
  have hv:ac.eval x = u:=(aC hs hx:(CP.raw _).rel h _).1
  refine ⟨.func (.func f) #[u] #[],?_,rfl,rfl⟩
  simp [execOp,Instr.makeFunc,hv]
end
section
variable {TB:aF} {E:Env TB} {n:Sh} {ops:Array Oper} {l:List Oper} {Q:bE}
theorem f_b144:qz Tryz.prog 144 [(0,1),(1,1),(2,1)] [.int .i64 0,.int .i64 0,.raw .nilFunc]:=⟨Tryz.t144,_,_,by kernel_rfl,rfl,fun _=>.cons aa (.cons aa (.cons ⟨rfl,rfl⟩ .nil)),Tryz.underlying144,by kernel_rfl⟩
def z144:BV:=.agg [.int .i64 0,.int .i64 0,.raw .nilFunc]
theorem Jk:sA Tryz.prog 145 9 144 z144:=⟨Tryz.underlying145,Tryz.t144,_,by kernel_rfl,rfl,fun _ _=>⟨_,rfl,.cons aa (.cons aa (.cons ⟨rfl,rfl⟩ .nil))⟩⟩
def Gh (k o:Int) (f:Nat) (u:Value):BV:=.agg [.int .i64 k,.int .i64 o,.raw (.func (.func f) #[u] #[])]
def S1 (u:Value) (b1:reader) (z:ay) (es:List (Str × BV)):St:=⟨[(0,.b (.ptr 1 0)),(2,.b (.ptr 102 0)),(8,.b (.row 108))],[(1,.box 64 (q7 b1)),(102,.box 46 (nF z)),(108,.mp (vm CP.str es))]⟩
theorem put_eq {s:St} {d:Nat} {x:SV} (h:d < n.n):s.put n (some d) x = ⟨(d,x) :: del d s.slots,s.own⟩:=by simp [St.put,St.set,h]
theorem Gc {α:Type} {a k:Nat} {x:α} {l:List (Nat × α)} (h:k ≠ a):lk ((a,x) :: l) k = lk l k:=by
 simp only [lk]
 rw [if_neg (by simpa using h)]
theorem Cs {α:Type} {a k:Nat} (h:k ≠ a):∀ {l:List (Nat × α)},lk (del a l) k = lk l k:=fun {l}=>mj h
theorem hN {a b c f:Nat} {k o:Int} {q:ByteArray} {t0 t1 t2 t3:TypeId} {p0 p1 p2 p3:String} {e0 e1 e2 e3:Array Edge} {b1:reader} {z:ay} {es:List (Str × BV)} (hn:1 ∈ n.fix) (ha:a < n.n) (hb:b < n.n) (hc:c < n.n) (h0:∀ j ∈ [0,2,8],j ≠ a ∧ j ≠ b ∧ j ≠ c)
  (hk:k.natAbs < 1000 ∧ o.natAbs < 1000) (hq:dU es q.data.toList = none) (hl:q.data.toList.length ≤ maxLen)
  (h:aj Tryz.prog E n ops l (S1 (E.ρ0 1) b1 z (es ++ [(q.data.toList,Gh k o f (E.ρ0 1))])) Q) :
  aj Tryz.prog E n ops (⟨some a,.move (.tmp 0),t0,p0,e0,none⟩ :: ⟨some b,.makeFunc (.func f) ⟨[.tmp a]⟩ ⟨[]⟩,t1,p1,e1,none⟩ :: ⟨some c,.build 144 ⟨[(0,.const (.int .i64 k)),(1,.const (.int .i64 o)),(2,.tmp b)]⟩,t2,p2,e2,none⟩ :: ⟨none,.insert 145 (.tmp 8) (.const (.string q)) (.tmp c),t3,p3,e3,none⟩ :: l) (S1 (E.ρ0 1) b1 z es) Q:=by
 have h8:=h0 8 (by simp)
 refine Oc (om rfl) ?_
 rw [put_eq ha]
 refine aj.preR (fun ac w hr=>toRaw (a:=a) (k:=1) hn (by simp [lk]) hr) ?_
 refine Oc (CQ (x:=.tmp a) (u:=E.ρ0 1) (by simp [St.ev,St.get,lk])) ?_
 rw [put_eq hb]
 have hc1:(F5 (Value.int .i64 k)) = some (.int .i64 k):=by
  show (if IntKind.i64.min ≤ k ∧ k ≤ IntKind.i64.max then some (CP.int .i64 k) else none) = _
  rw [if_pos]
  have e1:IntKind.i64.min = -9223372036854775808:=rfl
  have e2:IntKind.i64.max = 9223372036854775807:=rfl
  rw [e1,e2]
  omega
 have hc2:(F5 (Value.int .i64 o)) = some (.int .i64 o):=by
  show (if IntKind.i64.min ≤ o ∧ o ≤ IntKind.i64.max then some (CP.int .i64 o) else none) = _
  rw [if_pos]
  have e1:IntKind.i64.min = -9223372036854775808:=rfl
  have e2:IntKind.i64.max = 9223372036854775807:=rfl
  rw [e1,e2]
  omega
 refine Oc (u3 f_b144 (cps:=[(0,[.int .i64 k]),(1,[.int .i64 o]),(2,[.raw (.func (.func f) #[E.ρ0 1] #[])])]) (qs:=[.int .i64 k,.int .i64 o,.raw (.func (.func f) #[E.ρ0 1] #[])]) (by
  simp [ez,St.ev,St.get,lk,hc1,hc2,SV.cells]) (by simp [ir,Sk.aM])) ?_
 rw [put_eq hc]
 refine Oc (Cp (zk Tryz.underlying9) Jk (l:=es) (j:=108) (k:=q.data.toList) (v:=Gh k o f (E.ρ0 1)) (by
  show lk ((c,_) :: del c ((b,_) :: del b ((a,_) :: (a,_) :: del a _))) 8 = _
  rw [Gc h8.2.2,Cs h8.2.2,Gc h8.2.1,Cs h8.2.1,Gc h8.1,Gc h8.1,Cs h8.1]
  rfl) rfl (by
  show (if q.data.toList.length ≤ maxLen then some (CP.str q.data.toList) else none).map _ = _
  rw [if_pos hl]
  rfl) (by
  show lk ((c,_) :: _) c = _
  simp [lk]
  rfl) hq) ?_
 refine aj.preR (fun ac w hr=>rN (fun p hp=>?_) (fun p hp=>?_) hr) h
 ·have hp1:p.1 ∈ [0,2,8]:=by
   have:=List.mem_map_of_mem (f:=(·.1)) hp
   exact this
  obtain ⟨g1,g2,g3⟩:=h0 _ hp1
  refine List.mem_cons_of_mem _ (cV (List.mem_cons_of_mem _ (cV (List.mem_cons_of_mem _ (List.mem_cons_of_mem _ (cV ?_ g1))) g2)) g3)
  exact hp
 ·exact hp
end
section
variable {mx:Int} {E:Env (aw mx)} {n:Sh} {Q:bE}
theorem denS {fr:Fr} {F:Nat} {c:Code} {an:An DD} {s s1:bD DD} {m:Option (bD DD)} {G:List (bJ DD pk)} (hn:n.n = fr.n) (hf:n.fix = fr.fx) (hG:EN Tryz.prog (aw mx) G) (h:gG (BB (mx:=mx)) LL G fr F c an ⟨[],[],[]⟩ s some (fun _ _=>none) (fun _ _=>none) = m) (hm:m = some s1) (hr:Fin E n .normal s1.st Q) (hh:mh an = true:=by rfl):ah Tryz.prog E n c s.st Q :=
 iw hn hf hG c an (bR c hh) ⟨[],[],[]⟩ s some _ _ s1 Q (h.trans hm) (fun s' _ e=>by cases e; exact hr) (fun t s' _ e=>by cases e) (fun p ow e=>by cases e)
theorem B3 {fr:Fr} {F:Nat} {c:Code} {an:An DD} {s:bD DD} {cs:Kept} {ks:List (Pl DD)} {m:Option (PT DD ks ⊕ Problem)} {r:PT DD ks ⊕ Problem} {G:List (bJ DD pk)} (hn:n.n = fr.n) (hf:n.fix = fr.fx) (hG:EN Tryz.prog (aw mx) G) (hk:okE ⟨[],[],[]⟩ cs s ks = true) (h:gG (BB (mx:=mx)) LL G fr F c an (cs.add ⟨[],[],[]⟩) s (fun s'=>(pjI LL (cs.add ⟨[],[],[]⟩) s' cs.r ks).bind fun z=>some (.inl z)) (fun _ _=>none) (fun p _=>some (.inr p)) = m) (hm:m = some r) (hr:∀ z,r = .inl z → Fin E n .normal (EP s cs ks z).st Q) (hP:∀ p,r = .inr p → yz E n pk p ⟨[],[],[]⟩ Q) (hh:mh an = true:=by rfl):ah Tryz.prog E n c s.st Q :=
 iw hn hf hG c an (bR c hh) (cs.add ⟨[],[],[]⟩) s _ _ _ r Q (h.trans hm) (fun s' he e=>by
  obtain ⟨z,hz,e1⟩:=aJ e
  cases e1
  exact fun a w hR=>hr z rfl a w (uT hz he hR)) (fun t s' _ e=>by cases e) (fun p ow e=>by cases e; exact (hP _ rfl).less Ge)
theorem Ho {fr:Fr} {os l:List Oper} {s:bD DD} {cs:Kept} {ks:List (Pl DD)} {m:Option (PT DD ks ⊕ Problem)} {r:PT DD ks ⊕ Problem} {G:List (bJ DD pk)} (hn:n.n = fr.n) (hf:n.fix = fr.fx) (hG:EN Tryz.prog (aw mx) G) (hk:okE ⟨[],[],[]⟩ cs s ks = true) (h:Go.Dn.ops (BB (mx:=mx)) LL G fr (cs.add ⟨[],[],[]⟩) os l s (fun s'=>(pjI LL (cs.add ⟨[],[],[]⟩) s' cs.r ks).bind fun z=>some (.inl z)) (fun p _=>some (.inr p)) = m) (hm:m = some r) (hr:∀ z,r = .inl z → Fin E n .normal (EP s cs ks z).st Q) (hP:∀ p,r = .inr p → yz E n pk p ⟨[],[],[]⟩ Q):aj Tryz.prog E n os.toArray l s.st Q :=
 wS hn hf hG (fun p ow e=>by cases e; exact (hP _ rfl).less Ge) (h.trans hm) fun s' he e=>by
  obtain ⟨z,hz,e1⟩:=aJ e
  cases e1
  exact fun a w hR=>hr z rfl a w (uT hz he hR)
def embQ (s:bD DD) (cs:Kept) (ps:List (Nat × Nat)) (ks:List (Pl DD)) (z:PT DD ks):bD DD:=⟨(ps.map fun p=>(p.1,.n (.p (.ptr p.2 0)))) ++ (EP s cs ks z).sl,(EP s cs ks z).own,[]⟩
theorem Fm {s s':bD DD} {cs:Kept} {ps:List (Nat × Nat)} {ks:List (Pl DD)} {z:PT DD ks} {a:Act} {w:World} (hP:qP s' ps = true) (hp:pj s' cs.r ks = some z) (he:Ext (cs.add ⟨[],[],[]⟩).s (cs.add ⟨[],[],[]⟩).o s s') (hr:R E n s'.st a w):R E n (embQ s cs ps ks z).st a w:=by
 have hc:=fun t ht=>he.sl t (List.mem_append_left _ ht)
 have ho:=fun t ht=>he.ow t (List.mem_append_left _ ht)
 obtain ⟨h1,h2,hh,ρ,hw,hs⟩:=hr
 unfold pj at hp
 split at hp
 ·next hR=>
  obtain ⟨h3,h4⟩:=zh hp
  refine ⟨h1,h2,hh,ρ,?_,fun k x hx=>?_⟩
  ·refine hw.sub fun p hp=>?_
   obtain ⟨q,hq,rfl⟩:=List.mem_map.1 hp
   obtain ⟨k,c⟩:=q
   refine List.mem_map.2 ⟨(k,c),?_,rfl⟩
   rcases List.mem_append.1 hq with e | e
   ·exact bh (h4 k c e)
   ·simp only [kpo,List.mem_filterMap] at e
    obtain ⟨k',hk,hq⟩:=e
    obtain ⟨c',hc',e⟩:=Option.map_eq_some_iff.1 hq
    cases e
    exact bh (ho _ hk _ hc')
  ·obtain ⟨y,hy,rfl⟩:=dO.1 hx
   rcases List.mem_append.1 hy with e | e
   ·obtain ⟨p,hpm,e2⟩:=List.mem_map.1 e
    cases e2
    have:=List.all_eq_true.1 hP p hpm
    refine qQ hs (x:=.p (.ptr p.2 0)) ?_
    split at this
    ·next j hj=>
     have:j = p.2:=by simpa using this
     subst this
     unfold vl
     rw [hj]
    ·cases this
   rcases List.mem_append.1 e with e | e
   ·obtain ⟨x,rfl,hv⟩:=h3 _ _ e
    exact qQ hs hv
   ·rcases List.mem_append.1 e with e | e
    ·obtain ⟨x,rfl,hv⟩:=GK hR e
     exact qQ hs hv
    ·obtain ⟨hk,x,rfl,hv⟩:=Jc e
     exact qQ hs (hc _ hk _ hv)
 ·cases hp
theorem Ij {fr:Fr} {os l:List Oper} {s:bD DD} {cs:Kept} {ps:List (Nat × Nat)} {ks:List (Pl DD)} {z:PT DD ks} {G:List (bJ DD pk)} (hn:n.n = fr.n) (hf:n.fix = fr.fx) (hG:EN Tryz.prog (aw mx) G) (h:Go.Dn.ops (BB (mx:=mx)) LL G fr (cs.add ⟨[],[],[]⟩) os l s (fun s'=>if qP s' ps = true then pj s' cs.r ks else none) (fun p _=>none) = some z) (hr:Fin E n .normal (embQ s cs ps ks z).st Q):aj Tryz.prog E n os.toArray l s.st Q :=
 wS hn hf hG (fun p ow e=>by cases e) h fun s' he e=>by
  split at e
  ·next hp=>exact fun a w hR=>hr a w (Fm hp e he hR)
  ·cases e
def ml:List (Str × (Int × Int × Nat)):=[([108,101,116],1,0,75),([115,101,116],2,0,75),([114,101,112,101,97,116],3,0,76),([105,102],4,0,77),([112,108,97,99,101],5,1,78),([114,101,109,111,118,101],5,2,78),([116,105,101],5,3,79),([99,117,116],5,4,79),([97,112,112,108,121],5,5,79),([102,114,101,101],5,6,79),([112,97,117,115,101],5,7,80),([114,117,110],5,8,81)]
def uS (u:Value):List (Str × BV):=ml.map fun q=>(q.1,Gh q.2.1 q.2.2.1 q.2.2.2 u)
def AU:Fr:=⟨82,[1],[]⟩
def s32 (b1:reader):bD DD:=⟨[(0,.n (.p (.ptr 1 0)))],[(1,.box 64 (.st .reader) b1)],[]⟩
def s32a (b1:reader):bD DD:=⟨[(2,.n (.p (.ptr 102 0))),(0,.n (.p (.ptr 1 0)))],[(1,.box 64 (.st .reader) b1),(102,.box 46 (.st .ay) mf)],[]⟩
def s32b (u:Value) (b1:reader):bD DD:=⟨[(0,.n (.p (.ptr 1 0))),(2,.n (.p (.ptr 102 0))),(3,.n (.p (.row 108)))],[(1,.box 64 (.st .reader) b1),(102,.box 46 (.st .ay) mf),(108,.raw (.mp (vm CP.str (uS u))))],[]⟩
def s32c (u:Value) (b1:reader) (t:Token):bD DD:=⟨[(4,.n (.p (.ptr 104 0))),(47,.n (.d (.st .Token) t)),(46,.n (.p (.ptr 1 0))),(0,.n (.p (.ptr 1 0))),(2,.n (.p (.ptr 102 0))),(3,.n (.p (.row 108)))],[(1,.box 64 (.st .reader) b1),(102,.box 46 (.st .ay) mf),(108,.raw (.mp (vm CP.str (uS u)))),(104,.box 67 (.st .Token) t)],[]⟩
def wZ (u:Value) (q:Option (Int × Int × Nat)):List CP:=match q with
 | none=>[.int .i64 0,.int .i64 0,.raw .nilFunc]
 | some q=>[.int .i64 q.1,.int .i64 q.2.1,.raw (.func (.func q.2.2) #[u] #[])]
theorem H2 (u:Value) (k:Str):(dU (uS u) k).getD z144 = .agg (wZ u (dU ml k)) ∧ (dU (uS u) k).isSome = (dU ml k).isSome:=by
 unfold uS
 rw [mQ (f:=fun (q:Int × Int × Nat)=>Gh q.1 q.2.1 q.2.2 u)]
 cases dU ml k with
 | none=>exact ⟨rfl,rfl⟩
 | some q=>exact ⟨rfl,rfl⟩
def s32d (fc:List CP) (ok:Bool) (b1:reader) (t:Token):bD DD:=⟨[(0,.n (.p (.ptr 1 0))),(2,.n (.p (.ptr 102 0))),(4,.n (.p (.ptr 104 0))),(5,.n (.p (.ptr 105 0))),(6,.n (.d .bool ok))],[(1,.box 64 (.st .reader) b1),(102,.box 46 (.st .ay) mf),(104,.box 67 (.st .Token) t),(105,.raw (.box 144 fc))],[]⟩
def Cj (F:Nat) (f:Nat) (b:reader) (x:ay):Option ((reader × ay) ⊕ Problem):=if f = 75 then jS F b x else if f = 78 then iT F b x else if f = 80 then ib F b x else if f = 81 then jR F b x else none
def p6 (q:Int × Int × Nat) (t:Token):ay:={ mf with Kind:=q.1,Op:=q.2.1,At:=t.At }
def fK (F:Nat) (b1:reader):Option ((ay × reader) ⊕ Problem) :=
 Option.bind (aN F b1) fun t=>match dU ml t.S with
  | none=>Option.bind (aO F 280 b1) (bB (fun p=>some (.inr p)) fun _=>none)
  | some q=>if t.Kind = 1 then Option.bind (Cj F q.2.2 { b1 with pos:=IntKind.i64.wrap (b1.pos + 1) } (p6 q t)) (bB (fun p=>some (.inr p)) fun y=>some (.inl (y.2,y.1)))
   else Option.bind (aO F 280 b1) (bB (fun p=>some (.inr p)) fun _=>none)
def s32e (q:Int × Int × Nat) (u:Value) (b2:reader) (t:Token):bD DD:=⟨[(0,.n (.p (.ptr 1 0))),(2,.n (.p (.ptr 102 0))),(4,.n (.p (.ptr 104 0))),(5,.n (.p (.ptr 105 0)))],[(1,.box 64 (.st .reader) b2),(102,.box 46 (.st .ay) mf),(104,.box 67 (.st .Token) t),(105,.raw (.box 144 (wZ u (some q))))],[]⟩
def s32f (q:Int × Int × Nat) (u:Value) (b2:reader) (t:Token):bD DD:=⟨[(72,.n (.d (.int .i64) q.1)),(74,.n (.d (.int .i64) q.2.1)),(0,.n (.p (.ptr 1 0))),(2,.n (.p (.ptr 102 0))),(4,.n (.p (.ptr 104 0))),(5,.n (.p (.ptr 105 0)))],[(1,.box 64 (.st .reader) b2),(102,.box 46 (.st .ay) mf),(104,.box 67 (.st .Token) t),(105,.raw (.box 144 (wZ u (some q))))],[]⟩
def s32g (q:Int × Int × Nat) (u:Value) (b2:reader) (t:Token):bD DD:=⟨[(0,.n (.p (.ptr 1 0))),(2,.n (.p (.ptr 102 0))),(5,.n (.p (.ptr 105 0))),(7,.n (.p (.ptr 107 0)))],[(1,.box 64 (.st .reader) b2),(102,.box 46 (.st .ay) mf),(105,.raw (.box 144 (wZ u (some q)))),(107,.box 46 (.st .ay) (p6 q t))],[]⟩
def s32h (f:Nat) (b2:reader) (x:ay):bD DD:=⟨[(79,.n (.p (.cC f [.ptr 1 0] []))),(0,.n (.p (.ptr 1 0))),(2,.n (.p (.ptr 102 0))),(7,.n (.p (.ptr 107 0)))],[(1,.box 64 (.st .reader) b2),(102,.box 46 (.st .ay) mf),(107,.box 46 (.st .ay) x)],[]⟩
def ER:Nat → Code → Code
 | 0,c=>c
 | n + 1,.seq _ b=>ER n b
 | _,c=>c
theorem DF {F:Nat} {b1:reader} {r:(ay × reader) ⊕ Problem} {Q:bE} (h:fK F b1 = some r) (hR:∀ x b,r = .inl (x,b) → Fin E ⟨82,[1],[1],[]⟩ .ret ⟨[(2,.b (.ptr 102 0))],[(1,.box 64 (q7 b)),(102,.box 46 (nF x))]⟩ Q) (hP:∀ p,r = .inr p → yz E ⟨82,[1],[1],[]⟩ pk p ⟨[],[],[]⟩ Q):ah Tryz.prog E ⟨82,[1],[1],[]⟩ ((Tryz.f32.body).getD .skip) (s32 b1).st Q:=by
 obtain ⟨t,ht,h1⟩:=aJ h
 have hfail:aO F 280 b1 = some (.inr ⟨t.At,280⟩):=by unfold aO; rw [ht]; rfl
 refine ah.seq (denS (fr:=AU) (F:=F) (G:=[]) (an:=.no) (s1:=s32a b1) rfl rfl trivial (m:=some (s32a b1)) (by kernel_rfl) rfl (Fin.then ?_))
 refine ah.seq (ah.ab ?_)
 refine Oc (uY (k:=108) Tryz.underlying145 rfl rfl) ?_
 refine aj.aD (S1 (E.ρ0 1) b1 mf []) rfl ?_
 refine hN List.mem_cons_self (by decide) (by decide) (by decide) (by decide) (by decide) rfl (by decide) ?_
 refine hN List.mem_cons_self (by decide) (by decide) (by decide) (by decide) (by decide) rfl (by decide) ?_
 refine hN List.mem_cons_self (by decide) (by decide) (by decide) (by decide) (by decide) rfl (by decide) ?_
 refine hN List.mem_cons_self (by decide) (by decide) (by decide) (by decide) (by decide) rfl (by decide) ?_
 refine hN List.mem_cons_self (by decide) (by decide) (by decide) (by decide) (by decide) rfl (by decide) ?_
 refine hN List.mem_cons_self (by decide) (by decide) (by decide) (by decide) (by decide) rfl (by decide) ?_
 refine hN List.mem_cons_self (by decide) (by decide) (by decide) (by decide) (by decide) rfl (by decide) ?_
 refine hN List.mem_cons_self (by decide) (by decide) (by decide) (by decide) (by decide) rfl (by decide) ?_
 refine hN List.mem_cons_self (by decide) (by decide) (by decide) (by decide) (by decide) rfl (by decide) ?_
 refine hN List.mem_cons_self (by decide) (by decide) (by decide) (by decide) (by decide) rfl (by decide) ?_
 refine hN List.mem_cons_self (by decide) (by decide) (by decide) (by decide) (by decide) rfl (by decide) ?_
 refine hN List.mem_cons_self (by decide) (by decide) (by decide) (by decide) (by decide) rfl (by decide) ?_
 refine Oc om (Oc oa (aj.aS (s32b (E.ρ0 1) b1).st rfl ?_))
 refine ah.seq (denS (fr:=AU) (F:=F) (G:=[aT F]) (an:=.no) (s1:=s32c (E.ρ0 1) b1 t) rfl rfl ⟨bf F,trivial⟩ (m:=(aN F b1).bind fun t=>some (s32c (E.ρ0 1) b1 t)) (by kernel_rfl) (by rw [ht]; rfl) (Fin.then ?_))
 obtain ⟨hg1,hg2⟩:=H2 (E.ρ0 1) t.S
 refine ah.seq (ah.ab ?_)
 refine Oc om (Oc (ax (ft:=9) ⟨⟨_,_,Tryz.t9,Tryz.underlying67,rfl,rfl,rfl,by kernel_rfl,by decide⟩⟩ rfl rfl) (Oc (aI (p:=.str t.S) ⟨⟨_,Tryz.underlying9,rfl⟩,⟨Tryz.t9,by kernel_rfl,by kernel_rfl⟩⟩ rfl rfl rfl) (Oc (zK (zk Tryz.underlying9) Jk (l:=uS (E.ρ0 1)) (k:=t.S) (j:=108) rfl rfl rfl hg1) ?_)))
 refine Oc om (Oc (cH (i:=0) rfl rfl) (Oc (cH (i:=1) rfl rfl) (Oc (cy (k:=105) (zs:=[.int .i64 0,.int .i64 0,.raw .nilFunc]) ⟨Tryz.t144,_,by kernel_rfl,rfl,rfl⟩ rfl rfl) ?_)))
 refine Oc (aW (ps':=wZ (E.ρ0 1) (dU ml t.S)) (m:=3) ⟨⟨_,Tryz.underlying144,rfl⟩,⟨Tryz.t144,by kernel_rfl,by kernel_rfl⟩⟩ rfl rfl rfl ?_ (by decide) ?_) (Oc oa (aj.aS (s32d (wZ (E.ρ0 1) (dU ml t.S)) (dU (uS (E.ρ0 1)) t.S).isSome b1 t).st rfl ?_))
 ·cases dU ml t.S <;> rfl
 ·cases dU ml t.S <;> rfl
 rw [hg2]
 have h2:∃ r1:Unit ⊕ Problem,(if ((!(dU ml t.S).isSome) || decide (t.Kind ≠ (1:Int))) = true then Option.bind (aO F 280 b1) (bB (fun p=>some (.inr p)) fun _=>some (.inl ())) else some (.inl ())) = some r1 ∧ (∀ p,r1 = .inr p → r = .inr p) ∧ (∀ z,r1 = .inl z → ∃ q,dU ml t.S = some q ∧ Option.bind (Cj F q.2.2 { b1 with pos:=IntKind.i64.wrap (b1.pos + 1) } (p6 q t)) (bB (fun p=>some (.inr p)) fun y=>some (.inl (y.2,y.1))) = some r):=by
  rw [hfail] at h1 ⊢
  cases hq:dU ml t.S with
  | none=>
   rw [hq] at h1
   cases h1
   exact ⟨.inr ⟨t.At,280⟩,rfl,fun p hp=>(by cases hp; rfl),fun z hz=>(by cases hz)⟩
  | some q=>
   rw [hq] at h1
   by_cases hk:t.Kind = 1
   ·simp only [hk,if_true] at h1
    exact ⟨.inl (),by simp [hk],fun p hp=>(by cases hp),fun z _=>⟨q,rfl,h1⟩⟩
   ·simp only [if_neg hk] at h1
    cases h1
    exact ⟨.inr ⟨t.At,280⟩,by simp [hk,bB],fun p hp=>(by cases hp; rfl),fun z hz=>(by cases hz)⟩
 obtain ⟨r1,h3,h4,h5⟩:=h2
 refine ah.seq (B3 (fr:=AU) (F:=F) (G:=[bH F]) (an:=.no) (cs:=⟨[0,2,4,5],[1,102,104,105],[]⟩) (ks:=[]) rfl rfl ⟨bS F,trivial⟩ rfl (m:=(if ((!(dU ml t.S).isSome) || decide (t.Kind ≠ (1:Int))) = true then Option.bind (aO F 280 b1) (bB (fun p=>some (.inr p)) fun _=>some (.inl ())) else some (.inl ()))) (by kernel_rfl) h3 (fun z hz=>Fin.then ?_) (fun p hp=>kM (hP p (h4 p hp))))
 obtain ⟨q,hq,h6⟩:=h5 z hz
 rw [hq]
 refine ah.seq (B3 (fr:=AU) (F:=F) (G:=[]) (an:=.no) (cs:=⟨[0,2,4,5],[102,104,105],[]⟩) (ks:=[.b 1 64 (.st .reader)]) rfl rfl trivial rfl (r:=.inl ({ b1 with pos:=IntKind.i64.wrap (b1.pos + 1) }:reader)) (m:=some (.inl ({ b1 with pos:=IntKind.i64.wrap (b1.pos + 1) }:reader))) (by kernel_rfl) rfl (fun z hz=>Fin.then ?_) (fun p hp=>by cases hp))
 cases hz
 generalize hb2:({ b1 with pos:=IntKind.i64.wrap (b1.pos + 1) }:reader) = b2 at h6 ⊢
 refine ah.aD (s32e q (E.ρ0 1) b2 t).st rfl ?_
 have f0:eC Tryz.prog 144 0 0 3:=⟨⟨_,_,Tryz.t3,Tryz.underlying144,rfl,rfl,rfl,by kernel_rfl,by decide⟩⟩
 have f1:eC Tryz.prog 144 1 1 3:=⟨⟨_,_,Tryz.t3,Tryz.underlying144,rfl,rfl,rfl,by kernel_rfl,by decide⟩⟩
 have f2:eC Tryz.prog 144 2 2 142:=⟨⟨_,_,Tryz.t142,Tryz.underlying144,rfl,rfl,rfl,by kernel_rfl,by decide⟩⟩
 have o3:cS Tryz.prog 3:=⟨⟨_,Tryz.underlying3,rfl⟩,⟨Tryz.t3,by kernel_rfl,by kernel_rfl⟩⟩
 have o142:cS Tryz.prog 142:=⟨⟨_,Tryz.underlying142,rfl⟩,⟨Tryz.t142,by kernel_rfl,by kernel_rfl⟩⟩
 refine ah.seq (ah.ab ?_)
 refine Oc (ax f0 rfl rfl) (Oc (aI (p:=.int .i64 q.1) o3 rfl rfl rfl) (Oc (ax f1 rfl rfl) (Oc (aI (p:=.int .i64 q.2.1) o3 rfl rfl rfl) ?_)))
 refine aj.aD (s32f q (E.ρ0 1) b2 t).st rfl ?_
 refine Ij (fr:=AU) (cs:=⟨[0,2,5],[1,102,105],[]⟩) (ps:=[(7,107)]) (ks:=[.b 107 46 (.st .ay)]) (z:=p6 q t) rfl rfl (G:=[]) trivial (by kernel_rfl) (Fin.then ?_)
 refine ah.aD (s32g q (E.ρ0 1) b2 t).st rfl ?_
 refine ah.seq (ah.ab ?_)
 refine Oc (ax f2 rfl rfl) (Oc (aI (p:=.raw (.func (.func q.2.2) #[E.ρ0 1] #[])) o142 rfl rfl rfl) ?_)
 refine aj.preR (fun ac w hr=>ofRaw (a:=79) (k:=1) (f:=q.2.2) List.mem_cons_self rfl rfl hr) ?_
 refine aj.aD (s32h q.2.2 b2 (p6 q t)).st rfl ?_
 obtain ⟨v,hv,h7⟩:=aJ h6
 have hPv:∀ p,v = .inr p → yz E ⟨82,[1],[1],[]⟩ pk p ⟨[],[],[]⟩ Q:=fun p e=>by subst e; cases h7; exact hP p rfl
 have key:∀ f z,v = .inl z → ah Tryz.prog E ⟨82,[1],[1],[]⟩ (ER 8 ((Tryz.f32.body).getD .skip)) (EP (s32h f b2 (p6 q t)) ⟨[0,2,7],[102],[]⟩ [.b 1 64 (.st .reader),.b 107 46 (.st .ay)] z).st Q:=fun f z e=>by
  subst e
  cases h7
  refine ah.seq (B3 (fr:=AU) (F:=F) (G:=[]) (an:=.no) (cs:=⟨[2],[1],[]⟩) (ks:=[.b 102 46 (.st .ay)]) rfl rfl trivial rfl (r:=.inl z.2) (m:=some (.inl z.2)) (by kernel_rfl) rfl (fun x hx=>Fin.then ?_) (fun p hp=>by cases hp))
  cases hx
  exact ah.ret (Fin.aD _ rfl (hR z.2 z.1 rfl))
 unfold Cj at hv
 split at hv
 ·next e=>
  rw [e]
  exact Ho (fr:=AU) (cs:=⟨[0,2,7],[102],[]⟩) (ks:=[.b 1 64 (.st .reader),.b 107 46 (.st .ay)]) (G:=[(n6 F).sw 2 107]) (r:=v) (m:=Option.bind (jS F b2 (p6 q t)) (bB (fun p=>some (.inr p)) fun x=>some (.inl x))) rfl rfl ⟨(tX F).sw 2 107,trivial⟩ rfl (by kernel_rfl) (by rw [hv]; cases v <;> rfl) (fun z e=>Fin.then (key 75 z e)) (fun p e=>kM (hPv p e))
 split at hv
 ·next e=>
  rw [e]
  exact Ho (fr:=AU) (cs:=⟨[0,2,7],[102],[]⟩) (ks:=[.b 1 64 (.st .reader),.b 107 46 (.st .ay)]) (G:=[(nt F).sw 2 107]) (r:=v) (m:=Option.bind (iT F b2 (p6 q t)) (bB (fun p=>some (.inr p)) fun x=>some (.inl x))) rfl rfl ⟨(th F).sw 2 107,trivial⟩ rfl (by kernel_rfl) (by rw [hv]; cases v <;> rfl) (fun z e=>Fin.then (key 78 z e)) (fun p e=>kM (hPv p e))
 split at hv
 ·next e=>
  rw [e]
  exact Ho (fr:=AU) (cs:=⟨[0,2,7],[102],[]⟩) (ks:=[.b 1 64 (.st .reader),.b 107 46 (.st .ay)]) (G:=[(lZ F).sw 2 107]) (r:=v) (m:=Option.bind (ib F b2 (p6 q t)) (bB (fun p=>some (.inr p)) fun x=>some (.inl x))) rfl rfl ⟨(sn F).sw 2 107,trivial⟩ rfl (by kernel_rfl) (by rw [hv]; cases v <;> rfl) (fun z e=>Fin.then (key 80 z e)) (fun p e=>kM (hPv p e))
 split at hv
 ·next e=>
  rw [e]
  exact Ho (fr:=AU) (cs:=⟨[0,2,7],[102],[]⟩) (ks:=[.b 1 64 (.st .reader),.b 107 46 (.st .ay)]) (G:=[(n5 F).sw 2 107]) (r:=v) (m:=Option.bind (jR F b2 (p6 q t)) (bB (fun p=>some (.inr p)) fun x=>some (.inl x))) rfl rfl ⟨(tW F).sw 2 107,trivial⟩ rfl (by kernel_rfl) (by rw [hv]; cases v <;> rfl) (fun z e=>Fin.then (key 81 z e)) (fun p e=>kM (hPv p e))
 ·cases hv
def iZ (F:Nat):bJ DD pk:=⟨32,[.k],[.p (.ptr 1 0)],[1],[.b 64 (.st .reader)],[.st .ay],false,true,false,false,fun a l=>fK F l.1⟩
theorem tg (F:Nat):av Tryz.prog (aw mx) (iZ F):=by
 refine ⟨⟨Tryz.call32⟩,⟨(by decide:[1].Nodup),rfl⟩,fun a l r hr=>?_⟩
 obtain ⟨b1,u⟩:=l
 have hr:fK F b1 = some r:=hr
 cases r with
 | inl y=>
  refine aG.intro 82 Tryz.func32 Tryz.ntmps32 rfl (show [BV.ptr 1 0].length ≤ 82 by decide) fun E=>?_
  refine DF (E:=E) hr (fun x b e=>?_) (fun p e=>by cases e)
  cases e
  have hl:(nF x).length = DD.n .ay:=DD.len .ay x
  exact Fin.kq [(1,.box 64 (q7 b))] [.agg (nF x)] (.inl rfl) rfl (.cons (.agg (m:=DD.n .ay) ((BB (mx:=mx)).tok 46 (.st .ay) rfl) rfl rfl (by rw [List.drop_zero,← hl,List.take_length]) hl) .nil) (fun p hp=>List.mem_cons.2 (.inl (List.mem_singleton.1 hp))) ⟨rfl,rfl⟩
 | inr p=>
  show gI _ _ _ _ _ _ _
  refine eE.intro 82 Tryz.func32 Tryz.ntmps32 rfl (show [BV.ptr 1 0].length ≤ 82 by decide) fun E=>?_
  refine DF (E:=E) hr (fun x b e=>by cases e) (fun p' e=>?_)
  cases e
  exact fun hok=>Fin.p8 ⟨rfl,hok⟩
end
end Go.Dn
namespace Go.Dn
open Go Go.Sk
open X
set_option linter.unusedVariables false
def mW (F:Nat) (sign:Str) (b1:reader):Option (((List aV) × reader) ⊕ Problem):=Option.bind (iter F (fun (x2:reader × (List aV))=>(Option.bind (az F sign x2.1) fun x3=>(if (!x3.1) = true then Option.bind (mZ F x3.2) (bB (fun p=>some (.inr (.inr p))) fun x5=>Option.bind (bV x2.2 ([x5.1]:List aV)) fun x7=>some (.inl (x5.2,x7))) else some (.inr (.inl (x3.2,x2.2)))):Option ((reader × (List aV)) ⊕ ((reader × (List aV)) ⊕ Problem)))) (b1,([]:List aV))) (dX (fun x8=>some (.inl (x8.2,x8.1))) (fun x9=>some (.inr x9)))
def h28 (F:Nat) (z:reader × Source × List ay):Option ((reader × Source × List ay) ⊕ Problem):=Option.bind (fK F z.1) (bB (fun p=>some (.inr p)) fun x8=>Option.bind (bV z.2.2 ([mf]:List ay)) fun x9=>Option.bind (aH x9 (z.2.2.length:Int)) fun _=>Option.bind (aH x9 (z.2.2.length:Int)) fun _=>some (.inl (x8.2,z.2.1,x9.set ((z.2.2.length:Int)).toNat x8.1)))
def jD (F:Nat) (b1:reader) (b2:Source) (b3:List ay):Option ((reader × Source × (List ay)) ⊕ Problem):=Option.bind (aE F ([([121,97,114,100]:Str),([123]:Str)]:List Str) b1) (bB (fun p=>some (.inr p)) fun x2=>Option.bind (mW F ([125]:Str) x2) (bB (fun p=>some (.inr p)) fun x3=>Option.bind (iter F (fun (x4:reader × Source × (List ay))=>((if (decide (x4.1.pos < (x4.1.l.length:Int))) = true then Option.bind (h28 F (x4.1,x4.2.1,x4.2.2)) (bB (fun p=>some (.inr (.inr p))) fun x7=>some (.inl (x7.1,x7.2.1,x7.2.2))) else some (.inr (.inl (x4.1,x4.2.1,x4.2.2)))):Option ((reader × Source × (List ay)) ⊕ ((reader × Source × (List ay)) ⊕ Problem)))) (x3.2,(⟨x3.1,b2.Code⟩:Source),b3)) (dX (fun x8=>some (.inl (x8.1,x8.2.1,x8.2.2))) (fun x9=>some (.inr x9)))))
end Go.Dn
namespace Go.Dn
open Go Go.Sk Go.Proofs
open X
set_option linter.unusedVariables false
set_option maxRecDepth 100000
variable {mx:Int}
def iY (F:Nat):bJ DD pk:=⟨30,[.k,.d (.str),.k],[.p (.ptr 1 0),.p (.cC 31 [.ptr 1 0] [])],[1],[.b 64 (.st .reader)],[.sl (.st .aV)],false,true,false,false,fun a l=>mW F a.1 l.1⟩
theorem td (F:Nat):av Tryz.prog (aw mx) (iY F):=ak (B0:=BB) (L:=LL) (G:=[aU F,fS F]) 18 ⟨Tryz.call30⟩ Tryz.func30 Tryz.ntmps30 rfl (Nat.le_of_ble_eq_true rfl) rfl ⟨bg F,ti F,trivial⟩ (.two (.no) (.two (.no) (.two (.loop ⟨[0,1,2],[],[(7,107)]⟩ [.b 1 64 (.st .reader),.r 107 53 (.st .aV)] [(.x (some 0),[.b 1 64 (.st .reader),.r 107 53 (.st .aV)]),(.hC,[])] (.no)) (.no)))) [7] F fun a l=>by kernel_rfl
def jE (F:Nat):bJ DD pk:=⟨28,[.k,.k],[.p (.ptr 1 0),.p (.ptr 2 0)],[1,2,3],[.b 64 (.st .reader),.x 49 .Source,.r 46 (.st .ay)],[],false,true,false,false,fun a l=>jD F l.1 l.2.1 l.2.2.1⟩
theorem h28_lin (F:Nat):Gq (BB (mx:=mx)) LL [br F,iY F,iZ F] ⟨30,Ic (jE F).ks (jE F).ls,[]⟩ (regOf 3 Tryz.f28) [(0,1),(1,2)] [(0,1),(1,2)] [.b 1 64 (.st .reader),.x 2 49 .Source 3,.r 3 46 (.st .ay)] [.b 1 64 (.st .reader),.x 2 49 .Source 3,.r 3 46 (.st .ay)] .Problem (h28 F):=GV (pk:=pk) [[],[0],[],[2],[1],[],[1,5,3,0,1,2,3,4,5],[6,4,0,1,2,3,4,5,6],[7,3,6,0,1,2,3,4,5,6],[0,1,2,3,4,5,6],[9,6,6,0,1,2,3,4,5,6]] (by kernel_rfl) (fun _=>h28 F) (fun _ _=>rfl) (fun z0=>by kernel_rfl)
theorem xG (F:Nat):av Tryz.prog (aw mx) (jE F):=CE (B0:=BB (mx:=mx)) (L:=LL) (G:=[br F,iY F,iZ F]) 30 ⟨Tryz.call28⟩ Tryz.func28 Tryz.ntmps28 rfl (Nat.le_of_ble_eq_true rfl) rfl ⟨bO F,td F,tg F,trivial⟩ (.two (.no) (.two (.no) (.loop ⟨[0,1],[],[]⟩ [.b 1 64 (.st .reader),.x 2 49 .Source 3,.r 3 46 (.st .ay)] [(.x (some 0),[.b 1 64 (.st .reader),.x 2 49 .Source 3,.r 3 46 (.st .ay)]),(.hC,[])] (.two (.two (.hX [⟨0,[0],[]⟩,⟨1,[11],[]⟩,⟨2,[12],[]⟩,⟨3,[13],[1]⟩,⟨4,[0],[]⟩,⟨5,[15],[]⟩,⟨6,[16],[]⟩,⟨7,[17],[1]⟩,⟨8,[18],[]⟩] [9] []) (.no)) (.lin [(0,1),(1,2)] [(0,1),(1,2)] [.b 1 64 (.st .reader),.x 2 49 .Source 3,.r 3 46 (.st .ay)] [.b 1 64 (.st .reader),.x 2 49 .Source 3,.r 3 46 (.st .ay)] .Problem (h28 F)))))) [] F (fun a l=>by kernel_rfl) ⟨(bR _ rfl),⟨(bR _ rfl),⟨(bR _ rfl),(h28_lin (mx:=mx) F)⟩⟩⟩
end Go.Dn
namespace Go.Dn
open Go Go.Sk Go.Proofs X
set_option linter.unusedVariables false
set_option maxRecDepth 100000
section
variable {P:Program} {TB:aF} {E:Env TB} {n:Sh} {s:St} {dst:Option Nat} {t ty yt:TypeId} {pos:String} {after:Array Edge} {g:Option (Nat × Bool)} {x y:Operand}
theorem AD {T st:TypeId} {ps:List CP} {d:TypeDesc} (hu:P.underlying T = some d) (hd:(match d with | .interface _=>false | _=>true) = true) (hx:s.ev x = some (.b (.one (.yv T ps)))):aQ P E n ⟨dst,.typeAssert x st T true,ty,pos,after,g⟩ s (s.put n dst (.kU [.agg ps,.one (.bool true)])) :=
 aQ.val (o:=⟨dst,.typeAssert x st T true,ty,pos,after,g⟩) fun ac w h ρ hw hs=>by
  obtain ⟨cs,e,hc⟩:=(aC hs hx:(CP.yv _ _).rel h _)
  refine ⟨.tuple #[.agg cs,.bool true],?_,_,rfl,.cons ⟨cs,rfl,hc⟩ (.cons rfl .nil)⟩
  simp only [execOp,e]
  unfold Instr.typeAssert
  rw [Sem.run_bind,Sem.run_bind,run_underlying hu]
  cases d <;> simp at hd <;> simp [Result.andThen]
theorem AB {T st:TypeId} {zs:List CP} {d:TypeDesc} {i:TypeInfo} {z:Value} (hu:P.underlying T = some d) (hd:(match d with | .interface _=>false | _=>true) = true) (hi:P.info? T = some i) (hz:i.zero = some z) (hzs:∀ h ρ,(BV.agg zs).rel h ρ z) (hx:s.ev x = some (.b (.one (.raw .nilIface)))):aQ P E n ⟨dst,.typeAssert x st T true,ty,pos,after,g⟩ s (s.put n dst (.kU [.agg zs,.one (.bool false)])) :=
 aQ.val (o:=⟨dst,.typeAssert x st T true,ty,pos,after,g⟩) fun ac w h ρ hw hs=>by
  have hv:ac.eval x = .nilIface:=(aC hs hx:(CP.raw _).rel h _).1
  refine ⟨.tuple #[z,.bool false],?_,_,rfl,.cons (hzs h ρ) (.cons rfl .nil)⟩
  simp only [execOp,hv]
  unfold Instr.typeAssert
  rw [Sem.run_bind,Sem.run_bind,run_underlying hu]
  have:=DG (P:=P) (w:=w) hi hz
  cases d <;> simp at hd <;> simp [Result.andThen,this]
theorem En {ms:Array (String × TypeId)} (hi:P.underlying t = some (.interface ms)) (hx:s.ev x = some (.b (.one (.raw .nilIface)))):aQ P E n ⟨dst,.binOp .neq t x (.const .nilIface) yt,ty,pos,after,g⟩ s (s.put n dst (B false)) :=
 aQ.val (o:=⟨dst,.binOp .neq t x (.const .nilIface) yt,ty,pos,after,g⟩) fun ac w h ρ hw hs=>by
  have hv:ac.eval x = .nilIface:=(aC hs hx:(CP.raw _).rel h _).1
  refine ⟨.bool false,?_,rfl⟩
  have h1:∀ d:Nat,(Op.equalIn (d + 1) t .nilIface .nilIface).run P w = .ok true w:=fun d=>by simp [Op.equalIn,run_underlying hi]
  have h2:(Op.equal t .nilIface .nilIface).run P w = .ok true w:=h1 _
  simp only [execOp,hv,show ac.eval (.const .nilIface) = .nilIface from rfl,eqGuard_nil_constR]
  simp [binOp,h2,Result.andThen]
end
section
variable {mx:Int}
def qv (rest found:Problem):Problem:=if (decide (rest.E = 0) || decide (found.At < rest.At)) = true then found else rest
def kK (rest pr:Problem):List (Nat × OC):=[(107,.box 33 (aR rest)),(104,.box 33 (aR pr))]
def Dh:Fr:=⟨31,[107,104],[]⟩
def s16 (b is:Bool) (rest pr found:Problem):bD DD:=⟨[(12,.n (.d .bool b)),(0,.n (.p (.ptr 107 0))),(1,.n (.p (.ptr 104 0))),(3,.n (.p (.ptr 103 0))),(4,.n (.d .bool is))],[(107,.box 33 (.st .Problem) rest),(104,.box 33 (.st .Problem) pr),(103,.box 33 (.st .Problem) found)],[]⟩
def s16c (is:Bool) (rest pr found:Problem):bD DD:=⟨[(0,.n (.p (.ptr 107 0))),(1,.n (.p (.ptr 104 0))),(3,.n (.p (.ptr 103 0))),(4,.n (.d .bool is))],[(107,.box 33 (.st .Problem) rest),(104,.box 33 (.st .Problem) pr),(103,.box 33 (.st .Problem) found)],[]⟩
def s16e (is:Bool) (rest pr found:Problem):bD DD:=⟨[(18,.n (.d .bool is)),(0,.n (.p (.ptr 107 0))),(1,.n (.p (.ptr 104 0))),(3,.n (.p (.ptr 103 0)))],[(107,.box 33 (.st .Problem) rest),(104,.box 33 (.st .Problem) pr),(103,.box 33 (.st .Problem) found)],[]⟩
theorem a33:gf Tryz.prog 33 2:=⟨⟨_,Tryz.underlying33,rfl⟩,⟨Tryz.t33,by kernel_rfl,by kernel_rfl⟩⟩
theorem z33:qX Tryz.prog 33 [.int .i64 0,.int .i64 0]:=⟨Tryz.t33,_,by kernel_rfl,rfl,rfl⟩
theorem Ad {rest pr found:Problem} (hok:pk.ok found):q8 Tryz.prog (aw mx) 16 (kK rest pr) [.ptr 107 0,.ptr 104 0] (pk.pv found) (kK rest (qv rest found)):=by
 refine q8.intro (z:=.one (.yv 33 (aR found))) 31 Tryz.func16 Tryz.ntmps16 rfl (by decide) (by decide) (by decide) (fun h ρ=>⟨_,rfl,.cons ⟨rfl,hok.1⟩ (.cons ⟨rfl,hok.2⟩ .nil)⟩) fun E=>?_
 show ah _ E ⟨31,[107,104],[107,104],[]⟩ _ ⟨[(2,.b (.one (.yv 33 (aR found)))),(0,.b (.ptr 107 0)),(1,.b (.ptr 104 0))],kK rest pr⟩ _
 refine ah.seq (ah.ab ?_)
 refine Oc om (Oc (AD Tryz.underlying33 rfl rfl) (Oc om (Oc (cH (i:=0) rfl rfl) (Oc (cH (i:=1) rfl rfl) (Oc (cy (k:=103) z33 rfl rfl) (Oc (aW (ps':=aR found) a33 rfl rfl rfl rfl (by decide) rfl) (Oc oa ?_)))))))
 refine aj.aS ⟨[(0,.b (.ptr 107 0)),(1,.b (.ptr 104 0)),(2,.b (.one (.yv 33 (aR found)))),(3,.b (.ptr 103 0)),(4,B true)],[(107,.box 33 (aR rest)),(104,.box 33 (aR pr)),(103,.box 33 (aR found))]⟩ rfl ?_
 refine ah.seq (ah.seq (ah.ab ?_))
 refine Oc om (Oc (Ah Tryz.underlying20 rfl) (aj.aD (s16 true true rest pr found).st rfl ?_))
 refine Ho (fr:=Dh) (cs:=⟨[0,1,3,4],[107,104,103],[]⟩) (ks:=[.s 16 .bool]) (G:=[]) (r:=.inl false) (m:=some (.inl false)) rfl rfl trivial rfl (by kernel_rfl) rfl (fun z hz=>Fin.then ?_) (fun p hp=>by cases hp)
 cases hz
 refine B3 (fr:=Dh) (F:=0) (G:=[]) (an:=.no) (cs:=⟨[0,1,3,4],[107,104,103],[]⟩) (ks:=[]) (r:=.inl ()) (m:=some (.inl ())) rfl rfl trivial rfl (by kernel_rfl) rfl (fun z hz=>Fin.then ?_) (fun p hp=>by cases hp)
 refine ah.aD (s16c true rest pr found).st rfl ?_
 have hc:(if (decide (rest.E = 0) || decide (found.At < rest.At)) = true then some (.inl found) else some (.inl rest):Option (PT DD [.b 104 33 (.st .Problem)] ⊕ Problem)) = some (.inl (qv rest found)):=by unfold qv; split <;> rfl
 refine ah.seq (B3 (fr:=Dh) (F:=0) (G:=[]) (an:=.no) (cs:=⟨[0,1,3],[107,104,103],[]⟩) (ks:=[.s 18 .bool]) (r:=.inl true) (m:=some (.inl true)) rfl rfl trivial rfl (by kernel_rfl) rfl (fun z hz=>Fin.then ?_) (fun p hp=>by cases hp))
 cases hz
 refine ah.aD (s16e true rest pr found).st rfl ?_
 refine B3 (fr:=Dh) (F:=0) (G:=[]) (an:=.no) (cs:=⟨[0,1],[107],[]⟩) (ks:=[.b 104 33 (.st .Problem)]) (r:=.inl (qv rest found)) rfl rfl trivial rfl (by kernel_rfl) hc (fun z hz=>?_) (fun p hp=>by cases hp)
 cases hz
 exact Fin.kq (kK rest (qv rest found)) [] (.inr rfl) rfl .nil (fun p hp=>by
  simp only [kK,List.mem_cons,List.not_mem_nil,or_false] at hp
  rcases hp with rfl | rfl
  ·exact List.mem_cons_of_mem _ List.mem_cons_self
  ·exact List.mem_cons_self) ⟨rfl,rfl⟩
theorem By {rest pr:Problem}:zy Tryz.prog (aw mx) 16 (kK rest pr) [.ptr 107 0,.ptr 104 0] (kK rest pr):=by
 refine zy.intro 31 Tryz.func16 Tryz.ntmps16 rfl (by decide) (by decide) (by decide) fun E=>?_
 show ah _ E ⟨31,[107,104],[107,104],[]⟩ _ ⟨[(2,.b (.one (.raw .nilIface))),(0,.b (.ptr 107 0)),(1,.b (.ptr 104 0))],kK rest pr⟩ _
 refine ah.seq (ah.ab ?_)
 refine Oc om (Oc (AB (i:=Tryz.t33) Tryz.underlying33 rfl (by kernel_rfl) rfl (fun h ρ=>⟨_,rfl,.cons aa (.cons aa .nil)⟩) rfl) (Oc om (Oc (cH (i:=0) rfl rfl) (Oc (cH (i:=1) rfl rfl) (Oc (cy (k:=103) z33 rfl rfl) (Oc (aW (ps':=[.int .i64 0,.int .i64 0]) a33 rfl rfl rfl rfl (by decide) rfl) (Oc oa ?_)))))))
 refine aj.aS ⟨[(0,.b (.ptr 107 0)),(1,.b (.ptr 104 0)),(2,.b (.one (.raw .nilIface))),(3,.b (.ptr 103 0)),(4,B false)],[(107,.box 33 (aR rest)),(104,.box 33 (aR pr)),(103,.box 33 [.int .i64 0,.int .i64 0])]⟩ rfl ?_
 refine ah.seq (ah.seq (ah.ab ?_))
 refine Oc om (Oc (En Tryz.underlying20 rfl) (aj.aD (s16 false false rest pr ⟨0,0⟩).st rfl ?_))
 refine Ho (fr:=Dh) (cs:=⟨[0,1,3,4],[107,104,103],[]⟩) (ks:=[.s 16 .bool]) (G:=[]) (r:=.inl false) (m:=some (.inl false)) rfl rfl trivial rfl (by kernel_rfl) rfl (fun z hz=>Fin.then ?_) (fun p hp=>by cases hp)
 cases hz
 refine B3 (fr:=Dh) (F:=0) (G:=[]) (an:=.no) (cs:=⟨[0,1,3,4],[107,104,103],[]⟩) (ks:=[]) (r:=.inl ()) (m:=some (.inl ())) rfl rfl trivial rfl (by kernel_rfl) rfl (fun z hz=>Fin.then ?_) (fun p hp=>by cases hp)
 refine ah.aD (s16c false rest pr ⟨0,0⟩).st rfl ?_
 refine ah.seq (B3 (fr:=Dh) (F:=0) (G:=[]) (an:=.no) (cs:=⟨[0,1,3],[107,104,103],[]⟩) (ks:=[.s 18 .bool]) (r:=.inl false) (m:=some (.inl false)) rfl rfl trivial rfl (by kernel_rfl) rfl (fun z hz=>Fin.then ?_) (fun p hp=>by cases hp))
 cases hz
 refine ah.aD (s16e false rest pr ⟨0,0⟩).st rfl ?_
 refine B3 (fr:=Dh) (F:=0) (G:=[]) (an:=.no) (cs:=⟨[0,1],[107],[]⟩) (ks:=[.b 104 33 (.st .Problem)]) (r:=.inl pr) (m:=some (.inl pr)) rfl rfl trivial rfl (by kernel_rfl) rfl (fun z hz=>?_) (fun p hp=>by cases hp)
 cases hz
 exact Fin.kq (kK rest pr) [] (.inr rfl) rfl .nil (fun p hp=>by
  simp only [kK,List.mem_cons,List.not_mem_nil,or_false] at hp
  rcases hp with rfl | rfl
  ·exact List.mem_cons_of_mem _ List.mem_cons_self
  ·exact List.mem_cons_self) ⟨rfl,rfl⟩
end
end Go.Dn
namespace Go.Dn
open Go Go.Sk Go.Proofs X
set_option linter.unusedVariables false
set_option maxRecDepth 100000
section
variable {mx:Int} {E:Env (aw mx)} {n:Sh} {Q:bE}
theorem wP {fr:Fr} {F:Nat} {c:Code} {an:An DD} {s:bD DD} {cs:Kept} {ps:List (Nat × Nat)} {ks:List (Pl DD)} {m:Option (PT DD ks)} {z:PT DD ks} {G:List (bJ DD pk)} (hn:n.n = fr.n) (hf:n.fix = fr.fx) (hG:EN Tryz.prog (aw mx) G) (h:gG (BB (mx:=mx)) LL G fr F c an (cs.add ⟨[],[],[]⟩) s (fun s'=>if qP s' ps = true then pj s' cs.r ks else none) (fun _ _=>none) (fun _ _=>none) = m) (hm:m = some z) (hr:Fin E n .normal (embQ s cs ps ks z).st Q) (hh:mh an = true:=by rfl):ah Tryz.prog E n c s.st Q :=
 iw hn hf hG c an (bR c hh) (cs.add ⟨[],[],[]⟩) s _ _ _ z Q (h.trans hm) (fun s' he e=>by
  split at e
  ·next hp=>exact fun a w hR=>hr a w (Fm hp e he hR)
  ·cases e) (fun t s' _ e=>by cases e) (fun p ow e=>by cases e)
theorem denW {fr:Fr} {F:Nat} {c:Code} {an:An DD} {s:bD DD} {cs:Kept} {ps ps2:List (Nat × Nat)} {ks ks2:List (Pl DD)} {m:Option (PT DD ks ⊕ PT DD ks2)} {r:PT DD ks ⊕ PT DD ks2} {G:List (bJ DD pk)} (hn:n.n = fr.n) (hf:n.fix = fr.fx) (hG:EN Tryz.prog (aw mx) G) (h:gG (BB (mx:=mx)) LL G fr F c an (cs.add ⟨[],[],[]⟩) s (fun s'=>if qP s' ps = true then (pj s' cs.r ks).bind fun z=>some (.inl z) else none) (fun t s'=>match t with
  | none=>if qP s' ps2 = true then (EO s' ks2).bind fun z=>some (.inr z) else none
  | some _=>none) (fun _ _=>none) = m) (hm:m = some r) (hr:∀ z,r = .inl z → Fin E n .normal (embQ s cs ps ks z).st Q) (hr2:∀ z,r = .inr z → Fin E n .ret (shp ps2 ks2 z).st Q) (hh:mh an = true:=by rfl):ah Tryz.prog E n c s.st Q :=
 iw hn hf hG c an (bR c hh) (cs.add ⟨[],[],[]⟩) s _ _ _ r Q (h.trans hm) (fun s' he e=>by
  split at e
  ·next hp=>
   obtain ⟨z,hz,e1⟩:=aJ e
   cases e1
   exact fun a w hR=>hr z rfl a w (Fm hp hz he hR)
  ·cases e) (fun t s' _ e=>by
  cases t with
  | none=>
   simp only at e
   split at e
   ·next hp=>
    obtain ⟨z,hz,e1⟩:=aJ e
    cases e1
    exact fun a w hR=>hr2 z rfl a w (ze hp hz hR)
   ·cases e
  | some i=>cases e) (fun p ow e=>by cases e)
end
def Cl (F:Nat) (l:List Token) (s:Str):Option (Problem × reader):=Option.bind (uk F l) fun x4=>(if (decide (x4 < (l.length:Int))) = true then Option.bind (sx l x4) fun x7=>Option.bind (aH l x4) fun x8=>Option.bind (aH l x4) fun x9=>some ((⟨x9.At,(2:Int)⟩:Problem),(⟨x7,(0:Int),x8.At⟩:reader)) else some ((⟨(0:Int),(0:Int)⟩:Problem),(⟨l,(0:Int),(s.length:Int)⟩:reader)))
def GL (F:Nat) (s:Str):Option (Problem ⊕ (Problem × reader)):=Option.bind (ed F s) fun x1=>if x1.2.E ≠ 0 then some (.inl x1.2) else Option.bind (Cl F x1.1 s) fun x=>some (.inr x)
def xT (F:Nat) (rd:reader) (b1:af):Option (af ⊕ Problem):=Option.bind (kB F rd b1) (bB (fun p=>some (.inr p)) fun x11=>(if (decide (x11.1.pos < (x11.1.l.length:Int))) = true then Option.bind (aO F (280:Int) x11.1) (bB (fun p=>some (.inr p)) fun x14=>some (.inl (x11.2))) else some (.inl (x11.2))))
def Ac (F:Nat) (s:Str) (b1:af):Option (Problem × Option af):=Option.bind (GL F s) fun q=>match q with
 | .inl p=>some (p,none)
 | .inr x=>Option.bind (xT F x.2 b1) fun y=>match y with
  | .inl v=>some (x.1,some v)
  | .inr p=>some (qv x.1 p,none)
noncomputable def yV (v:af):List (Nat × OC):=bp (b5 (D:=DD) false [1] [.b 30 (.st .af)] (v,()))
def vD:Fr:=⟨67,[1],[]⟩
def t6Expr (s:Str) (b1:af):bD DD:=⟨[(0,.n (.d .str s)),(1,.n (.p (.cC 7 [] [.ptr 1 0])))],[(1,.box 30 (.st .af) b1)],[]⟩
def t6aExpr (s:Str) (p:Problem) (b1:af):bD DD:=⟨[(0,.n (.d .str s)),(1,.n (.p (.cC 7 [] [.ptr 1 0]))),(4,.n (.p (.ptr 104 0)))],[(1,.box 30 (.st .af) b1),(104,.box 33 (.st .Problem) p)],[]⟩
def GG (s:Str) (l:List Token) (p:Problem) (b1:af):bD DD:=⟨[(0,.n (.d .str s)),(1,.n (.p (.cC 7 [] [.ptr 1 0]))),(4,.n (.p (.ptr 104 0))),(5,.n (.d (.sl (.st .Token)) l))],[(1,.box 30 (.st .af) b1),(104,.box 33 (.st .Problem) p)],[]⟩
def t6cExpr (s:Str) (l:List Token) (p rest:Problem) (rd:reader) (b1:af):bD DD:=⟨[(0,.n (.d .str s)),(1,.n (.p (.cC 7 [] [.ptr 1 0]))),(4,.n (.p (.ptr 104 0))),(5,.n (.d (.sl (.st .Token)) l)),(6,.n (.p (.ptr 122 0))),(7,.n (.p (.ptr 107 0)))],[(1,.box 30 (.st .af) b1),(104,.box 33 (.st .Problem) p),(107,.box 33 (.st .Problem) rest),(122,.box 64 (.st .reader) rd)],[]⟩
def Ci (p rest:Problem) (rd:reader) (b1:af):bD DD:=⟨[(1,.n (.p (.cC 7 [] [.ptr 1 0]))),(4,.n (.p (.ptr 104 0))),(6,.n (.p (.ptr 122 0))),(7,.n (.p (.ptr 107 0)))],[(1,.box 30 (.st .af) b1),(104,.box 33 (.st .Problem) p),(107,.box 33 (.st .Problem) rest),(122,.box 64 (.st .reader) rd)],[]⟩
theorem A0 {mx:Int} {F:Nat} {s:Str} {b1:af} {p:Problem} {o:Option af} (h:Ac F s b1 = some (p,o)):aG Tryz.prog (aw mx) 6 (yV b1) [.one (.str s),.cC 7 [] [.ptr 1 0]] (Is (match o with | some v=>yV v | none=>[]) (.b (.agg (aR p)))):=by
 refine aG.Fb 67 Tryz.func6 Tryz.ntmps6 rfl (Nat.le_of_ble_eq_true rfl) fun E=>?_
 show ah _ E ⟨67,[1],[1],[]⟩ _ (t6Expr s b1).st _
 obtain ⟨q,hq,h1⟩:=aJ h
 obtain ⟨x1,hx1,h2⟩:=aJ hq
 refine ah.seq (wP (fr:=vD) (F:=F) (G:=[]) (an:=.no) (cs:=⟨[0,1],[1],[]⟩) (ps:=[(4,104)]) (ks:=[.b 104 33 (.st .Problem)]) (z:=(⟨0,0⟩:Problem)) (m:=some (⟨0,0⟩:Problem)) rfl rfl trivial (by kernel_rfl) rfl (Fin.then ?_))
 refine ah.aD (t6aExpr s ⟨0,0⟩ b1).st rfl ?_
 refine ah.seq (wP (fr:=vD) (F:=F) (G:=[iQ F]) (an:=.no) (cs:=⟨[0,1,4],[1],[]⟩) (ps:=[]) (ks:=[.b 104 33 (.st .Problem),.s 5 (.sl (.st .Token))]) (z:=(x1.2,x1.1)) (m:=(ed F s).bind fun x1=>some (x1.2,x1.1)) rfl rfl ⟨lv F,trivial⟩ (by kernel_rfl) (by rw [hx1]; rfl) (Fin.then ?_))
 refine ah.aD (GG s x1.1 x1.2 b1).st rfl ?_
 have hm:(if decide (x1.2.E ≠ 0) = true then some (.inr x1.2) else some (.inl x1.2):Option (PT DD [.b 104 33 (.st .Problem)] ⊕ PT DD [.b 104 33 (.st .Problem)])) = some (if x1.2.E ≠ 0 then .inr x1.2 else .inl x1.2):=by by_cases hE:x1.2.E = 0 <;> simp [hE]
 refine ah.seq (denW (fr:=vD) (F:=F) (G:=[]) (an:=.no) (cs:=⟨[0,1,4,5],[1],[]⟩) (ps:=[]) (ks:=[.b 104 33 (.st .Problem)]) (ps2:=[(4,104)]) (ks2:=[.b 104 33 (.st .Problem)]) rfl rfl trivial (by kernel_rfl) hm (fun z hz=>Fin.then ?_) (fun z hz=>?_))
 rotate_left
 ·split at hz
  ·next hE=>
   cases hz
   rw [if_pos hE] at h2
   cases h2
   cases h1
   exact Fin.cq (Fin.retD (.inl rfl) rfl (Fin.kq [] [.agg (aR x1.2)] (.inl rfl) rfl (.cons (.agg a33 rfl rfl rfl rfl) .nil) (fun p hp=>by cases hp) ⟨rfl,rfl⟩))
  ·cases hz
 split at hz
 ·cases hz
 next hE=>
 cases hz
 rw [if_neg hE] at h2
 obtain ⟨x,hx,h3⟩:=aJ h2
 cases h3
 obtain ⟨y,hy,h4⟩:=aJ h1
 refine ah.aD (GG s x1.1 x1.2 b1).st rfl ?_
 refine ah.seq (wP (fr:=vD) (F:=F) (G:=[]) (an:=.no) (cs:=⟨[0,1,4,5],[1,104],[]⟩) (ps:=[(6,122),(7,107)]) (ks:=[.b 107 33 (.st .Problem),.b 122 64 (.st .reader)]) (z:=((⟨0,0⟩:Problem),(⟨x1.1,0,(s.length:Int)⟩:reader))) (m:=some ((⟨0,0⟩:Problem),(⟨x1.1,0,(s.length:Int)⟩:reader))) rfl rfl trivial (by kernel_rfl) rfl (Fin.then ?_))
 refine ah.aD (t6cExpr s x1.1 x1.2 ⟨0,0⟩ ⟨x1.1,0,(s.length:Int)⟩ b1).st rfl ?_
 refine ah.seq (wP (fr:=vD) (F:=F) (G:=[qk F]) (an:=.two (.no) (.two (.no) (.two (.two (.hX [⟨0,[6],[]⟩,⟨1,[6],[]⟩,⟨2,[5],[]⟩,⟨3,[8],[]⟩,⟨4,[32,33],[]⟩,⟨5,[5],[]⟩,⟨6,[8],[]⟩,⟨7,[35,36],[]⟩,⟨8,[37],[]⟩,⟨9,[38],[]⟩,⟨10,[30],[]⟩,⟨11,[40],[]⟩,⟨12,[34,41],[122]⟩] [13,14,15] []) (.no)) (.no)))) (cs:=⟨[1,4,6,7],[1,104],[]⟩) (ps:=[]) (ks:=[.b 107 33 (.st .Problem),.b 122 64 (.st .reader)]) (z:=x) (m:=Cl F x1.1 s) rfl rfl ⟨uA F,trivial⟩ (by kernel_rfl) hx (Fin.then ?_))
 refine ah.aD (Ci x1.2 x.1 x.2 b1).st rfl ?_
 refine ah.seq (ah.ab (Oc (dZ (fs:=[]) (cs:=[.ptr 107 0,.ptr 104 0]) rfl rfl) (aj.defer rfl rfl rfl fun E' vals hlink hvals=>aj.aS (Ci x1.2 x.1 x.2 b1).st rfl ?_)))
 have hmS:(Option.bind (kB F x.2 b1) (bB (fun p=>some (.inr (p,x1.2,x.1))) fun x11=>(if (decide (x11.1.pos < (x11.1.l.length:Int))) = true then Option.bind (aO F (280:Int) x11.1) (bB (fun p=>some (.inr (p,x1.2,x.1))) fun x14=>some (.inl (x.1,x.1,x11.2))) else some (.inl (x.1,x.1,x11.2)))):Option (PT DD [.b 104 33 (.st .Problem),.b 107 33 (.st .Problem),.b 1 30 (.st .af)] ⊕ (Problem × PT DD [.b 104 33 (.st .Problem),.b 107 33 (.st .Problem)]))) = some (match y with
  | .inl v=>.inl (x.1,x.1,v)
  | .inr p=>.inr (p,x1.2,x.1)):=by
  unfold xT at hy
  cases hrd:kB F x.2 b1 with
  | none=>rw [hrd] at hy; cases hy
  | some c=>
   rw [hrd] at hy
   cases c with
   | inr p=>cases hy; rfl
   | inl c=>
    simp only [Option.bind_some,bB] at hy ⊢
    split at hy
    ·next hc=>
     rw [if_pos hc]
     cases hf:aO F 280 c.1 with
     | none=>rw [hf] at hy; cases hy
     | some d=>
      rw [hf] at hy
      cases d <;> (cases hy; rfl)
    ·next hc=>
     rw [if_neg hc]
     cases hy
     rfl
 intro a w hr
 refine iw (B0:=BB (mx:=mx)) (L:=LL) (G:=[((r7 F).sw 1 122).sw 2 1,(bH F).sw 1 122]) (F:=F) (fr:=⟨67,[1,104,107,122],[]⟩) rfl rfl ⟨((yI F).sw 1 122).sw 2 1,(bS F).sw 1 122,trivial⟩ _ (.two (.no) (.two (.two (.hX [⟨0,[6],[]⟩,⟨1,[54],[]⟩,⟨2,[55],[]⟩,⟨3,[56],[122]⟩,⟨4,[6],[]⟩,⟨5,[58],[]⟩,⟨6,[59],[]⟩,⟨7,[60],[122]⟩,⟨8,[61],[]⟩] [9] []) (.no)) (.no))) (bR _ rfl) ⟨[],[],[]⟩ (Ci x1.2 x.1 x.2 b1) (fun _=>none) (fun t s'=>match t with
  | none=>if qP s' [(4,104)] = true then (EO s' [.b 104 33 (.st .Problem),.b 107 33 (.st .Problem),.b 1 30 (.st .af)]).bind fun z=>some (Sum.inl z) else none
  | some _=>none) (fun p sv=>if qP sv [(4,104)] = true then (EO sv [.b 104 33 (.st .Problem),.b 107 33 (.st .Problem)]).bind fun z=>some (.inr (p,z)) else none) _ _ (Eq.trans (by kernel_rfl) hmS) (fun s' _ e=>by cases e) (fun t s' _ e=>?_) (fun p' sv e=>?_) a w hr
 ·cases t with
  | some i=>cases e
  | none=>
   simp only at e
   split at e
   ·next hp=>
    obtain ⟨z,hz,e1⟩:=aJ e
    cases y with
    | inr p'=>cases e1
    | inl v=>
     cases e1
     cases h4
     refine fun a w hR=>Fin.D4 (own_c:=kK x.1 x.1) (own_c':=kK x.1 x.1) (post':=Is (yV v) (.b (.agg (aR x.1)))) hlink hvals By (.inl rfl) ⟨Tryz.call16⟩ rfl rfl ⟨rfl,rfl,trivial⟩ rfl rfl (qV rfl rfl rfl rfl) ?_ a w (ze hp hz hR)
     exact Fin.kq (yV v) [.agg (aR x.1)] (.inl rfl) rfl (.cons (.agg a33 rfl rfl rfl rfl) .nil) (fun p hp=>List.mem_append_left (kK x.1 x.1) hp) ⟨rfl,rfl⟩
   ·cases e
 ·split at e
  ·next hp=>
   obtain ⟨z,hz,e1⟩:=aJ e
   cases y with
   | inl v=>cases e1
   | inr p0=>
    cases e1
    cases h4
    intro hok
    refine fun a w hR=>Fin.tw (own_c:=kK x.1 x1.2) (own_c':=kK x.1 (qv x.1 p')) (post':=Is [] (.b (.agg (aR (qv x.1 p'))))) hlink hvals (Ad hok) ⟨Tryz.call16⟩ rfl rfl ⟨rfl,rfl,trivial⟩ rfl rfl (qV rfl rfl rfl rfl) ?_ a w (ze hp hz hR)
    exact Fin.kq [] [.agg (aR (qv x.1 p'))] (.inl rfl) rfl (.cons (.agg a33 rfl rfl rfl rfl) .nil) (fun p hp=>by cases hp) ⟨rfl,rfl⟩
  ·cases e
def wg (F:Nat) (rd:reader) (b1:Source × List ay):Option ((Source × List ay) ⊕ Problem):=Option.bind (jD F rd b1.1 b1.2) (bB (fun p=>some (.inr p)) fun x11=>(if (decide (x11.1.pos < (x11.1.l.length:Int))) = true then Option.bind (aO F (280:Int) x11.1) (bB (fun p=>some (.inr p)) fun x14=>some (.inl (x11.2))) else some (.inl (x11.2))))
def xU (F:Nat) (s:Str) (b1:Source × List ay):Option (Problem × Option (Source × List ay)):=Option.bind (GL F s) fun q=>match q with
 | .inl p=>some (p,none)
 | .inr x=>Option.bind (wg F x.2 b1) fun y=>match y with
  | .inl v=>some (x.1,some v)
  | .inr p=>some (qv x.1 p,none)
noncomputable def vP (v:(Source × List ay)):List (Nat × OC):=bp (b5 (D:=DD) false [1,2] [.x 49 .Source,.r 46 (.st .ay)] (v.1,v.2,()))
def sH:Fr:=⟨67,[1],[]⟩
def t6Parse (s:Str) (b1:Source × List ay):bD DD:=⟨[(0,.n (.d .str s)),(1,.n (.p (.cC 28 [] [.ptr 1 0])))],[(1,.x 49 .Source 1 2 false b1.1),(2,.row 46 (.st .ay) b1.2)],[]⟩
def JN (s:Str) (p:Problem) (b1:Source × List ay):bD DD:=⟨[(0,.n (.d .str s)),(1,.n (.p (.cC 28 [] [.ptr 1 0]))),(4,.n (.p (.ptr 104 0)))],[(1,.x 49 .Source 1 2 false b1.1),(2,.row 46 (.st .ay) b1.2),(104,.box 33 (.st .Problem) p)],[]⟩
def DC (s:Str) (l:List Token) (p:Problem) (b1:Source × List ay):bD DD:=⟨[(0,.n (.d .str s)),(1,.n (.p (.cC 28 [] [.ptr 1 0]))),(4,.n (.p (.ptr 104 0))),(5,.n (.d (.sl (.st .Token)) l))],[(1,.x 49 .Source 1 2 false b1.1),(2,.row 46 (.st .ay) b1.2),(104,.box 33 (.st .Problem) p)],[]⟩
def JM (s:Str) (l:List Token) (p rest:Problem) (rd:reader) (b1:Source × List ay):bD DD:=⟨[(0,.n (.d .str s)),(1,.n (.p (.cC 28 [] [.ptr 1 0]))),(4,.n (.p (.ptr 104 0))),(5,.n (.d (.sl (.st .Token)) l)),(6,.n (.p (.ptr 122 0))),(7,.n (.p (.ptr 107 0)))],[(1,.x 49 .Source 1 2 false b1.1),(2,.row 46 (.st .ay) b1.2),(104,.box 33 (.st .Problem) p),(107,.box 33 (.st .Problem) rest),(122,.box 64 (.st .reader) rd)],[]⟩
def zG (p rest:Problem) (rd:reader) (b1:Source × List ay):bD DD:=⟨[(1,.n (.p (.cC 28 [] [.ptr 1 0]))),(4,.n (.p (.ptr 104 0))),(6,.n (.p (.ptr 122 0))),(7,.n (.p (.ptr 107 0)))],[(1,.x 49 .Source 1 2 false b1.1),(2,.row 46 (.st .ay) b1.2),(104,.box 33 (.st .Problem) p),(107,.box 33 (.st .Problem) rest),(122,.box 64 (.st .reader) rd)],[]⟩
theorem AF {mx:Int} {F:Nat} {s:Str} {b1:Source × List ay} {p:Problem} {o:Option (Source × List ay)} (h:xU F s b1 = some (p,o)):aG Tryz.prog (aw mx) 6 (vP b1) [.one (.str s),.cC 28 [] [.ptr 1 0]] (Is (match o with | some v=>vP v | none=>[]) (.b (.agg (aR p)))):=by
 refine aG.Fb 67 Tryz.func6 Tryz.ntmps6 rfl (Nat.le_of_ble_eq_true rfl) fun E=>?_
 show ah _ E ⟨67,[1],[1,2],[]⟩ _ (t6Parse s b1).st _
 obtain ⟨q,hq,h1⟩:=aJ h
 obtain ⟨x1,hx1,h2⟩:=aJ hq
 refine ah.seq (wP (fr:=sH) (F:=F) (G:=[]) (an:=.no) (cs:=⟨[0,1],[1,2],[]⟩) (ps:=[(4,104)]) (ks:=[.b 104 33 (.st .Problem)]) (z:=(⟨0,0⟩:Problem)) (m:=some (⟨0,0⟩:Problem)) rfl rfl trivial (by kernel_rfl) rfl (Fin.then ?_))
 refine ah.aD (JN s ⟨0,0⟩ b1).st rfl ?_
 refine ah.seq (wP (fr:=sH) (F:=F) (G:=[iQ F]) (an:=.no) (cs:=⟨[0,1,4],[1,2],[]⟩) (ps:=[]) (ks:=[.b 104 33 (.st .Problem),.s 5 (.sl (.st .Token))]) (z:=(x1.2,x1.1)) (m:=(ed F s).bind fun x1=>some (x1.2,x1.1)) rfl rfl ⟨lv F,trivial⟩ (by kernel_rfl) (by rw [hx1]; rfl) (Fin.then ?_))
 refine ah.aD (DC s x1.1 x1.2 b1).st rfl ?_
 have hm:(if decide (x1.2.E ≠ 0) = true then some (.inr x1.2) else some (.inl x1.2):Option (PT DD [.b 104 33 (.st .Problem)] ⊕ PT DD [.b 104 33 (.st .Problem)])) = some (if x1.2.E ≠ 0 then .inr x1.2 else .inl x1.2):=by by_cases hE:x1.2.E = 0 <;> simp [hE]
 refine ah.seq (denW (fr:=sH) (F:=F) (G:=[]) (an:=.no) (cs:=⟨[0,1,4,5],[1,2],[]⟩) (ps:=[]) (ks:=[.b 104 33 (.st .Problem)]) (ps2:=[(4,104)]) (ks2:=[.b 104 33 (.st .Problem)]) rfl rfl trivial (by kernel_rfl) hm (fun z hz=>Fin.then ?_) (fun z hz=>?_))
 rotate_left
 ·split at hz
  ·next hE=>
   cases hz
   rw [if_pos hE] at h2
   cases h2
   cases h1
   exact Fin.cq (Fin.retD (.inl rfl) rfl (Fin.kq [] [.agg (aR x1.2)] (.inl rfl) rfl (.cons (.agg a33 rfl rfl rfl rfl) .nil) (fun p hp=>by cases hp) ⟨rfl,rfl⟩))
  ·cases hz
 split at hz
 ·cases hz
 next hE=>
 cases hz
 rw [if_neg hE] at h2
 obtain ⟨x,hx,h3⟩:=aJ h2
 cases h3
 obtain ⟨y,hy,h4⟩:=aJ h1
 refine ah.aD (DC s x1.1 x1.2 b1).st rfl ?_
 refine ah.seq (wP (fr:=sH) (F:=F) (G:=[]) (an:=.no) (cs:=⟨[0,1,4,5],[1,2,104],[]⟩) (ps:=[(6,122),(7,107)]) (ks:=[.b 107 33 (.st .Problem),.b 122 64 (.st .reader)]) (z:=((⟨0,0⟩:Problem),(⟨x1.1,0,(s.length:Int)⟩:reader))) (m:=some ((⟨0,0⟩:Problem),(⟨x1.1,0,(s.length:Int)⟩:reader))) rfl rfl trivial (by kernel_rfl) rfl (Fin.then ?_))
 refine ah.aD (JM s x1.1 x1.2 ⟨0,0⟩ ⟨x1.1,0,(s.length:Int)⟩ b1).st rfl ?_
 refine ah.seq (wP (fr:=sH) (F:=F) (G:=[qk F]) (an:=.two (.no) (.two (.no) (.two (.two (.hX [⟨0,[6],[]⟩,⟨1,[6],[]⟩,⟨2,[5],[]⟩,⟨3,[8],[]⟩,⟨4,[32,33],[]⟩,⟨5,[5],[]⟩,⟨6,[8],[]⟩,⟨7,[35,36],[]⟩,⟨8,[37],[]⟩,⟨9,[38],[]⟩,⟨10,[30],[]⟩,⟨11,[40],[]⟩,⟨12,[34,41],[122]⟩] [13,14,15] []) (.no)) (.no)))) (cs:=⟨[1,4,6,7],[1,2,104],[]⟩) (ps:=[]) (ks:=[.b 107 33 (.st .Problem),.b 122 64 (.st .reader)]) (z:=x) (m:=Cl F x1.1 s) rfl rfl ⟨uA F,trivial⟩ (by kernel_rfl) hx (Fin.then ?_))
 refine ah.aD (zG x1.2 x.1 x.2 b1).st rfl ?_
 refine ah.seq (ah.ab (Oc (dZ (fs:=[]) (cs:=[.ptr 107 0,.ptr 104 0]) rfl rfl) (aj.defer rfl rfl rfl fun E' vals hlink hvals=>aj.aS (zG x1.2 x.1 x.2 b1).st rfl ?_)))
 have hmS:(Option.bind (jD F x.2 b1.1 b1.2) (bB (fun p=>some (.inr (p,x1.2,x.1))) fun x11=>(if (decide (x11.1.pos < (x11.1.l.length:Int))) = true then Option.bind (aO F (280:Int) x11.1) (bB (fun p=>some (.inr (p,x1.2,x.1))) fun x14=>some (.inl (x.1,x.1,x11.2))) else some (.inl (x.1,x.1,x11.2)))):Option (PT DD [.b 104 33 (.st .Problem),.b 107 33 (.st .Problem),.x 1 49 .Source 2,.r 2 46 (.st .ay)] ⊕ (Problem × PT DD [.b 104 33 (.st .Problem),.b 107 33 (.st .Problem)]))) = some (match y with
  | .inl v=>.inl (x.1,x.1,v)
  | .inr p=>.inr (p,x1.2,x.1)):=by
  unfold wg at hy
  cases hrd:jD F x.2 b1.1 b1.2 with
  | none=>rw [hrd] at hy; cases hy
  | some c=>
   rw [hrd] at hy
   cases c with
   | inr p=>cases hy; rfl
   | inl c=>
    simp only [Option.bind_some,bB] at hy ⊢
    split at hy
    ·next hc=>
     rw [if_pos hc]
     cases hf:aO F 280 c.1 with
     | none=>rw [hf] at hy; cases hy
     | some d=>
      rw [hf] at hy
      cases d <;> (cases hy; rfl)
    ·next hc=>
     rw [if_neg hc]
     cases hy
     rfl
 intro a w hr
 refine iw (B0:=BB (mx:=mx)) (L:=LL) (G:=[(((jE F).sw 1 122).sw 2 1).sw 3 2,(bH F).sw 1 122]) (F:=F) (fr:=⟨67,[1,104,107,122],[]⟩) rfl rfl ⟨(((xG F).sw 1 122).sw 2 1).sw 3 2,(bS F).sw 1 122,trivial⟩ _ (.two (.no) (.two (.two (.hX [⟨0,[6],[]⟩,⟨1,[54],[]⟩,⟨2,[55],[]⟩,⟨3,[56],[122]⟩,⟨4,[6],[]⟩,⟨5,[58],[]⟩,⟨6,[59],[]⟩,⟨7,[60],[122]⟩,⟨8,[61],[]⟩] [9] []) (.no)) (.no))) (bR _ rfl) ⟨[],[],[]⟩ (zG x1.2 x.1 x.2 b1) (fun _=>none) (fun t s'=>match t with
  | none=>if qP s' [(4,104)] = true then (EO s' [.b 104 33 (.st .Problem),.b 107 33 (.st .Problem),.x 1 49 .Source 2,.r 2 46 (.st .ay)]).bind fun z=>some (Sum.inl z) else none
  | some _=>none) (fun p sv=>if qP sv [(4,104)] = true then (EO sv [.b 104 33 (.st .Problem),.b 107 33 (.st .Problem)]).bind fun z=>some (.inr (p,z)) else none) _ _ (Eq.trans (by kernel_rfl) hmS) (fun s' _ e=>by cases e) (fun t s' _ e=>?_) (fun p' sv e=>?_) a w hr
 ·cases t with
  | some i=>cases e
  | none=>
   simp only at e
   split at e
   ·next hp=>
    obtain ⟨z,hz,e1⟩:=aJ e
    cases y with
    | inr p'=>cases e1
    | inl v=>
     cases e1
     cases h4
     refine fun a w hR=>Fin.D4 (own_c:=kK x.1 x.1) (own_c':=kK x.1 x.1) (post':=Is (vP v) (.b (.agg (aR x.1)))) hlink hvals By (.inl rfl) ⟨Tryz.call16⟩ rfl rfl ⟨rfl,rfl,trivial⟩ rfl rfl (qV rfl rfl rfl rfl) ?_ a w (ze hp hz hR)
     exact Fin.kq (vP v) [.agg (aR x.1)] (.inl rfl) rfl (.cons (.agg a33 rfl rfl rfl rfl) .nil) (fun p hp=>List.mem_append_left (kK x.1 x.1) hp) ⟨rfl,rfl⟩
   ·cases e
 ·split at e
  ·next hp=>
   obtain ⟨z,hz,e1⟩:=aJ e
   cases y with
   | inl v=>cases e1
   | inr p0=>
    cases e1
    cases h4
    intro hok
    refine fun a w hR=>Fin.tw (own_c:=kK x.1 x1.2) (own_c':=kK x.1 (qv x.1 p')) (post':=Is [] (.b (.agg (aR (qv x.1 p'))))) hlink hvals (Ad hok) ⟨Tryz.call16⟩ rfl rfl ⟨rfl,rfl,trivial⟩ rfl rfl (qV rfl rfl rfl rfl) ?_ a w (ze hp hz hR)
    exact Fin.kq [] [.agg (aR (qv x.1 p'))] (.inl rfl) rfl (.cons (.agg a33 rfl rfl rfl rfl) .nil) (fun p hp=>by cases hp) ⟨rfl,rfl⟩
  ·cases e
end Go.Dn
namespace Go.Dn
open Go Go.Sk Go.Proofs X
set_option linter.unusedVariables false
set_option maxRecDepth 100000
section
variable {mx:Int} {F:Nat} {s:Str}
def eT (F:Nat) (s:Str):Option (af × Problem):=Option.bind (Ac F s gl) fun q=>if q.1.E ≠ 0 then some (gl,q.1) else q.2.bind fun v=>some (v,q.1)
def uH (F:Nat):bJ DD pk:=⟨4,[.d .str],[],[],[],[.st .af,.st .Problem],true,false,false,false,fun a l=>eT F a.1⟩
def u4 (s:Str):bD DD:=⟨[(0,.n (.d .str s))],[],[]⟩
def u4a (s:Str):bD DD:=⟨[(0,.n (.d .str s)),(2,.n (.p (.ptr 102 0))),(3,.n (.p (.ptr 103 0)))],[(102,.box 30 (.st .af) gl),(103,.box 33 (.st .Problem) ⟨0,0⟩)],[]⟩
def u4b (s:Str):bD DD:=⟨[(0,.n (.d .str s)),(2,.n (.p (.ptr 102 0))),(3,.n (.p (.ptr 103 0))),(4,.n (.p (.ptr 104 0)))],[(102,.box 30 (.st .af) gl),(103,.box 33 (.st .Problem) ⟨0,0⟩),(104,.box 30 (.st .af) gl)],[]⟩
def u4c (p:Problem) (l:List (Nat × TO DD)):bD DD:=⟨[(8,.n (.d (.st .Problem) p)),(2,.n (.p (.ptr 102 0))),(3,.n (.p (.ptr 103 0))),(4,.n (.p (.ptr 104 0)))],[(102,.box 30 (.st .af) gl),(103,.box 33 (.st .Problem) ⟨0,0⟩)] ++ l,[]⟩
def u4d (p:Problem) (l:List (Nat × TO DD)):bD DD:=⟨[(2,.n (.p (.ptr 102 0))),(3,.n (.p (.ptr 103 0))),(4,.n (.p (.ptr 104 0))),(5,.n (.p (.ptr 105 0)))],[(102,.box 30 (.st .af) gl),(103,.box 33 (.st .Problem) ⟨0,0⟩)] ++ l ++ [(105,.box 33 (.st .Problem) p)],[]⟩
theorem FO {r:af × Problem} (h:eT F s = some r):aG Tryz.prog (aw mx) 4 [] [.one (.str s)] (Is [] (.kU [.agg (gp r.1),.agg (aR r.2)])):=by
 obtain ⟨⟨p,o⟩,hq,h1⟩:=aJ h
 refine aG.intro 16 Tryz.func4 Tryz.ntmps4 rfl (Nat.le_of_ble_eq_true rfl) fun E=>?_
 show ah _ E ⟨16,[],[],[]⟩ _ (u4 s).st _
 have hm:aG Tryz.prog (aw mx) 6 [(104,.box 30 (gp gl))] [.one (.str s),.cC 7 [] [.ptr 104 0]] (Is (match o with | some v=>[(104,.box 30 (gp v))] | none=>[]) (.b (.agg (aR p)))):=by
  have:=aG.sw (A0 (mx:=mx) hq) 1 104
  cases o <;> exact this
 refine ah.seq (wP (fr:=⟨16,[],[]⟩) (F:=F) (G:=[]) (an:=.no) (cs:=⟨[0],[],[]⟩) (ps:=[(2,102),(3,103)]) (ks:=[.b 102 30 (.st .af),.b 103 33 (.st .Problem)]) (z:=(gl,(⟨0,0⟩:Problem))) (m:=some (gl,(⟨0,0⟩:Problem))) rfl rfl trivial (by kernel_rfl) rfl (Fin.then ?_))
 refine ah.aD (u4a s).st rfl ?_
 refine ah.seq (wP (fr:=⟨16,[],[]⟩) (F:=F) (G:=[]) (an:=.no) (cs:=⟨[0,2,3],[102,103],[]⟩) (ps:=[(4,104)]) (ks:=[.b 104 30 (.st .af)]) (z:=gl) (m:=some gl) rfl rfl trivial (by kernel_rfl) rfl (Fin.then ?_))
 refine ah.aD (u4b s).st rfl ?_
 have l30:(gp r.1).length = DD.n .af:=DD.len .af r.1
 have fin:∀ (l:List (Nat × TO DD)) (m:Option (PT DD [] ⊕ PT DD [.b 102 30 (.st .af),.b 103 33 (.st .Problem)])),m = some (.inr r) → (∀ c,c = ER 3 ((Tryz.f4.body).getD .skip) → gG (BB (mx:=mx)) LL ([]:List (bJ DD pk)) ⟨16,[],[]⟩ F c ((.two (.two (.no) (.two (.two (.hX [⟨0,[],[]⟩,⟨1,[5],[105]⟩,⟨2,[2,12],[102]⟩] [3] []) (.no)) (.no))) (.two (.hX [⟨0,[4],[104]⟩,⟨1,[5],[105]⟩,⟨2,[2,14],[102]⟩] [3] []) (.no)))) ((⟨[],[],[]⟩:Kept).add ⟨[],[],[]⟩) (u4d p l) (fun s'=>if qP s' [] = true then (pj s' (⟨[],[],[]⟩:Kept).r []).bind fun z=>some (.inl z) else none) (fun t s'=>match t with
  | none=>if qP s' [(2,102),(3,103)] = true then (EO s' [.b 102 30 (.st .af),.b 103 33 (.st .Problem)]).bind fun z=>some (.inr z) else none
  | some _=>none) (fun _ _=>none) = m) → ah Tryz.prog E ⟨16,[],[],[]⟩ (ER 3 ((Tryz.f4.body).getD .skip)) (u4d p l).st (yN Tryz.prog Tryz.f4 E ⟨16,[],[],[]⟩ (Is [] (.kU [.agg (gp r.1),.agg (aR r.2)]))):=fun l m hm hd=>by
  refine denW (fr:=⟨16,[],[]⟩) (F:=F) (G:=[]) (an:=(.two (.two (.no) (.two (.two (.hX [⟨0,[],[]⟩,⟨1,[5],[105]⟩,⟨2,[2,12],[102]⟩] [3] []) (.no)) (.no))) (.two (.hX [⟨0,[4],[104]⟩,⟨1,[5],[105]⟩,⟨2,[2,14],[102]⟩] [3] []) (.no)))) (cs:=⟨[],[],[]⟩) (ps:=[]) (ks:=[]) (ps2:=[(2,102),(3,103)]) (ks2:=[.b 102 30 (.st .af),.b 103 33 (.st .Problem)]) rfl rfl trivial (hd _ rfl) hm (fun z hz=>by cases hz) (fun z hz=>?_)
  cases hz
  exact Fin.kq [] [.agg (gp r.1),.agg (aR r.2)] (.inl rfl) rfl (.cons (.agg (m:=DD.n .af) ((BB (mx:=mx)).tok 30 (.st .af) rfl) rfl rfl (by
   show List.take (DD.n .af) (List.drop 0 (gp r.1)) = _
   rw [List.drop_zero,← l30,List.take_length]) l30) (.cons (.agg a33 rfl rfl rfl rfl) .nil)) (fun p hp=>by cases hp) ⟨rfl,rfl⟩
 refine ah.seq (ah.ab ?_)
 refine Oc om (Oc (dZ (fs:=[]) (cs:=[.ptr 104 0]) rfl rfl) ?_)
 cases o with
 | none=>
  refine Oc (dv hm ⟨Tryz.call6⟩ rfl ⟨rfl,trivial⟩ rfl rfl) ?_
  refine aj.aD (u4c p []).st rfl ?_
  refine Ij (fr:=⟨16,[],[]⟩) (cs:=⟨[2,3,4],[102,103],[]⟩) (ps:=[(5,105)]) (ks:=[.b 105 33 (.st .Problem)]) (z:=p) (G:=[]) rfl rfl trivial (by kernel_rfl) (Fin.then ?_)
  refine ah.aD (u4d p []).st rfl ?_
  refine fin [] (if decide (p.E ≠ 0) = true then some (.inr (gl,p)) else none) ?_ (fun c hc=>by subst hc; kernel_rfl)
  simp only [Option.bind_none] at h1
  split at h1
  ·next hE=>cases h1; exact if_pos (decide_eq_true hE)
  ·cases h1
 | some v=>
  refine Oc (dv hm ⟨Tryz.call6⟩ rfl ⟨rfl,trivial⟩ rfl rfl) ?_
  refine aj.aD (u4c p [(104,.box 30 (.st .af) v)]).st rfl ?_
  refine Ij (fr:=⟨16,[],[]⟩) (cs:=⟨[2,3,4],[102,103,104],[]⟩) (ps:=[(5,105)]) (ks:=[.b 105 33 (.st .Problem)]) (z:=p) (G:=[]) rfl rfl trivial (by kernel_rfl) (Fin.then ?_)
  refine ah.aD (u4d p [(104,.box 30 (.st .af) v)]).st rfl ?_
  refine fin [(104,.box 30 (.st .af) v)] (if decide (p.E ≠ 0) = true then some (.inr (gl,p)) else some (.inr (v,p))) ?_ (fun c hc=>by subst hc; kernel_rfl)
  simp only [Option.bind_some] at h1
  split at h1
  ·next hE=>cases h1; exact if_pos (decide_eq_true hE)
  ·next hE=>cases h1; exact if_neg (by simpa using hE)
theorem Bg (F:Nat):av Tryz.prog (aw mx) (uH F):=nH ⟨Tryz.call4⟩ fun a r h=>FO (mx:=mx) (F:=F) h
def kA (F:Nat) (s:Str):Option Bool:=if s = [] then some true else none
def r5 (F:Nat):bJ DD pk:=⟨122,[.d .str],[],[],[],[.bool],true,false,false,false,fun a l=>kA F a.1⟩
theorem CT {r:Bool} (h:kA F s = some r):aG Tryz.prog (aw mx) 122 [] [.one (.str s)] (Is [] (.b (.one (.bool r)))):=by
 unfold kA at h
 split at h
 ·next hs=>
  subst hs
  cases h
  refine aG.intro 18 Tryz.func122 Tryz.ntmps122 rfl (Nat.le_of_ble_eq_true rfl) fun E=>?_
  show ah _ E ⟨18,[],[],[]⟩ _ ⟨[(0,.b (.one (.str [])))],[]⟩ _
  refine ah.seq (ah.ab (Oc oa (aj.aS ⟨[(0,.b (.one (.str [])))],[]⟩ rfl ?_)))
  refine ah.seq (wP (fr:=⟨18,[],[]⟩) (F:=F) (G:=[]) (an:=.no) (s:=⟨[(0,.n (.d .str []))],[],[]⟩) (cs:=⟨[0],[],[]⟩) (ps:=[(3,103)]) (ks:=[.b 103 9 .str]) (z:=([]:Str)) (m:=some ([]:Str)) rfl rfl trivial (by kernel_rfl) rfl (Fin.then ?_))
  refine ah.seq (ah.ab ?_)
  refine aj.aD (bD.st (D:=DD) ⟨[(0,.n (.d .str [])),(3,.n (.p (.ptr 103 0)))],[(103,.box 9 .str [])],[]⟩) rfl ?_
  refine Oc om (Oc (u0 (u:=[]) (v:=[]) rfl rfl) (Oc om ?_))
  refine aj.pz (z:=.one (.bool true)) false 99 [] (.plain (b:=true) rfl) rfl rfl rfl (fun e=>by cases e) (fun e=>by cases e) ?_
  refine aj.pz (z:=.one (.bool true)) false 99 [] (.plain (b:=true) rfl) rfl rfl rfl (fun e=>by cases e) (fun e=>by cases e) ?_
  refine aj.pz (z:=.one (.bool true)) false 99 [] (.plain (b:=true) rfl) rfl rfl rfl (fun e=>by cases e) (fun e=>by cases e) ?_
  refine aj.pz (z:=.one (.bool true)) false 99 [] (.plain (b:=true) rfl) rfl rfl rfl (fun e=>by cases e) (fun e=>by cases e) ?_
  refine aj.pz (z:=.one (.bool true)) false 99 [] (.plain (b:=true) rfl) rfl rfl rfl (fun e=>by cases e) (fun e=>by cases e) ?_
  refine aj.pz (z:=.one (.bool true)) false 99 [] (.plain (b:=true) rfl) rfl rfl rfl (fun e=>by cases e) (fun e=>by cases e) ?_
  refine aj.pz (z:=.one (.bool true)) false 99 [] (.under (c:=false) (b:=true) rfl) rfl rfl rfl (fun e=>by cases e) (fun e=>by cases e) ?_
  refine aj.pz (z:=.one (.bool true)) false 99 [] (.under (c:=false) (b:=true) rfl) rfl rfl rfl (fun e=>by cases e) (fun e=>by cases e) ?_
  refine aj.pz (z:=.one (.bool true)) false 99 [] (.under (c:=false) (b:=true) rfl) rfl rfl rfl (fun e=>by cases e) (fun e=>by cases e) ?_
  refine aj.pz (z:=.one (.bool true)) false 99 [] (.plain (b:=true) rfl) rfl rfl rfl (fun e=>by cases e) (fun e=>by cases e) ?_
  refine Oc (fb (b:=true) (gd:=false) (z:=true) (fun e=>by cases e) rfl rfl rfl rfl) (Oc oa (aj.aS ⟨[(2,B true)],[]⟩ rfl ?_))
  exact ah.ret (Fin.result [.one (.bool true)] (.inl rfl) rfl (.cons (.tmp rfl) .nil) ⟨rfl,rfl⟩)
 ·cases h
theorem yG (F:Nat):av Tryz.prog (aw mx) (r5 F):=nH ⟨Tryz.call122⟩ fun a r h=>CT (mx:=mx) (F:=F) h
def gu (F:Nat) (s:Str):Option (Source × Problem):=Option.bind (xU F s (fE,[])) fun q=>if q.1.E ≠ 0 then some (fE,q.1) else q.2.bind fun v=>some ({ v.1 with Code:=v.2 },q.1)
def iP (F:Nat):bJ DD pk:=⟨12,[.d .str],[],[],[],[.st .Source,.st .Problem],true,false,false,false,fun a l=>gu F a.1⟩
def u12 (s:Str):bD DD:=⟨[(0,.n (.d .str s))],[],[]⟩
def u12a (s:Str):bD DD:=⟨[(0,.n (.d .str s)),(2,.n (.p (.ptr 102 0))),(3,.n (.p (.ptr 103 0)))],[(102,.box 49 (.st .Source) fE),(103,.box 33 (.st .Problem) ⟨0,0⟩)],[]⟩
def u12b (s:Str):bD DD:=⟨[(0,.n (.d .str s)),(2,.n (.p (.ptr 102 0))),(3,.n (.p (.ptr 103 0))),(4,.n (.p (.ptr 104 0)))],[(102,.box 49 (.st .Source) fE),(103,.box 33 (.st .Problem) ⟨0,0⟩),(104,.x 49 .Source 104 100104 false fE),(100104,.row 46 (.st .ay) [])],[]⟩
def u12c (p:Problem) (l:List (Nat × TO DD)):bD DD:=⟨[(8,.n (.d (.st .Problem) p)),(2,.n (.p (.ptr 102 0))),(3,.n (.p (.ptr 103 0))),(4,.n (.p (.ptr 104 0)))],[(102,.box 49 (.st .Source) fE),(103,.box 33 (.st .Problem) ⟨0,0⟩)] ++ l,[]⟩
def Dd (p:Problem) (l:List (Nat × TO DD)):bD DD:=⟨[(2,.n (.p (.ptr 102 0))),(3,.n (.p (.ptr 103 0))),(4,.n (.p (.ptr 104 0))),(5,.n (.p (.ptr 105 0)))],[(102,.box 49 (.st .Source) fE),(103,.box 33 (.st .Problem) ⟨0,0⟩)] ++ l ++ [(105,.box 33 (.st .Problem) p)],[]⟩
theorem Ey {r:Source × Problem} (h:gu F s = some r):aG Tryz.prog (aw mx) 12 [] [.one (.str s)] (Is [] (.kU [.agg (mI r.1),.agg (aR r.2)])):=by
 obtain ⟨⟨p,o⟩,hq,h1⟩:=aJ h
 refine aG.intro 16 Tryz.func12 Tryz.ntmps12 rfl (Nat.le_of_ble_eq_true rfl) fun E=>?_
 show ah _ E ⟨16,[],[],[]⟩ _ (u12 s).st _
 have hm:aG Tryz.prog (aw mx) 6 (bp (b5 (D:=DD) false [104,100104] [.x 49 .Source,.r 46 (.st .ay)] ((fE,([]:List ay)).1,(fE,([]:List ay)).2,()))) [.one (.str s),.cC 28 [] [.ptr 104 0]] (Is (match o with | some v=>(bp (b5 (D:=DD) false [104,100104] [.x 49 .Source,.r 46 (.st .ay)] (v.1,v.2,()))) | none=>[]) (.b (.agg (aR p)))):=by
  have:=aG.sw (aG.sw (AF (mx:=mx) hq) 1 104) 2 100104
  cases o <;> exact this
 refine ah.seq (wP (fr:=⟨16,[],[]⟩) (F:=F) (G:=[]) (an:=.no) (cs:=⟨[0],[],[]⟩) (ps:=[(2,102),(3,103)]) (ks:=[.b 102 49 (.st .Source),.b 103 33 (.st .Problem)]) (z:=(fE,(⟨0,0⟩:Problem))) (m:=some (fE,(⟨0,0⟩:Problem))) rfl rfl trivial (by kernel_rfl) rfl (Fin.then ?_))
 refine ah.aD (u12a s).st rfl ?_
 refine ah.seq (wP (fr:=⟨16,[],[4]⟩) (F:=F) (G:=[]) (an:=.no) (cs:=⟨[0,2,3],[102,103],[]⟩) (ps:=[(4,104)]) (ks:=[.x 104 49 .Source 100104,.r 100104 46 (.st .ay)]) (z:=(fE,[])) (m:=some (fE,[])) rfl rfl trivial (by kernel_rfl) rfl (Fin.then ?_))
 refine ah.aD (u12b s).st rfl ?_
 have l30:(mI r.1).length = DD.n .Source:=DD.len .Source r.1
 have fin:∀ (l:List (Nat × TO DD)) (m:Option (PT DD [] ⊕ PT DD [.b 102 49 (.st .Source),.b 103 33 (.st .Problem)])),m = some (.inr r) → (∀ c,c = ER 3 ((Tryz.f12.body).getD .skip) → gG (BB (mx:=mx)) LL ([]:List (bJ DD pk)) ⟨16,[],[]⟩ F c ((.two (.two (.no) (.two (.two (.hX [⟨0,[],[]⟩,⟨1,[5],[105]⟩,⟨2,[2,12],[102]⟩] [3] []) (.no)) (.no))) (.two (.hX [⟨0,[4],[104]⟩,⟨1,[5],[105]⟩,⟨2,[2,14],[102]⟩] [3] []) (.no)))) ((⟨[],[],[]⟩:Kept).add ⟨[],[],[]⟩) (Dd p l) (fun s'=>if qP s' [] = true then (pj s' (⟨[],[],[]⟩:Kept).r []).bind fun z=>some (.inl z) else none) (fun t s'=>match t with
  | none=>if qP s' [(2,102),(3,103)] = true then (EO s' [.b 102 49 (.st .Source),.b 103 33 (.st .Problem)]).bind fun z=>some (.inr z) else none
  | some _=>none) (fun _ _=>none) = m) → ah Tryz.prog E ⟨16,[],[],[]⟩ (ER 3 ((Tryz.f12.body).getD .skip)) (Dd p l).st (yN Tryz.prog Tryz.f12 E ⟨16,[],[],[]⟩ (Is [] (.kU [.agg (mI r.1),.agg (aR r.2)]))):=fun l m hm hd=>by
  refine denW (fr:=⟨16,[],[]⟩) (F:=F) (G:=[]) (an:=(.two (.two (.no) (.two (.two (.hX [⟨0,[],[]⟩,⟨1,[5],[105]⟩,⟨2,[2,12],[102]⟩] [3] []) (.no)) (.no))) (.two (.hX [⟨0,[4],[104]⟩,⟨1,[5],[105]⟩,⟨2,[2,14],[102]⟩] [3] []) (.no)))) (cs:=⟨[],[],[]⟩) (ps:=[]) (ks:=[]) (ps2:=[(2,102),(3,103)]) (ks2:=[.b 102 49 (.st .Source),.b 103 33 (.st .Problem)]) rfl rfl trivial (hd _ rfl) hm (fun z hz=>by cases hz) (fun z hz=>?_)
  cases hz
  exact Fin.kq [] [.agg (mI r.1),.agg (aR r.2)] (.inl rfl) rfl (.cons (.agg (m:=DD.n .Source) ((BB (mx:=mx)).tok 49 (.st .Source) rfl) rfl rfl (by
   show List.take (DD.n .Source) (List.drop 0 (mI r.1)) = _
   rw [List.drop_zero,← l30,List.take_length]) l30) (.cons (.agg a33 rfl rfl rfl rfl) .nil)) (fun p hp=>by cases hp) ⟨rfl,rfl⟩
 refine ah.seq (ah.ab ?_)
 refine Oc om (Oc (dZ (fs:=[]) (cs:=[.ptr 104 0]) rfl rfl) ?_)
 cases o with
 | none=>
  refine Oc (dv hm ⟨Tryz.call6⟩ rfl ⟨rfl,rfl,trivial⟩ rfl rfl) ?_
  refine aj.aD (u12c p []).st rfl ?_
  refine Ij (fr:=⟨16,[],[]⟩) (cs:=⟨[2,3,4],[102,103],[]⟩) (ps:=[(5,105)]) (ks:=[.b 105 33 (.st .Problem)]) (z:=p) (G:=[]) rfl rfl trivial (by kernel_rfl) (Fin.then ?_)
  refine ah.aD (Dd p []).st rfl ?_
  refine fin [] (if decide (p.E ≠ 0) = true then some (.inr (fE,p)) else none) ?_ (fun c hc=>by subst hc; kernel_rfl)
  simp only [Option.bind_none] at h1
  split at h1
  ·next hE=>cases h1; exact if_pos (decide_eq_true hE)
  ·cases h1
 | some v=>
  refine Oc (dv hm ⟨Tryz.call6⟩ rfl ⟨rfl,rfl,trivial⟩ rfl rfl) ?_
  refine aj.aD (u12c p [(104,.x 49 .Source 104 100104 false v.1),(100104,.row 46 (.st .ay) v.2)]).st rfl ?_
  refine Ij (fr:=⟨16,[],[]⟩) (cs:=⟨[2,3,4],[102,103,104,100104],[]⟩) (ps:=[(5,105)]) (ks:=[.b 105 33 (.st .Problem)]) (z:=p) (G:=[]) rfl rfl trivial (by kernel_rfl) (Fin.then ?_)
  refine ah.aD (Dd p [(104,.x 49 .Source 104 100104 false v.1),(100104,.row 46 (.st .ay) v.2)]).st rfl ?_
  have himp:∀ a w,R E ⟨16,[],[],[]⟩ (Dd p [(104,.x 49 .Source 104 100104 false v.1),(100104,.row 46 (.st .ay) v.2)]).st a w → R E ⟨16,[],[],[]⟩ (impS (D:=DD) 104 100104 49 .Source (.st .ay) v.2 ({ v.1 with Code:=v.2 }:Source) (Dd p [(104,.x 49 .Source 104 100104 false v.1),(100104,.row 46 (.st .ay) v.2)])).st a w:=fun a w hr=>imp_R (L:=LL) (off:=1) rfl rfl (by decide) rfl rfl rfl (by kernel_rfl) hr
  suffices key:ah Tryz.prog E ⟨16,[],[],[]⟩ (ER 3 ((Tryz.f12.body).getD .skip)) (Dd p [(104,.box 49 (.st .Source) { v.1 with Code:=v.2 })]).st (yN Tryz.prog Tryz.f12 E ⟨16,[],[],[]⟩ (Is [] (.kU [.agg (mI r.1),.agg (aR r.2)]))) from fun a w hr=>(ah.aD (Dd p [(104,.box 49 (.st .Source) { v.1 with Code:=v.2 })]).st rfl key) a w (himp a w hr)
  refine fin [(104,.box 49 (.st .Source) { v.1 with Code:=v.2 })] (if decide (p.E ≠ 0) = true then some (.inr (fE,p)) else some (.inr (({ v.1 with Code:=v.2 }:Source),p))) ?_ (fun c hc=>by subst hc; kernel_rfl)
  simp only [Option.bind_some] at h1
  split at h1
  ·next hE=>cases h1; exact if_pos (decide_eq_true hE)
  ·next hE=>cases h1; exact if_neg (by simpa using hE)
theorem lu (F:Nat):av Tryz.prog (aw mx) (iP F):=nH ⟨Tryz.call12⟩ fun a r h=>Ey (mx:=mx) (F:=F) h
end
end Go.Dn
namespace Go.Dn
open Go Go.Sk
open X
set_option linter.unusedVariables false
def b7 (F:Nat) (v0:List Int):Option (List Int):=Option.bind (iter F (fun (x3:Int)=>(bN (decide ((0:Int) < x3)) fun x4=>Option.bind (bn x4 (aH v0 (IntKind.i64.wrap (x3 - (1:Int))))) fun x6=>(if (x4 && (decide (x6 = (0:Int)))) = true then some (.inl (IntKind.i64.wrap (x3 - (1:Int)))) else some (.inr x3)):Option (Int ⊕ Int))) (v0.length:Int)) (fun x10=>Option.bind (sx v0 x10) fun x11=>some x11)
def cW (F:Nat)  : Option bb:=some (⟨true,false,(⟨(0:Int),(0:Int),(0:Int),(0:Int),(0:Int),(0:Int),(0:Int),(0:Int),(0:Int),(0:Int),(0:Int),(0:Int),(0:Int),(0:Int),(0:Int),(0:Int)⟩:aX)⟩:bb)
def cg (F:Nat) (neg:Bool) (v1:List Int):Option bb:=Option.bind (b7 F v1) fun x1=>(if (decide ((32:Int) < (x1.length:Int))) = true then Option.bind (cW F) fun x4=>some x4 else Option.bind (iter F (fun (x8:Int × bb)=>((if (decide (x8.1 < (x1.length:Int))) = true then Option.bind (nC x8.1 (2:Int)) fun x11=>(if (decide (x11 = (0:Int))) = true then Option.bind (oE .i64 x8.1 (2:Int)) fun x13=>Option.bind (oE .i64 x8.1 (2:Int)) fun x14=>Option.bind (aH (aX.al x8.2.W) x14) fun x15=>Option.bind (aH (aX.al x8.2.W) x14) fun x16=>Option.bind (aH x1 x8.1) fun x17=>Option.bind (aH (aX.al x8.2.W) x13) fun x20=>Option.bind (aH (aX.al x8.2.W) x13) fun x21=>some (.inl ((IntKind.i64.wrap (x8.1 + (1:Int))),{ x8.2 with W:=aX.ao ((aX.al x8.2.W).set x13.toNat (IntKind.u32.wrap (x16 + (IntKind.u32.wrap x17)))) })) else Option.bind (oE .i64 x8.1 (2:Int)) fun x23=>Option.bind (oE .i64 x8.1 (2:Int)) fun x24=>Option.bind (aH (aX.al x8.2.W) x24) fun x25=>Option.bind (aH (aX.al x8.2.W) x24) fun x26=>Option.bind (aH x1 x8.1) fun x27=>Option.bind (aH (aX.al x8.2.W) x23) fun x31=>Option.bind (aH (aX.al x8.2.W) x23) fun x32=>some (.inl ((IntKind.i64.wrap (x8.1 + (1:Int))),{ x8.2 with W:=aX.ao ((aX.al x8.2.W).set x23.toNat (IntKind.u32.wrap (x26 + (IntKind.u32.wrap ((IntKind.u32.wrap x27) * (65536:Int)))))) }))) else some (.inr x8.2)):Option ((Int × bb) ⊕ bb))) ((0:Int),(⟨false,(neg && (decide ((0:Int) < (x1.length:Int)))),(⟨(0:Int),(0:Int),(0:Int),(0:Int),(0:Int),(0:Int),(0:Int),(0:Int),(0:Int),(0:Int),(0:Int),(0:Int),(0:Int),(0:Int),(0:Int),(0:Int)⟩:aX)⟩:bb))) (fun x34=>some x34))
def bP (F:Nat) (v0:List Int) (k:Int):Option Int:=(if (decide (k < (v0.length:Int))) = true then Option.bind (aH v0 k) fun x3=>some x3 else some (0:Int))
def iR (F:Nat) (v0:List Int) (b:List Int):Option (List Int):=Option.bind (iter F (fun (x2:Int × Int × (List Int))=>((if (decide (x2.2.1 < (IntKind.i64.wrap ((max (v0.length:Int) (b.length:Int)) + (1:Int))))) = true then Option.bind (bP F v0 x2.2.1) fun x8=>Option.bind (bP F b x2.2.1) fun x9=>bN (IntKind.i64.wrap ((IntKind.i64.wrap (x8 + x9)) + x2.1)) fun x11=>Option.bind (nC x11 (65536:Int)) fun x12=>Option.bind (bV x2.2.2 ([x12]:List Int)) fun x14=>Option.bind (oE .i64 x11 (65536:Int)) fun x15=>some (.inl (x15,(IntKind.i64.wrap (x2.2.1 + (1:Int))),x14)) else some (.inr x2.2.2)):Option ((Int × Int × (List Int)) ⊕ (List Int)))) ((0:Int),(0:Int),([]:List Int))) (fun x17=>Option.bind (b7 F x17) fun x18=>some x18)
def dS (F:Nat) (n:Int):Option bb:=(if (decide ((0:Int) ≤ n)) = true then Option.bind (nC n (65536:Int)) fun x2=>Option.bind (oE .i64 n (65536:Int)) fun x3=>Option.bind (nC x3 (65536:Int)) fun x4=>Option.bind (oE .i64 n (4294967296:Int)) fun x5=>Option.bind (nC x5 (65536:Int)) fun x6=>Option.bind (oE .i64 n (281474976710656:Int)) fun x7=>Option.bind (cg F false ([x2,x4,x6,x7]:List Int)) fun x9=>some x9 else bN (IntKind.i64.wrap (-(IntKind.i64.wrap (n + (1:Int))))) fun x11=>Option.bind (nC x11 (65536:Int)) fun x12=>Option.bind (oE .i64 x11 (65536:Int)) fun x13=>Option.bind (nC x13 (65536:Int)) fun x14=>Option.bind (oE .i64 x11 (4294967296:Int)) fun x15=>Option.bind (nC x15 (65536:Int)) fun x16=>Option.bind (oE .i64 x11 (281474976710656:Int)) fun x17=>Option.bind (iR F ([x12,x14,x16,x17]:List Int) ([(1:Int)]:List Int)) fun x20=>Option.bind (cg F true x20) fun x21=>some x21)
def lM (F:Nat) (x:bb):Option Bool:=Option.bind (iter F (fun (x1:Bool × Int)=>((if (decide (x1.2 < (16:Int))) = true then Option.bind (bn x1.1 (aH (aX.al x.W) x1.2)) fun x3=>Option.bind (bn x1.1 (aH (aX.al x.W) x1.2)) fun x4=>some (.inl ((x1.1 && (decide (x4 = (0:Int)))),(IntKind.i64.wrap (x1.2 + (1:Int))))) else some (.inr x1.1)):Option ((Bool × Int) ⊕ Bool))) (true,(0:Int))) (fun x8=>(if x.Bad = true then some (x8 && (!x.Neg)) else some ((!x8) || (!x.Neg))))
def bG (F:Nat) (x:bb):Option Bool:=Option.bind (lM F x) fun x1=>some (x1 && (!x.Bad))
def bM (F:Nat) (x:bb):Option (List Int):=Option.bind (iter F (fun (x2:Int × (List Int))=>((if (decide (x2.1 < (16:Int))) = true then Option.bind (aH (aX.al x.W) x2.1) fun x4=>Option.bind (aH (aX.al x.W) x2.1) fun x5=>Option.bind (nC x5 (65536:Int)) fun x6=>Option.bind (aH (aX.al x.W) x2.1) fun x8=>Option.bind (aH (aX.al x.W) x2.1) fun x9=>Option.bind (oE .u32 x9 (65536:Int)) fun x10=>Option.bind (bV x2.2 ([(IntKind.i64.wrap x6),(IntKind.i64.wrap x10)]:List Int)) fun x13=>some (.inl ((IntKind.i64.wrap (x2.1 + (1:Int))),x13)) else some (.inr x2.2)):Option ((Int × (List Int)) ⊕ (List Int)))) ((0:Int),([]:List Int))) (fun x15=>Option.bind (b7 F x15) fun x16=>some x16)
def iS (F:Nat) (x:bb):Option Int:=Option.bind (bG F x) fun x1=>bN (!x1) fun x2=>Option.bind (bn (!x2) (bM F x)) fun x3=>(if (x2 || (decide ((x3.length:Int) = (0:Int)))) = true then some (0:Int) else (if x.Neg = true then some (-1:Int) else some (1:Int)))
def nN (F:Nat)  : Option bb:=Option.bind (dS F (1:Int)) fun x1=>some x1
def nO (F:Nat)  : Option dW:=Option.bind (cW F) fun x1=>Option.bind (nN F) fun x2=>some (⟨x1,x2⟩:dW)
def ee (F:Nat) (x:bb):Option (Int × Bool):=Option.bind (bG F x) fun x1=>bN (!x1) fun x2=>Option.bind (bn (!x2) (aH (aX.al x.W) (1:Int))) fun x3=>Option.bind (bn (!x2) (aH (aX.al x.W) (1:Int))) fun x4=>(if (x2 || (decide ((1073741824:Int) ≤ x4))) = true then some ((0:Int),false) else Option.bind (iter F (fun (x7:Int)=>((if (decide (x7 < (16:Int))) = true then Option.bind (aH (aX.al x.W) x7) fun x9=>Option.bind (aH (aX.al x.W) x7) fun x10=>(if (decide (x10 ≠ (0:Int))) = true then some (.inr (.inr ((0:Int),false))) else some (.inl (IntKind.i64.wrap (x7 + (1:Int))))) else some (.inr (.inl ()))):Option (Int ⊕ (Unit ⊕ (Int × Bool))))) (2:Int)) (dX (fun x13=>bN (IntKind.i64.wrap ((IntKind.i64.wrap ((IntKind.i64.wrap x.W.a1) * (4294967296:Int))) + (IntKind.i64.wrap x.W.a0))) fun x17=>(if x.Neg = true then some ((IntKind.i64.wrap (-x17)),true) else some (x17,true))) (fun x19=>some (x19.1,x19.2))))
def nR (F:Nat) (x:bb):Option bb:=Option.bind (bG F x) fun x1=>(if (!x1) = true then Option.bind (cW F) fun x3=>some x3 else Option.bind (bM F x) fun x4=>Option.bind (cg F false x4) fun x5=>some x5)
def fe (F:Nat) (v0:List Int) (k:Int):Option Int:=(if (decide (k < (0:Int))) = true then some (0:Int) else Option.bind (bP F v0 k) fun x2=>some x2)
def lK (F:Nat) (v0:List Int) (b:List Int):Option (List Int):=bN (IntKind.i64.wrap ((IntKind.i64.wrap ((v0.length:Int) + (b.length:Int))) + (1:Int))) fun x5=>Option.bind (mk? (0:Int) x5 x5) fun x6=>Option.bind (iter F (fun (x7:Int × (List Int))=>((if (decide (x7.1 < (v0.length:Int))) = true then Option.bind (iter F (fun (x10:Int × (List Int))=>((if (decide (x10.1 < (b.length:Int))) = true then bN (IntKind.i64.wrap (x7.1 + x10.1)) fun x13=>bN (IntKind.i64.wrap (x7.1 + x10.1)) fun x14=>Option.bind (aH x10.2 x14) fun x15=>Option.bind (aH x10.2 x14) fun x16=>Option.bind (aH v0 x7.1) fun x17=>Option.bind (aH b x10.1) fun x18=>Option.bind (aH x10.2 x13) fun x21=>Option.bind (aH x10.2 x13) fun x22=>some (.inl ((IntKind.i64.wrap (x10.1 + (1:Int))),x10.2.set x13.toNat (IntKind.i64.wrap (x16 + (IntKind.i64.wrap (x17 * x18)))))) else some (.inr x10.2)):Option ((Int × (List Int)) ⊕ (List Int)))) ((0:Int),x7.2)) (fun x24=>Option.bind (iter F (fun (x25:Int × Int × (List Int))=>((if (decide (x25.2.1 < (x25.2.2.length:Int))) = true then Option.bind (aH x25.2.2 x25.2.1) fun x28=>Option.bind (aH x25.2.2 x25.2.1) fun x29=>bN (IntKind.i64.wrap (x29 + x25.1)) fun x30=>Option.bind (nC x30 (65536:Int)) fun x31=>Option.bind (aH x25.2.2 x25.2.1) fun x32=>Option.bind (aH x25.2.2 x25.2.1) fun x33=>Option.bind (oE .i64 x30 (65536:Int)) fun x34=>some (.inl (x34,(IntKind.i64.wrap (x25.2.1 + (1:Int))),x25.2.2.set x25.2.1.toNat x31)) else some (.inr x25.2.2)):Option ((Int × Int × (List Int)) ⊕ (List Int)))) ((0:Int),(0:Int),x24)) (fun x36=>some (.inl ((IntKind.i64.wrap (x7.1 + (1:Int))),x36)))) else some (.inr x7.2)):Option ((Int × (List Int)) ⊕ (List Int)))) ((0:Int),x6)) (fun x38=>Option.bind (b7 F x38) fun x39=>some x39)
def mV (F:Nat) (v0:List Int) (b:List Int):Option Bool:=Option.bind (iter F (fun (x5:Int)=>((if (decide ((0:Int) ≤ x5)) = true then Option.bind (bP F v0 x5) fun x7=>Option.bind (bP F b x5) fun x8=>(if (decide (x7 ≠ x8)) = true then Option.bind (bP F v0 x5) fun x10=>Option.bind (bP F b x5) fun x11=>some (.inr (.inr (decide (x10 < x11)))) else some (.inl (IntKind.i64.wrap (x5 - (1:Int))))) else some (.inr (.inl ()))):Option (Int ⊕ (Unit ⊕ Bool)))) (IntKind.i64.wrap ((max (v0.length:Int) (b.length:Int)) - (1:Int)))) (dX (fun x14=>some false) (fun x15=>some x15))
def hZ (F:Nat) (v0:List Int) (b:List Int):Option (List Int):=Option.bind (iter F (fun (x2:Int × Int × (List Int))=>((if (decide (x2.2.1 < (v0.length:Int))) = true then Option.bind (aH v0 x2.2.1) fun x5=>Option.bind (bP F b x2.2.1) fun x6=>bN (IntKind.i64.wrap ((IntKind.i64.wrap (x5 - x6)) - x2.1)) fun x8=>Option.bind ((if (decide (x8 < (0:Int))) = true then some ((1:Int),(IntKind.i64.wrap (x8 + (65536:Int)))) else some ((0:Int),x8)):Option (Int × Int)) fun x11=>Option.bind (bV x2.2.2 ([x11.2]:List Int)) fun x13=>some (.inl (x11.1,(IntKind.i64.wrap (x2.2.1 + (1:Int))),x13)) else some (.inr x2.2.2)):Option ((Int × Int × (List Int)) ⊕ (List Int)))) ((0:Int),(0:Int),([]:List Int))) (fun x15=>Option.bind (b7 F x15) fun x16=>some x16)
def gT (F:Nat) (v0:List Int) (b:List Int):Option ((List Int) × (List Int)):=bN ((v0.length:Int)) fun x3=>Option.bind (mk? (0:Int) x3 x3) fun x4=>bN ((b.length:Int)) fun x5=>Option.bind (aH b (IntKind.i64.wrap (x5 - (1:Int)))) fun x7=>Option.bind (fe F b (IntKind.i64.wrap (x5 - (2:Int)))) fun x10=>Option.bind (iter F (fun (x15:(List Int) × Int × (List Int))=>((if (decide ((0:Int) ≤ x15.2.1)) = true then Option.bind (aH v0 x15.2.1) fun x17=>Option.bind (bV ([x17]:List Int) x15.1) fun x18=>Option.bind (b7 F x18) fun x19=>Option.bind (fe F x19 x5) fun x20=>Option.bind (fe F x19 (IntKind.i64.wrap (x5 - (1:Int)))) fun x23=>Option.bind (fe F x19 (IntKind.i64.wrap (x5 - (2:Int)))) fun x27=>Option.bind (oE .i64 (IntKind.i64.wrap ((IntKind.i64.wrap ((IntKind.i64.wrap (x20 * (4294967296:Int))) + (IntKind.i64.wrap (x23 * (65536:Int))))) + x27)) (IntKind.i64.wrap ((IntKind.i64.wrap (x7 * (65536:Int))) + x10))) fun x29=>bN (min (65535:Int) x29) fun x30=>Option.bind (lK F b ([x30]:List Int)) fun x32=>Option.bind (iter F (fun (x33:Int × (List Int))=>(Option.bind (mV F x19 x33.2) fun x34=>(if x34 = true then Option.bind (hZ F x33.2 b) fun x36=>some (.inl ((IntKind.i64.wrap (x33.1 - (1:Int))),x36)) else some (.inr (x33.1,x33.2))):Option ((Int × (List Int)) ⊕ (Int × (List Int))))) (x30,x32)) (fun x37=>Option.bind (aH x15.2.2 x15.2.1) fun x38=>Option.bind (aH x15.2.2 x15.2.1) fun x39=>Option.bind (hZ F x19 x37.2) fun x40=>some (.inl (x40,(IntKind.i64.wrap (x15.2.1 - (1:Int))),x15.2.2.set x15.2.1.toNat x37.1))) else some (.inr (x15.1,x15.2.2))):Option (((List Int) × Int × (List Int)) ⊕ ((List Int) × (List Int))))) (([]:List Int),(IntKind.i64.wrap ((v0.length:Int) - (1:Int))),x4)) (fun x42=>Option.bind (b7 F x42.2) fun x43=>some (x43,x42.1))
def nQ (F:Nat) (v0:bb) (b:bb):Option bb:=Option.bind (ee F v0) fun x1=>Option.bind (ee F b) fun x2=>(if (x1.2 && x2.2) = true then Option.bind (iter F (fun (x4:Int × Int)=>((if (decide (x4.2 ≠ (0:Int))) = true then Option.bind (nC x4.1 x4.2) fun x6=>some (.inl (x4.2,x6)) else some (.inr x4.1)):Option ((Int × Int) ⊕ Int))) (x1.1,x2.1)) (fun x7=>Option.bind (dS F x7) fun x8=>Option.bind (nR F x8) fun x9=>some x9) else Option.bind (bG F v0) fun x10=>bN (!x10) fun x11=>Option.bind (bn (!x11) (bG F b)) fun x12=>(if (x11 || (!x12)) = true then Option.bind (cW F) fun x15=>some x15 else Option.bind (bM F v0) fun x16=>Option.bind (bM F b) fun x17=>Option.bind (iter F (fun (x18:(List Int) × (List Int))=>((if (decide ((0:Int) < (x18.2.length:Int))) = true then Option.bind (gT F x18.1 x18.2) fun x21=>some (.inl (x18.2,x21.2)) else some (.inr x18.1)):Option (((List Int) × (List Int)) ⊕ (List Int)))) (x16,x17)) (fun x22=>Option.bind (cg F false x22) fun x23=>some x23)))
def nP (F:Nat) (x:bb):Option bb:=Option.bind (bG F x) fun x1=>(if (!x1) = true then Option.bind (cW F) fun x3=>some x3 else Option.bind (bM F x) fun x5=>Option.bind (cg F (!x.Neg) x5) fun x6=>some x6)
def lL (F:Nat) (n:Int) (m:Int):Option Int:=Option.bind (oE .i64 n m) fun x1=>Option.bind (nC n m) fun x2=>(if ((decide (x2 ≠ (0:Int))) && ((decide (n < (0:Int))) != (decide (m < (0:Int))))) = true then some (IntKind.i64.wrap (x1 - (1:Int))) else some x1)
def jP (F:Nat) (v0:bb) (b:bb):Option bb:=Option.bind (ee F v0) fun x1=>Option.bind (ee F b) fun x2=>(if ((x1.2 && x2.2) && (decide (x2.1 ≠ (0:Int)))) = true then Option.bind (lL F x1.1 x2.1) fun x6=>Option.bind (dS F x6) fun x7=>some x7 else Option.bind (bG F v0) fun x8=>bN (!x8) fun x9=>Option.bind (bn (!x9) (bG F b)) fun x10=>bN ((x9 || (!x10))) fun x12=>Option.bind (bn (!x12) (bM F b)) fun x13=>(if (x12 || (decide ((x13.length:Int) = (0:Int)))) = true then Option.bind (cW F) fun x17=>some x17 else Option.bind (bM F v0) fun x18=>Option.bind (bM F b) fun x19=>Option.bind (gT F x18 x19) fun x20=>Option.bind ((if ((v0.Neg != b.Neg) && (decide ((0:Int) < (x20.2.length:Int)))) = true then Option.bind (iR F x20.1 ([(1:Int)]:List Int)) fun x26=>some x26 else some x20.1):Option ((List Int))) fun x27=>Option.bind (cg F (v0.Neg != b.Neg) x27) fun x29=>some x29))
def mT (F:Nat) (n:bb) (d:bb):Option dW:=Option.bind (bG F n) fun x1=>bN (!x1) fun x2=>Option.bind (bn (!x2) (bG F d)) fun x3=>bN ((x2 || (!x3))) fun x5=>Option.bind (bn (!x5) (iS F d)) fun x6=>(if (x5 || (decide (x6 = (0:Int)))) = true then Option.bind (nO F) fun x9=>some x9 else Option.bind (nQ F n d) fun x10=>Option.bind (Option.bind (iS F d) fun x11=>(if (decide (x11 < (0:Int))) = true then Option.bind (nP F x10) fun x13=>some x13 else some x10):Option (bb)) fun x14=>Option.bind (jP F n x14) fun x15=>Option.bind (jP F d x14) fun x16=>some (⟨x15,x16⟩:dW))
def mU (F:Nat) (v0:Int) (b:Int):Option dW:=Option.bind (dS F v0) fun x1=>Option.bind (dS F b) fun x2=>Option.bind (mT F x1 x2) fun x3=>some x3
def dy (F:Nat) (n:Int) (d:Int) (unit:Str):Option af:=Option.bind (mU F n d) fun x1=>some (⟨(1:Int),x1,unit,([]:Str),([]:List af),(0:Int)⟩:af)
mutual
def iy:Nat → af → Option af
 | 0,_=>none
 | F + 1,x=>Option.bind (fO F x.Args) fun x1=>some ({ x with Args:=x1,At:=(0:Int) })
def fO:Nat → (List af) → Option (List af)
 | 0,_=>none
 | F + 1,v0=>Option.bind (bV ([]:List af) v0) fun x2=>Option.bind (iter F (fun (x4:Int × (List af))=>((if (decide (x4.1 < (x2.length:Int))) = true then Option.bind (aH x4.2 x4.1) fun x6=>Option.bind (aH x4.2 x4.1) fun x7=>Option.bind (iy F x7) fun x8=>Option.bind (aH x4.2 x4.1) fun x9=>Option.bind (aH x4.2 x4.1) fun x10=>some (.inl ((IntKind.i64.wrap (x4.1 + (1:Int))),x4.2.set x4.1.toNat x8)) else some (.inr x4.2)):Option ((Int × (List af)) ⊕ (List af)))) ((0:Int),x2)) (fun x12=>some x12)
end
def jU (F:Nat) (v:ae):Option ae:=Option.bind (iter F (fun (x1:Int × ae)=>((if (decide (x1.1 < (3:Int))) = true then Option.bind (aH (ae.al x1.2) x1.1) fun x3=>Option.bind (aH (ae.al x1.2) x1.1) fun x4=>Option.bind (iy F x4) fun x5=>Option.bind (aH (ae.al x1.2) x1.1) fun x6=>Option.bind (aH (ae.al x1.2) x1.1) fun x7=>some (.inl ((IntKind.i64.wrap (x1.1 + (1:Int))),ae.ao ((ae.al x1.2).set x1.1.toNat x5))) else some (.inr x1.2)):Option ((Int × ae) ⊕ ae))) ((0:Int),v)) (fun x9=>some x9)
def fY (F:Nat) (v0:List ae):Option (List ae):=Option.bind (bV ([]:List ae) v0) fun x2=>Option.bind (iter F (fun (x4:Int × (List ae))=>((if (decide (x4.1 < (x2.length:Int))) = true then Option.bind (aH x4.2 x4.1) fun x6=>Option.bind (aH x4.2 x4.1) fun x7=>Option.bind (jU F x7) fun x8=>Option.bind (aH x4.2 x4.1) fun x9=>Option.bind (aH x4.2 x4.1) fun x10=>some (.inl ((IntKind.i64.wrap (x4.1 + (1:Int))),x4.2.set x4.1.toNat x8)) else some (.inr x4.2)):Option ((Int × (List ae)) ⊕ (List ae)))) ((0:Int),x2)) (fun x12=>some x12)
def lx (F:Nat) (p:bj):Option bj:=Option.bind (jU F p.X) fun x1=>some (⟨x1,p.Turn⟩:bj)
def oZ (F:Nat) (f:aK):Option aK:=Option.bind (fO F f.X) fun x1=>Option.bind (fY F f.Points) fun x2=>Option.bind (lx F f.Pose) fun x3=>some (⟨f.Kind,x1,x2,x3,(0:Int)⟩:aK)
def lR (F:Nat) (v0:List aK):Option (List aK):=Option.bind (bV ([]:List aK) v0) fun x2=>Option.bind (iter F (fun (x4:Int × (List aK))=>((if (decide (x4.1 < (x2.length:Int))) = true then Option.bind (aH x4.2 x4.1) fun x6=>Option.bind (aH x4.2 x4.1) fun x7=>Option.bind (oZ F x7) fun x8=>Option.bind (aH x4.2 x4.1) fun x9=>Option.bind (aH x4.2 x4.1) fun x10=>some (.inl ((IntKind.i64.wrap (x4.1 + (1:Int))),x4.2.set x4.1.toNat x8)) else some (.inr x4.2)):Option ((Int × (List aK)) ⊕ (List aK)))) ((0:Int),x2)) (fun x12=>some x12)
def pS (F:Nat) (x:aV):Option aV:=Option.bind (fO F x.X) fun x1=>Option.bind (fY F x.Points) fun x2=>Option.bind (lR F x.Fields) fun x3=>some ({ x with X:=x1,Points:=x2,Fields:=x3,At:=(0:Int) })
def nc (F:Nat) (v0:List aV):Option (List aV):=Option.bind (bV ([]:List aV) v0) fun x2=>Option.bind (iter F (fun (x4:Int × (List aV))=>((if (decide (x4.1 < (x2.length:Int))) = true then Option.bind (aH x4.2 x4.1) fun x6=>Option.bind (aH x4.2 x4.1) fun x7=>Option.bind (pS F x7) fun x8=>Option.bind (aH x4.2 x4.1) fun x9=>Option.bind (aH x4.2 x4.1) fun x10=>some (.inl ((IntKind.i64.wrap (x4.1 + (1:Int))),x4.2.set x4.1.toNat x8)) else some (.inr x4.2)):Option ((Int × (List aV)) ⊕ (List aV)))) ((0:Int),x2)) (fun x12=>some x12)
def na (F:Nat) (v0:List bj):Option (List bj):=Option.bind (bV ([]:List bj) v0) fun x2=>Option.bind (iter F (fun (x4:Int × (List bj))=>((if (decide (x4.1 < (x2.length:Int))) = true then Option.bind (aH x4.2 x4.1) fun x6=>Option.bind (aH x4.2 x4.1) fun x7=>Option.bind (lx F x7) fun x8=>Option.bind (aH x4.2 x4.1) fun x9=>Option.bind (aH x4.2 x4.1) fun x10=>some (.inl ((IntKind.i64.wrap (x4.1 + (1:Int))),x4.2.set x4.1.toNat x8)) else some (.inr x4.2)):Option ((Int × (List bj)) ⊕ (List bj)))) ((0:Int),x2)) (fun x12=>some x12)
mutual
def pR:Nat → ay → Option ay
 | 0,_=>none
 | F + 1,x=>Option.bind (iy F x.X) fun x1=>Option.bind (fN F x.Body) fun x2=>Option.bind (fN F x.Else) fun x3=>Option.bind (na F x.Poses) fun x4=>some (⟨x.Kind,x.Op,x.Name,x1,x2,x3,x4,(0:Int)⟩:ay)
def fN:Nat → (List ay) → Option (List ay)
 | 0,_=>none
 | F + 1,v0=>Option.bind (bV ([]:List ay) v0) fun x2=>Option.bind (iter F (fun (x4:Int × (List ay))=>((if (decide (x4.1 < (x2.length:Int))) = true then Option.bind (aH x4.2 x4.1) fun x6=>Option.bind (aH x4.2 x4.1) fun x7=>Option.bind (pR F x7) fun x8=>Option.bind (aH x4.2 x4.1) fun x9=>Option.bind (aH x4.2 x4.1) fun x10=>some (.inl ((IntKind.i64.wrap (x4.1 + (1:Int))),x4.2.set x4.1.toNat x8)) else some (.inr x4.2)):Option ((Int × (List ay)) ⊕ (List ay)))) ((0:Int),x2)) (fun x12=>some x12)
end
def uq (F:Nat) (x:Source):Option Source:=Option.bind (nc F x.Items) fun x1=>Option.bind (fN F x.Code) fun x2=>some (⟨x1,x2⟩:Source)
mutual
def ct:Nat → af → af → Option Bool
 | 0,_,_=>none
 | F + 1,v0,b=>bN ((((((decide (v0.Op = b.Op)) && (decide (v0.V = b.V))) && (decide (v0.Unit = b.Unit))) && (decide (v0.Name = b.Name))) && (decide (v0.At = b.At)))) fun x9=>Option.bind (bn x9 (dK F v0.Args b.Args)) fun x10=>some (x9 && x10)
def dK:Nat → (List af) → (List af) → Option Bool
 | 0,_,_=>none
 | F + 1,v0,b=>(if (decide ((v0.length:Int) ≠ (b.length:Int))) = true then some false else Option.bind (iter F (fun (x4:Int)=>((if (decide (x4 < (v0.length:Int))) = true then Option.bind (aH v0 x4) fun x7=>Option.bind (aH b x4) fun x8=>Option.bind (ct F x7 x8) fun x9=>(if (!x9) = true then some (.inr (.inr false)) else some (.inl (IntKind.i64.wrap (x4 + (1:Int))))) else some (.inr (.inl ()))):Option (Int ⊕ (Unit ⊕ Bool)))) (0:Int)) (dX (fun x12=>some true) (fun x13=>some x13)))
end
def dD (F:Nat) (v0:ae) (b:ae):Option Bool:=Option.bind (ct F v0.a0 b.a0) fun x1=>Option.bind (bn x1 (aH (ae.al v0) (1:Int))) fun x2=>Option.bind (bn x1 (aH (ae.al v0) (1:Int))) fun x3=>Option.bind (bn x1 (aH (ae.al b) (1:Int))) fun x4=>Option.bind (bn x1 (aH (ae.al b) (1:Int))) fun x5=>Option.bind (bn x1 (ct F x3 x5)) fun x6=>bN ((x1 && x6)) fun x7=>Option.bind (bn x7 (aH (ae.al v0) (2:Int))) fun x8=>Option.bind (bn x7 (aH (ae.al v0) (2:Int))) fun x9=>Option.bind (bn x7 (aH (ae.al b) (2:Int))) fun x10=>Option.bind (bn x7 (aH (ae.al b) (2:Int))) fun x11=>Option.bind (bn x7 (ct F x9 x11)) fun x12=>some (x7 && x12)
def fi (F:Nat) (v0:List ae) (b:List ae):Option Bool:=(if (decide ((v0.length:Int) ≠ (b.length:Int))) = true then some false else Option.bind (iter F (fun (x4:Int)=>((if (decide (x4 < (v0.length:Int))) = true then Option.bind (aH v0 x4) fun x7=>Option.bind (aH b x4) fun x8=>Option.bind (dD F x7 x8) fun x9=>(if (!x9) = true then some (.inr (.inr false)) else some (.inl (IntKind.i64.wrap (x4 + (1:Int))))) else some (.inr (.inl ()))):Option (Int ⊕ (Unit ⊕ Bool)))) (0:Int)) (dX (fun x12=>some true) (fun x13=>some x13)))
def jc (F:Nat) (v0:List aK) (b:List aK):Option Bool:=(if (decide ((v0.length:Int) ≠ (b.length:Int))) = true then some false else Option.bind (iter F (fun (x4:Int)=>((if (decide (x4 < (v0.length:Int))) = true then Option.bind (aH v0 x4) fun x7=>Option.bind (aH b x4) fun x8=>bN (((decide (x7.Kind ≠ x8.Kind)) || (decide (x7.At ≠ x8.At)))) fun x11=>Option.bind (bn (!x11) (dK F x7.X x8.X)) fun x12=>bN ((x11 || (!x12))) fun x14=>Option.bind (bn (!x14) (fi F x7.Points x8.Points)) fun x15=>bN (((x14 || (!x15)) || (!(decide (x7.Pose.Turn = x8.Pose.Turn))))) fun x19=>Option.bind (bn (!x19) (dD F x7.Pose.X x8.Pose.X)) fun x20=>(if (x19 || (!x20)) = true then some (.inr (.inr false)) else some (.inl (IntKind.i64.wrap (x4 + (1:Int))))) else some (.inr (.inl ()))):Option (Int ⊕ (Unit ⊕ Bool)))) (0:Int)) (dX (fun x24=>some true) (fun x25=>some x25)))
def dJ:Nat → (List ay) → (List ay) → Option Bool
 | 0,_,_=>none
 | F + 1,v0,b=>(if (decide ((v0.length:Int) ≠ (b.length:Int))) = true then some false else Option.bind (iter F (fun (x4:Int)=>((if (decide (x4 < (v0.length:Int))) = true then Option.bind (aH v0 x4) fun x7=>Option.bind (aH b x4) fun x8=>bN (((((decide (x7.Kind ≠ x8.Kind)) || (decide (x7.Op ≠ x8.Op))) || (decide (x7.Name ≠ x8.Name))) || (decide (x7.At ≠ x8.At)))) fun x15=>Option.bind (bn (!x15) (ct F x7.X x8.X)) fun x16=>bN ((x15 || (!x16))) fun x18=>Option.bind (bn (!x18) (dJ F x7.Body x8.Body)) fun x19=>bN ((x18 || (!x19))) fun x21=>Option.bind (bn (!x21) (dJ F x7.Else x8.Else)) fun x22=>(if ((x21 || (!x22)) || (decide ((x7.Poses.length:Int) ≠ (x8.Poses.length:Int)))) = true then some (.inr (.inr false)) else Option.bind (iter F (fun (x29:Int)=>((if (decide (x29 < (x7.Poses.length:Int))) = true then Option.bind (aH x7.Poses x29) fun x32=>Option.bind (aH x8.Poses x29) fun x33=>bN (!(decide (x32.Turn = x33.Turn))) fun x34=>Option.bind (bn (!x34) (aH x7.Poses x29)) fun x35=>Option.bind (bn (!x34) (aH x8.Poses x29)) fun x36=>Option.bind (bn (!x34) (dD F x35.X x36.X)) fun x37=>(if (x34 || (!x37)) = true then some (.inr (.inr false)) else some (.inl (IntKind.i64.wrap (x29 + (1:Int))))) else some (.inr (.inl ()))):Option (Int ⊕ (Unit ⊕ Bool)))) (0:Int)) (dX (fun x41=>some (.inl (IntKind.i64.wrap (x4 + (1:Int))))) (fun x43=>some (.inr (.inr x43))))) else some (.inr (.inl ()))):Option (Int ⊕ (Unit ⊕ Bool)))) (0:Int)) (dX (fun x44=>some true) (fun x45=>some x45)))
def mS (F:Nat) (v0:Source) (b:Source):Option Bool:=(if (decide ((v0.Items.length:Int) ≠ (b.Items.length:Int))) = true then some false else Option.bind (iter F (fun (x4:Int)=>((if (decide (x4 < (v0.Items.length:Int))) = true then Option.bind (aH v0.Items x4) fun x7=>Option.bind (aH b.Items x4) fun x8=>bN (((((((decide (x7.Kind ≠ x8.Kind)) || (decide (x7.Thing ≠ x8.Thing))) || (decide (x7.Name ≠ x8.Name))) || (decide (x7.A ≠ x8.A))) || (decide (x7.B ≠ x8.B))) || (decide (x7.At ≠ x8.At)))) fun x19=>Option.bind (bn (!x19) (dK F x7.X x8.X)) fun x20=>bN ((x19 || (!x20))) fun x22=>Option.bind (bn (!x22) (fi F x7.Points x8.Points)) fun x23=>bN ((x22 || (!x23))) fun x25=>Option.bind (bn (!x25) (jc F x7.Fields x8.Fields)) fun x26=>(if (x25 || (!x26)) = true then some (.inr (.inr false)) else some (.inl (IntKind.i64.wrap (x4 + (1:Int))))) else some (.inr (.inl ()))):Option (Int ⊕ (Unit ⊕ Bool)))) (0:Int)) (dX (fun x30=>Option.bind (dJ F v0.Code b.Code) fun x31=>some x31) (fun x32=>some x32)))
def ia (F:Nat) (s:Str) (want:Source):Option Bool:=Option.bind (gu F s) fun x1=>bN (decide (x1.2 = (⟨(0:Int),(0:Int)⟩:Problem))) fun x2=>Option.bind (bn x2 (uq F x1.1)) fun x3=>Option.bind (bn x2 (mS F x3 want)) fun x4=>some (x2 && x4)
def eP (F:Nat) (c:Int) (b1:aB) (b2:List Int):Option (Unit × aB × (List Int)):=Option.bind (Ft F b1 b2) fun x1=>Option.bind (bV x1.2 ([c]:List Int)) fun x3=>some ((),x1.1,x3)
def dV (F:Nat) (b1:aB) (b2:List Int):Option (aB × (List Int)):=Option.bind (eP F (10:Int) b1 b2) fun x1=>some ({ x1.2.1 with fresh:=true,brace:=false },x1.2.2)
def dF (F:Nat) (s:Str) (b1:aB) (b2:List Int):Option (Int × Unit × aB × (List Int)):=Option.bind (Ft F b1 b2) fun x1=>Option.bind (Br x1.2 s) fun x2=>some ((s.length:Int),(),x1.1,x2)
def aL (F:Nat) (v1:List Str) (b1:aB) (b2:List Int):Option (aB × (List Int)):=Option.bind (iter F (fun (x2:Int × aB × (List Int))=>((if (decide (x2.1 < (v1.length:Int))) = true then Option.bind (aH v1 x2.1) fun x4=>Option.bind ((if (x2.2.1.brace && (decide (x4 ≠ ([101,108,115,101]:Str)))) = true then Option.bind (dV F x2.2.1 x2.2.2) fun x7=>some (x7.1,x7.2) else some (x2.2.1,x2.2.2)):Option (aB × (List Int))) fun x8=>Option.bind ((if (decide (x4 = ([125]:Str))) = true then some ({ x8.1 with depth:=(IntKind.i64.wrap (x8.1.depth - (1:Int))),brace:=false }) else some ({ x8.1 with brace:=false })):Option (aB)) fun x11=>Option.bind ((if x11.fresh = true then Option.bind (eV F ([32,32]:Str) x11.depth) fun x12=>Option.bind (dF F x12 x11 x8.2) fun x13=>some (x13.2.2.1,x13.2.2.2) else (if ((((!x11.close) && (decide (x4 ≠ ([41]:Str)))) && (decide (x4 ≠ ([44]:Str)))) && (decide (x4 ≠ ([59]:Str)))) = true then Option.bind (eP F (32:Int) x11 x8.2) fun x21=>some (x21.2.1,x21.2.2) else some (x11,x8.2))):Option (aB × (List Int))) fun x22=>Option.bind (dF F x4 x22.1 x22.2) fun x23=>bN (decide (x4 = ([40]:Str))) fun x24=>bN (decide (x4 = ([125]:Str))) fun x25=>Option.bind ((if (decide (x4 = ([123]:Str))) = true then some (⟨x23.2.2.1.w,x23.2.2.1.buf,(IntKind.i64.wrap (x23.2.2.1.depth + (1:Int))),false,x24,x25,x23.2.2.1.bad⟩:aB) else some ({ x23.2.2.1 with fresh:=false,close:=x24,brace:=x25 })):Option (aB)) fun x28=>(if ((decide (x4 = ([123]:Str))) || (decide (x4 = ([59]:Str)))) = true then Option.bind (dV F x28 x23.2.2.2) fun x32=>some (.inl ((IntKind.i64.wrap (x2.1 + (1:Int))),x32.1,x32.2)) else some (.inl ((IntKind.i64.wrap (x2.1 + (1:Int))),x28,x23.2.2.2))) else some (.inr (x2.2.1,x2.2.2))):Option ((Int × aB × (List Int)) ⊕ (aB × (List Int))))) ((0:Int),b1,b2)) (fun x35=>some (x35.1,x35.2))
def c8 (F:Nat) (ok:Bool) (b1:aB) (b2:List Int):Option (aB × (List Int)):=some ({ b1 with bad:=(b1.bad || (!ok)) },b2)
def rW (F:Nat) (s:Str):Option Bool:=Option.bind (ed F s) fun x1=>bN (((decide (x1.2.E = (0:Int))) && (decide ((x1.1.length:Int) = (1:Int))))) fun x5=>Option.bind (bn x5 (aH x1.1 (0:Int))) fun x6=>bN ((x5 && (decide (x6.Kind = (2:Int))))) fun x8=>Option.bind (bn x8 (aH x1.1 (0:Int))) fun x9=>some (x8 && (decide (x9.S = s)))
def ic (F:Nat) (s:Str) (b1:aB) (b2:List Int):Option (aB × (List Int)):=Option.bind (rW F s) fun x1=>Option.bind (c8 F x1 b1 b2) fun x2=>Option.bind (aL F ([s]:List Str) x2.1 x2.2) fun x4=>some (x4.1,x4.2)
def rV (F:Nat) (op:Int):Option Str:=some ((dU ([((5:Int),([43]:Str)),((6:Int),([45]:Str)),((7:Int),([42]:Str)),((8:Int),([47]:Str)),((10:Int),([60]:Str)),((11:Int),([62,61]:Str)),((12:Int),([62]:Str)),((13:Int),([60,61]:Str)),((14:Int),([61,61]:Str)),((15:Int),([33,61]:Str)),((16:Int),([97,110,100]:Str)),((17:Int),([111,114]:Str))]:List (Int × Str)) op).getD ([]:Str))
def rm (F:Nat) (x:dW):Option Bool:=Option.bind (ln F x.N) fun x1=>Option.bind (bn x1 (ln F x.D)) fun x2=>bN ((x1 && x2)) fun x3=>Option.bind (bn x3 (jt F x.D)) fun x4=>bN ((x3 && (decide ((0:Int) < x4)))) fun x6=>Option.bind (bn x6 (sQ F x.N x.D)) fun x7=>Option.bind (bn x6 (pJ F)) fun x8=>some (x6 && (decide (x7 = x8)))
def wh (F:Nat) (x:dW):Option Int:=Option.bind (rm F x) fun x1=>(if (!x1) = true then some (0:Int) else Option.bind (jt F x.N) fun x3=>some x3)
def uj (F:Nat) (n:bb):Option dW:=Option.bind (pJ F) fun x1=>Option.bind (rl F n x1) fun x2=>some x2
def Af (F:Nat) (n:Int):Option dW:=Option.bind (fW F n) fun x1=>Option.bind (uj F x1) fun x2=>some x2
def qD (F:Nat) (x:dW):Option Str:=Option.bind (rm F x) fun x1=>bN (!x1) fun x2=>Option.bind (bn (!x2) (wh F x)) fun x3=>(if (x2 || (decide (x3 < (0:Int)))) = true then some ([]:Str) else Option.bind (iter F (fun (x6:Unit)=>((if (decide ((0:Int) < (41:Int))) = true then Option.bind (fW F (1:Int)) fun x8=>(if (!(decide (x.D = x8))) = true then Option.bind (Af F (10:Int)) fun x10=>none else Option.bind (oq F x.N) fun x11=>Option.bind (eV F ([48]:Str) (max (0:Int) (IntKind.i64.wrap ((IntKind.i64.wrap ((0:Int) + (1:Int))) - (x11.length:Int))))) fun x16=>Option.bind (bV x16 x11) fun x17=>(if (decide ((40:Int) < (x17.length:Int))) = true then some (.inr (.inr ([]:Str))) else (if (decide ((0:Int) = (0:Int))) = true then some (.inr (.inr x17)) else Option.bind (sx x17 (IntKind.i64.wrap ((x17.length:Int) - (0:Int)))) fun x23=>Option.bind (bV x23 ([46]:Str)) fun x24=>Option.bind (rP x17 (IntKind.i64.wrap ((x17.length:Int) - (0:Int)))) fun x27=>Option.bind (bV x24 x27) fun x28=>some (.inr (.inr x28))))) else some (.inr (.inl ()))):Option (Unit ⊕ (Unit ⊕ Str)))) ()) (dX (fun x29=>some ([]:Str)) (fun x30=>some x30)))
mutual
def cT:Nat → af → aB → (List Int) → Option (aB × (List Int))
 | 0,_,_,_=>none
 | F + 1,x,b1,b2=>(if (decide (x.Op < (5:Int))) = true then Option.bind (dP F x b1 b2) fun x2=>some (x2.1,x2.2) else Option.bind (aL F ([([40]:Str)]:List Str) b1 b2) fun x4=>Option.bind (dP F x x4.1 x4.2) fun x5=>Option.bind (aL F ([([41]:Str)]:List Str) x5.1 x5.2) fun x7=>some (x7.1,x7.2))
def dP:Nat → af → aB → (List Int) → Option (aB × (List Int))
 | 0,_,_,_=>none
 | F + 1,x,b1,b2=>bN (decide (x.Op = (1:Int))) fun x1=>Option.bind (c8 F ((x1 || ((decide (x.V = (⟨(⟨false,false,(⟨(0:Int),(0:Int),(0:Int),(0:Int),(0:Int),(0:Int),(0:Int),(0:Int),(0:Int),(0:Int),(0:Int),(0:Int),(0:Int),(0:Int),(0:Int),(0:Int)⟩:aX)⟩:bb),(⟨false,false,(⟨(0:Int),(0:Int),(0:Int),(0:Int),(0:Int),(0:Int),(0:Int),(0:Int),(0:Int),(0:Int),(0:Int),(0:Int),(0:Int),(0:Int),(0:Int),(0:Int)⟩:aX)⟩:bb)⟩:dW))) && (decide (x.Unit = ([]:Str))))) && ((decide (x.Op = (2:Int))) || (decide (x.Name = ([]:Str))))) b1 b2) fun x10=>Option.bind (rV F x.Op) fun x11=>Option.bind ((if (decide (x11 ≠ ([]:Str))) = true then some (2:Int) else Option.bind (bN (decide (x.Op = (9:Int))) fun x13=>(if x13 = true then some x13 else some (decide (x.Op = (18:Int)))):Option (Bool)) fun x15=>(if x15 = true then some (1:Int) else some (0:Int))):Option (Int)) fun x16=>Option.bind (c8 F (decide ((x.Args.length:Int) = x16)) x10.1 x10.2) fun x19=>(if (decide ((x.Args.length:Int) ≠ x16)) = true then some (x19.1,x19.2) else (if x1 = true then Option.bind (qD F x.V) fun x22=>bN (decide (x22 ≠ ([]:Str))) fun x23=>Option.bind (bn x23 (kA F x.Unit)) fun x24=>Option.bind (c8 F (x23 && x24) x19.1 x19.2) fun x26=>Option.bind (aL F ([x22]:List Str) x26.1 x26.2) fun x28=>(if (decide (x.Unit ≠ ([]:Str))) = true then Option.bind (bV ([91]:Str) x.Unit) fun x30=>Option.bind (bV x30 ([93]:Str)) fun x31=>Option.bind (aL F ([x31]:List Str) x28.1 x28.2) fun x33=>some (x33.1,x33.2) else some (x28.1,x28.2)) else (if (decide (x.Op = (2:Int))) = true then Option.bind (ic F x.Name x19.1 x19.2) fun x35=>some (x35.1,x35.2) else (if (decide (x.Op = (3:Int))) = true then Option.bind (aL F ([([116,114,117,101]:Str)]:List Str) x19.1 x19.2) fun x38=>some (x38.1,x38.2) else (if (decide (x.Op = (4:Int))) = true then Option.bind (aL F ([([102,97,108,115,101]:Str)]:List Str) x19.1 x19.2) fun x41=>some (x41.1,x41.2) else (if (decide (x.Op = (9:Int))) = true then Option.bind (aL F ([([45]:Str)]:List Str) x19.1 x19.2) fun x44=>Option.bind (aH x.Args (0:Int)) fun x45=>Option.bind (cT F x45 ({ x44.1 with close:=true }) x44.2) fun x46=>some (x46.1,x46.2) else (if (decide (x.Op = (18:Int))) = true then Option.bind (aL F ([([110,111,116]:Str)]:List Str) x19.1 x19.2) fun x49=>Option.bind (aH x.Args (0:Int)) fun x50=>Option.bind (cT F x50 x49.1 x49.2) fun x51=>some (x51.1,x51.2) else (if (decide (x11 ≠ ([]:Str))) = true then Option.bind (aH x.Args (0:Int)) fun x53=>Option.bind (cT F x53 x19.1 x19.2) fun x54=>Option.bind (aL F ([x11]:List Str) x54.1 x54.2) fun x56=>Option.bind (aH x.Args (1:Int)) fun x57=>Option.bind (cT F x57 x56.1 x56.2) fun x58=>some (x58.1,x58.2) else some ({ x19.1 with bad:=true },x19.2)))))))))
end
mutual
def gU:Nat → (List ay) → aB → (List Int) → Option (aB × (List Int))
 | 0,_,_,_=>none
 | F + 1,v1,b1,b2=>Option.bind (aL F ([([123]:Str)]:List Str) b1 b2) fun x2=>Option.bind (iter F (fun (x4:Int × aB × (List Int))=>((if (decide (x4.1 < (v1.length:Int))) = true then Option.bind (aH v1 x4.1) fun x6=>Option.bind (fq F x6 x4.2.1 x4.2.2) fun x7=>some (.inl ((IntKind.i64.wrap (x4.1 + (1:Int))),x7.1,x7.2)) else some (.inr (x4.2.1,x4.2.2))):Option ((Int × aB × (List Int)) ⊕ (aB × (List Int))))) ((0:Int),x2.1,x2.2)) (fun x9=>Option.bind (aL F ([([125]:Str)]:List Str) x9.1 x9.2) fun x11=>some (x11.1,x11.2))
def fq:Nat → ay → aB → (List Int) → Option (aB × (List Int))
 | 0,_,_,_=>none
 | F + 1,x,b1,b2=>bN (((decide (x.Kind = (3:Int))) || (decide (x.Kind = (4:Int))))) fun x6=>Option.bind (c8 F (((((decide (x.Kind = (5:Int))) || ((decide (x.Op = (0:Int))) && (decide ((x.Poses.length:Int) = (0:Int))))) && (x6 || (decide ((x.Body.length:Int) = (0:Int))))) && ((decide (x.Kind = (4:Int))) || (decide ((x.Else.length:Int) = (0:Int))))) && ((!x6) || (decide (x.Name = ([]:Str))))) b1 b2) fun x26=>Option.bind ((if ((decide (x.Kind = (1:Int))) || (decide (x.Kind = (2:Int)))) = true then Option.bind (aL F ([((dU ([((1:Int),([108,101,116]:Str)),((2:Int),([115,101,116]:Str))]:List (Int × Str)) x.Kind).getD ([]:Str))]:List Str) x26.1 x26.2) fun x29=>Option.bind (ic F x.Name x29.1 x29.2) fun x30=>Option.bind (aL F ([([61]:Str)]:List Str) x30.1 x30.2) fun x32=>Option.bind (dP F x.X x32.1 x32.2) fun x33=>some (.inl (x33.1,x33.2)) else (if x6 = true then Option.bind (aL F ([((dU ([((3:Int),([114,101,112,101,97,116]:Str)),((4:Int),([105,102]:Str))]:List (Int × Str)) x.Kind).getD ([]:Str))]:List Str) x26.1 x26.2) fun x36=>Option.bind (dP F x.X x36.1 x36.2) fun x37=>Option.bind (gU F x.Body x37.1 x37.2) fun x38=>bN (decide ((x.Else.length:Int) = (1:Int))) fun x40=>Option.bind (bn x40 (aH x.Else (0:Int))) fun x41=>(if (x40 && (decide (x41.Kind = (4:Int)))) = true then Option.bind (aL F ([([101,108,115,101]:Str)]:List Str) x38.1 x38.2) fun x45=>Option.bind (aH x.Else (0:Int)) fun x46=>Option.bind (fq F x46 x45.1 x45.2) fun x47=>some (.inr (x47.1,x47.2)) else (if (decide ((0:Int) < (x.Else.length:Int))) = true then Option.bind (aL F ([([101,108,115,101]:Str)]:List Str) x38.1 x38.2) fun x51=>Option.bind (gU F x.Else x51.1 x51.2) fun x52=>some (.inr (x52.1,x52.2)) else some (.inr (x38.1,x38.2)))) else (if (decide (x.Kind = (5:Int))) = true then none else some (.inl ({ x26.1 with bad:=true },x26.2))))):Option ((aB × (List Int)) ⊕ (aB × (List Int)))) (dX (fun x54=>Option.bind (aL F ([([59]:Str)]:List Str) x54.1 x54.2) fun x56=>some (x56.1,x56.2)) (fun x57=>some (x57.1,x57.2)))
end
def iz (F:Nat) (b1:aB) (b2:List Int):Option (Str × aB × (List Int)):=Option.bind (Dg (!b2.isEmpty)) fun x1=>Option.bind (Dg (decide ((b2.length:Int) = (b2.length:Int)) && !b2.isEmpty)) fun x3=>some ((toStr b2),b1,([]:List Int))
def qE (F:Nat) (s:Str):Option Problem:=Option.bind (gu F s) fun x1=>some x1.2
def lQ (F:Nat) (b1:aB) (b2:List Int):Option (Str × Int × aB × (List Int)):=Option.bind ((if b1.brace = true then Option.bind (dV F b1 b2) fun x1=>some (x1.1,x1.2) else some (b1,b2)):Option (aB × (List Int))) fun x2=>Option.bind (iz F x2.1 x2.2) fun x3=>(if x3.2.1.bad = true then some (([]:Str),(3:Int),x3.2.1,x3.2.2) else Option.bind (qE F x3.1) fun x4=>(if (decide (x4.E ≠ (0:Int))) = true then some (([]:Str),(2:Int),x3.2.1,x3.2.2) else some (x3.1,(0:Int),x3.2.1,x3.2.2)))
def sX (F:Nat) (x:Source):Option (Str × Int):=Option.bind (aL F ([([121,97,114,100]:Str),([123]:Str)]:List Str) (⟨false,([]:List Int),(0:Int),true,false,false,false⟩:aB) ([]:List Int)) fun x2=>Option.bind (iter F (fun (x4:Unit)=>((if (decide ((0:Int) < (x.Items.length:Int))) = true then Option.bind (aH x.Items (0:Int)) fun x6=>none else some (.inr ())):Option (Unit ⊕ Unit))) ()) (fun x7=>Option.bind (aL F ([([125]:Str)]:List Str) x2.1 x2.2) fun x9=>Option.bind (iter F (fun (x11:Int × aB × (List Int))=>((if (decide (x11.1 < (x.Code.length:Int))) = true then Option.bind (aH x.Code x11.1) fun x13=>Option.bind (fq F x13 x11.2.1 x11.2.2) fun x14=>some (.inl ((IntKind.i64.wrap (x11.1 + (1:Int))),x14.1,x14.2)) else some (.inr (x11.2.1,x11.2.2))):Option ((Int × aB × (List Int)) ⊕ (aB × (List Int))))) ((0:Int),x9.1,x9.2)) (fun x16=>Option.bind (lQ F x16.1 x16.2) fun x17=>some (x17.1,x17.2.1)))
def eD (F:Nat) (s:Str) (pos:Int) (e:Int):Option Bool:=Option.bind (gu F s) fun x1=>some (decide (x1.2 = (⟨pos,e⟩:Problem)))
def dx (F:Nat)  : Option Bool:=Option.bind (dy F (2:Int) (1:Int) ([]:Str)) fun x1=>Option.bind (dy F (3:Int) (1:Int) ([]:Str)) fun x2=>Option.bind (dy F (1:Int) (1:Int) ([]:Str)) fun x4=>bN (([(⟨(1:Int),(0:Int),([97]:Str),(⟨(5:Int),(⟨(⟨false,false,(⟨(0:Int),(0:Int),(0:Int),(0:Int),(0:Int),(0:Int),(0:Int),(0:Int),(0:Int),(0:Int),(0:Int),(0:Int),(0:Int),(0:Int),(0:Int),(0:Int)⟩:aX)⟩:bb),(⟨false,false,(⟨(0:Int),(0:Int),(0:Int),(0:Int),(0:Int),(0:Int),(0:Int),(0:Int),(0:Int),(0:Int),(0:Int),(0:Int),(0:Int),(0:Int),(0:Int),(0:Int)⟩:aX)⟩:bb)⟩:dW),([]:Str),([]:Str),([x4,(⟨(7:Int),(⟨(⟨false,false,(⟨(0:Int),(0:Int),(0:Int),(0:Int),(0:Int),(0:Int),(0:Int),(0:Int),(0:Int),(0:Int),(0:Int),(0:Int),(0:Int),(0:Int),(0:Int),(0:Int)⟩:aX)⟩:bb),(⟨false,false,(⟨(0:Int),(0:Int),(0:Int),(0:Int),(0:Int),(0:Int),(0:Int),(0:Int),(0:Int),(0:Int),(0:Int),(0:Int),(0:Int),(0:Int),(0:Int),(0:Int)⟩:aX)⟩:bb)⟩:dW),([]:Str),([]:Str),([x1,x2]:List af),(0:Int)⟩:af)]:List af),(0:Int)⟩:af),([]:List ay),([]:List ay),([]:List bj),(0:Int)⟩:ay)]:List ay)) fun x6=>Option.bind (dy F (981:Int) (100:Int) ([109,47,115,94,50]:Str)) fun x7=>Option.bind (ia F ([121,97,114,100,32,123,32,125,32,108,101,116,32,97,32,61,32,49,32,43,32,50,32,42,32,51,59]:Str) (⟨([]:List aV),x6⟩:Source)) fun x11=>Option.bind (bn x11 (ia F ([121,97,114,100,32,123,32,103,114,97,118,105,116,121,32,57,46,56,49,32,91,109,47,115,94,50,93,59,32,125,32,112,97,117,115,101,59]:Str) (⟨([(⟨(1:Int),(0:Int),([]:Str),([]:Str),([]:Str),([x7]:List af),([]:List ae),([]:List aK),(0:Int)⟩:aV)]:List aV),([(⟨(5:Int),(7:Int),([]:Str),(⟨(0:Int),(⟨(⟨false,false,(⟨(0:Int),(0:Int),(0:Int),(0:Int),(0:Int),(0:Int),(0:Int),(0:Int),(0:Int),(0:Int),(0:Int),(0:Int),(0:Int),(0:Int),(0:Int),(0:Int)⟩:aX)⟩:bb),(⟨false,false,(⟨(0:Int),(0:Int),(0:Int),(0:Int),(0:Int),(0:Int),(0:Int),(0:Int),(0:Int),(0:Int),(0:Int),(0:Int),(0:Int),(0:Int),(0:Int),(0:Int)⟩:aX)⟩:bb)⟩:dW),([]:Str),([]:Str),([]:List af),(0:Int)⟩:af),([]:List ay),([]:List ay),([]:List bj),(0:Int)⟩:ay)]:List ay)⟩:Source))) fun x12=>Option.bind (sX F (⟨([]:List aV),x6⟩:Source)) fun x14=>Option.bind (gu F ([121,97,114,100,32,123,32,112,114,111,112,32,112,32,123,32,98,111,120,32,40,48,44,32,48,44,32,48,41,32,116,111,32,40,49,44,32,49,44,32,50,41,59,32,109,97,115,115,32,49,32,91,107,103,93,32,46,46,32,50,32,91,107,103,93,59,32,97,116,32,40,48,44,32,48,44,32,48,41,32,116,117,114,110,32,40,49,44,32,48,44,32,48,44,32,45,49,41,59,32,125,32,125,32,112,108,97,99,101,32,112,32,98,121,32,40,49,44,32,50,44,32,51,41,44,32,40,49,44,32,50,44,32,50,41,59]:Str)) fun x18=>bN (((decide (x18.2 = (⟨(0:Int),(0:Int)⟩:Problem))) && (decide ((x18.1.Items.length:Int) = (1:Int))))) fun x22=>Option.bind (bn x22 (aH x18.1.Items (0:Int))) fun x23=>bN (((x22 && (decide ((x23.Fields.length:Int) = (3:Int)))) && (decide ((x18.1.Code.length:Int) = (1:Int))))) fun x29=>Option.bind (bn x29 (aH x18.1.Code (0:Int))) fun x30=>bN ((x29 && (decide (x30.Op = (1:Int))))) fun x32=>Option.bind (bn x32 (aH x18.1.Code (0:Int))) fun x33=>bN ((((x11 && x12) && ((decide (x14.2 = (0:Int))) && (decide (x14.1 = ([121,97,114,100,32,123,10,125,10,108,101,116,32,97,32,61,32,49,32,43,32,40,50,32,42,32,51,41,59,10]:Str))))) && (x32 && (decide ((x33.Poses.length:Int) = (2:Int)))))) fun x38=>Option.bind (bn x38 (eD F ([121,97,114,100,32,123,32,125,32,108,101,116,32,97,32,61,32,59]:Str) (17:Int) (280:Int))) fun x39=>bN ((x38 && x39)) fun x40=>Option.bind (bn x40 (eD F ([121,97,114,100,32,123,32,125,32,114,117,110,32,49]:Str) (14:Int) (280:Int))) fun x41=>bN ((x40 && x41)) fun x42=>Option.bind (bn x42 (eD F ([121,97,114,100,32,123,32,125,32,112,108,97,99,101,32,112,32,98,121,32,40,48,44,32,48,44,32,48,41,32,116,117,114,110,32,40,49,44,32,48,44,32,48,44,32,54,53,41,59]:Str) (45:Int) (281:Int))) fun x43=>some (x42 && x43)
def cE (F:Nat) (n:Int):Option Bool:=Option.bind (nC (IntKind.i64.wrap n) (100:Int)) fun x2=>Option.bind (iter F (fun (x3:Str × Str × Str × Str × Int)=>((if (decide (x3.2.2.2.2 < x2)) = true then Option.bind (bV x3.1 ([40]:Str)) fun x5=>Option.bind (bV x3.2.1 ([41]:Str)) fun x6=>Option.bind (bV x3.2.2.1 ([45]:Str)) fun x7=>Option.bind (bV x3.2.2.2.1 ([110,111,116,32]:Str)) fun x8=>some (.inl (x5,x6,x7,x8,(IntKind.i64.wrap (x3.2.2.2.2 + (1:Int))))) else some (.inr (x3.1,x3.2.1,x3.2.2.1,x3.2.2.2.1))):Option ((Str × Str × Str × Str × Int) ⊕ (Str × Str × Str × Str)))) (([]:Str),([]:Str),([]:Str),([]:Str),(0:Int))) (fun x10=>Option.bind (bV x10.1 ([49]:Str)) fun x11=>Option.bind (bV x11 x10.2.1) fun x12=>Option.bind (eT F x12) fun x13=>Option.bind (bV x10.2.2.1 ([32,49]:Str)) fun x14=>Option.bind (eT F x14) fun x15=>Option.bind (bV x10.2.2.2 ([97]:Str)) fun x16=>Option.bind (eT F x16) fun x17=>(if (decide (x2 ≤ (40:Int))) = true then Option.bind (dx F) fun x19=>some (((x19 && (decide (x13.2 = (⟨(0:Int),(0:Int)⟩:Problem)))) && (decide (x15.2 = (⟨(0:Int),(0:Int)⟩:Problem)))) && (decide (x17.2 = (⟨(0:Int),(0:Int)⟩:Problem)))) else Option.bind ((if (decide (x2 = (41:Int))) = true then some (IntKind.i64.wrap ((41:Int) + (1:Int))) else some (41:Int)):Option (Int)) fun x28=>Option.bind (dx F) fun x29=>some (((x29 && (decide (x13.2 = (⟨(41:Int),(2:Int)⟩:Problem)))) && (decide (x15.2 = (⟨x28,(2:Int)⟩:Problem)))) && (decide (x17.2 = (⟨(IntKind.i64.wrap ((4:Int) * (41:Int))),(2:Int)⟩:Problem))))))
end Go.Dn
