/- the structures, the library -/
import Derived.Test.YtbcdabflmkgkiaaGreatDoorRows
import Derived.Test.YtbcdabflmkgkiaaGreatDoorF3
import Derived.Shelf.Strconv.Itoa3
import Derived.Shelf.Strings.OnBuilder
import Derived.Shelf.Strings.Repeat
import Derived.Shelf.Spec.TrailingZeros
import Derived.Shelf.Strings.Cut
import Derived.Shelf.Strings.Prefix
import Derived.Shelf.LaysM
import Derived.Shelf.Strings.Search1
import Derived.Shelf.Strings.Count
import Derived.Ground.NamesProg
import Derived.Test.YtbcdabflmkgkiaaGreatDoorProg
set_option linter.unusedSimpArgs false
set_option linter.unusedVariables false
open Go.IntKind (i8 i16 i32 i64 u8 u16 u32 u64)
namespace Go.Sk
open Go
structure aZ where
 a0:Int
 a1:Int
 a2:Int
 a3:Int
 a4:Int
 a5:Int
 a6:Int
 a7:Int
 a8:Int
 a9:Int
 a10:Int
 a11:Int
 a12:Int
 a13:Int
 a14:Int
 a15:Int
 deriving DecidableEq,Inhabited
def aZ.l (w:aZ):List Int:=[w.a0,w.a1,w.a2,w.a3,w.a4,w.a5,w.a6,w.a7,w.a8,w.a9,w.a10,w.a11,w.a12,w.a13,w.a14,w.a15]
def aZ.of:List Int->aZ
 | [a0,a1,a2,a3,a4,a5,a6,a7,a8,a9,a10,a11,a12,a13,a14,a15]=>⟨a0,a1,a2,a3,a4,a5,a6,a7,a8,a9,a10,a11,a12,a13,a14,a15⟩
 | _=>default
def aZ.zero:aZ:=⟨0,0,0,0,0,0,0,0,0,0,0,0,0,0,0,0⟩
def aZ.set (w:aZ) (i x:Int):aZ:=.of (w.l.set i.toNat x)
def eA16 (k:IntKind) (w:aZ):List CP:=w.l.map (.int k)
theorem aZ.Be:∀ {l:List Int},l.length=16->(aZ.of l).l=l
 | [_,_,_,_,_,_,_,_,_,_,_,_,_,_,_,_],_=>rfl
theorem aZ.zF (w:aZ):aZ.of w.l=w:=rfl
theorem aZ.cj (w:aZ):w.l.length=16:=rfl
theorem aZ.jZ (w:aZ) (i x:Int):(w.set i x).l=w.l.set i.toNat x:=aZ.Be (by rw[List.length_set];rfl)
theorem aZ.zL {v w:aZ}:v.l=w.l↔v=w:=⟨fun h=>by rw[← aZ.zF v,h,aZ.zF],fun h=>by rw[h]⟩
structure cL where
 a0:Int
 a1:Int
 a2:Int
 a3:Int
 a4:Int
 a5:Int
 a6:Int
 a7:Int
 a8:Int
 a9:Int
 a10:Int
 a11:Int
 a12:Int
 a13:Int
 a14:Int
 a15:Int
 Cs:Int
 deriving DecidableEq,Inhabited
def cL.l (w:cL):List Int:=[w.a0,w.a1,w.a2,w.a3,w.a4,w.a5,w.a6,w.a7,w.a8,w.a9,w.a10,w.a11,w.a12,w.a13,w.a14,w.a15,w.Cs]
def cL.of:List Int->cL
 | [a0,a1,a2,a3,a4,a5,a6,a7,a8,a9,a10,a11,a12,a13,a14,a15,Cs]=>⟨a0,a1,a2,a3,a4,a5,a6,a7,a8,a9,a10,a11,a12,a13,a14,a15,Cs⟩
 | _=>default
def cL.zero:cL:=⟨0,0,0,0,0,0,0,0,0,0,0,0,0,0,0,0,0⟩
def cL.set (w:cL) (i x:Int):cL:=.of (w.l.set i.toNat x)
def kn (k:IntKind) (w:cL):List CP:=w.l.map (.int k)
theorem cL.Be:∀ {l:List Int},l.length=17->(cL.of l).l=l
 | [_,_,_,_,_,_,_,_,_,_,_,_,_,_,_,_,_],_=>rfl
theorem cL.zF (w:cL):cL.of w.l=w:=rfl
theorem cL.cj (w:cL):w.l.length=17:=rfl
theorem cL.jZ (w:cL) (i x:Int):(w.set i x).l=w.l.set i.toNat x:=cL.Be (by rw[List.length_set];rfl)
theorem cL.zL {v w:cL}:v.l=w.l↔v=w:=⟨fun h=>by rw[← cL.zF v,h,cL.zF],fun h=>by rw[h]⟩
structure iK where
 a0:Int
 a1:Int
 a2:Int
 a3:Int
 a4:Int
 a5:Int
 a6:Int
 a7:Int
 a8:Int
 a9:Int
 a10:Int
 a11:Int
 a12:Int
 a13:Int
 a14:Int
 a15:Int
 Cs:Int
 a17:Int
 a18:Int
 a19:Int
 a20:Int
 a21:Int
 a22:Int
 a23:Int
 a24:Int
 a25:Int
 a26:Int
 a27:Int
 a28:Int
 a29:Int
 a30:Int
 a31:Int
 deriving DecidableEq,Inhabited
def iK.l (w:iK):List Int:=[w.a0,w.a1,w.a2,w.a3,w.a4,w.a5,w.a6,w.a7,w.a8,w.a9,w.a10,w.a11,w.a12,w.a13,w.a14,w.a15,w.Cs,w.a17,w.a18,w.a19,w.a20,w.a21,w.a22,w.a23,w.a24,w.a25,w.a26,w.a27,w.a28,w.a29,w.a30,w.a31]
def iK.of:List Int->iK
 | [a0,a1,a2,a3,a4,a5,a6,a7,a8,a9,a10,a11,a12,a13,a14,a15,Cs,a17,a18,a19,a20,a21,a22,a23,a24,a25,a26,a27,a28,a29,a30,a31]=>⟨a0,a1,a2,a3,a4,a5,a6,a7,a8,a9,a10,a11,a12,a13,a14,a15,Cs,a17,a18,a19,a20,a21,a22,a23,a24,a25,a26,a27,a28,a29,a30,a31⟩
 | _=>default
def iK.zero:iK:=⟨0,0,0,0,0,0,0,0,0,0,0,0,0,0,0,0,0,0,0,0,0,0,0,0,0,0,0,0,0,0,0,0⟩
def iK.set (w:iK) (i x:Int):iK:=.of (w.l.set i.toNat x)
def zG (k:IntKind) (w:iK):List CP:=w.l.map (.int k)
theorem iK.Be:∀ {l:List Int},l.length=32->(iK.of l).l=l
 | [_,_,_,_,_,_,_,_,_,_,_,_,_,_,_,_,_,_,_,_,_,_,_,_,_,_,_,_,_,_,_,_],_=>rfl
theorem iK.zF (w:iK):iK.of w.l=w:=rfl
theorem iK.cj (w:iK):w.l.length=32:=rfl
theorem iK.jZ (w:iK) (i x:Int):(w.set i x).l=w.l.set i.toNat x:=iK.Be (by rw[List.length_set];rfl)
theorem iK.zL {v w:iK}:v.l=w.l↔v=w:=⟨fun h=>by rw[← iK.zF v,h,iK.zF],fun h=>by rw[h]⟩
structure Token where
 Kind:Int
 At:Int
 S:Str
 deriving DecidableEq,Inhabited
def aC (x:Token):List CP:=[.i x.Kind,.i x.At,.str x.S]
structure Scan where
 s:Str
 pos:Int
 deriving DecidableEq,Inhabited
def jG (x:Scan):List CP:=[.str x.s,.i x.pos]
structure Problem where
 At:Int
 E:Int
 deriving DecidableEq,Inhabited
def bP (x:Problem):List CP:=[.i x.At,.i x.E]
structure bY where
 Bad:Bool
 Neg:Bool
 W:aZ
 deriving DecidableEq,Inhabited
def az (x:bY):List CP:=(.bool x.Bad::.bool x.Neg::((eA16 .u32) x.W))
structure s9 where
 N:bY
 D:bY
 deriving DecidableEq,Inhabited
def km (x:s9):List CP:=(az x.N++(az x.D))
structure qk where
 T:Token
 End:Int
 E:Int
 deriving DecidableEq,Inhabited
def lH (x:qk):List CP:=(aC x.T++([.i x.End,.i x.E]))
structure ti where
 L:List Token
 P:Problem
 deriving DecidableEq,Inhabited
def FL (x:ti):List CP:=(.sl 3 (x.L.map aC)::(bP x.P))
structure mi where
 S:Str
 E:Int
 deriving DecidableEq,Inhabited
def Ai (x:mi):List CP:=[.str x.S,.i x.E]
structure Number where
 X:s9
 E:Int
 deriving DecidableEq,Inhabited
def tB (x:Number):List CP:=(km x.X++([.i x.E]))
abbrev eW:=eA16 .u32
abbrev dL:List CP:=.bool false::.bool false::eW aZ.zero
abbrev wh:List CP:=.bool false::.bool false::(eW aZ.zero++dL)
end Go.Sk
namespace Go.Sk
open Go Go.BigFrame Go.RowKit Go.Proofs Go.Shelf
def vT (s:Str) (c:Int):Option Str:=if 0<=c/\c<=1000000000/\s.length*c.toNat<=1000000000 then some (Lib.repeatL s c.toNat) else none
def CB (xs:List Str) (sep:Str):Option Str:=if xs.length<=1000000000/\(Lib.join xs sep).length<=1000000000 then some (Lib.join xs sep) else none
variable {P:Program} {TB:bp} {ρ:Ren}
theorem zr (L:Lays.n105 P ρ) (X:Builder.Extra P ρ) {s:Str} {c:Int} {r:Str} (h:vT s c=some r):ax P TB (ρ.f 105) [] [.one (.str s),.one (.int .i64 c)] (Is [] (.b (.one (.str r)))):=by
 unfold vT at h
 split at h
 next hl=>
  cases h
  refine ax.lib fun w h ρ' vals tb hag ha=>?_
  obtain⟨v,u,rfl,hv,hu⟩:=oD ha
  have hv':v=.string ⟨⟨s⟩⟩/\s.length<=maxLen:=hv
  have hu':u=.int .i64 c/\lG .i64 c:=hu
  obtain⟨rfl,_⟩:=hv'
  obtain⟨rfl,_⟩:=hu'
  obtain⟨c0,rfl⟩:∃ m:Nat,c=m:=⟨c.toNat,by omega⟩
  simp only[Int.toNat_natCast] at hl ⊢
  refine (Any.strings_Repeat L X ⟨⟨s⟩⟩ c0 w (by omega) (by rw[rF];omega)).mono ?_
  rintro e w' ⟨rfl,hb⟩
  refine⟨_,rfl,hb,rfl,?_⟩
  rw[Lib.repeatL_length,dn,Nat.mul_comm];omega
 simp at h
theorem Cg (L:Lays.n156 P ρ) (X:Builder.Extra P ρ) {xs:List Str} {sep r:Str} (h:CB xs sep=some r):ax P TB (ρ.f 156) [] [.one (.sl 1 (xs.map eS)),.one (.str sep)] (Is [] (.b (.one (.str r)))):=by
 unfold CB at h
 split at h
 next hl=>
  cases h
  refine ax.lib fun w h ρ' vals tb hag ha=>?_
  obtain⟨v,u,rfl,hv,hu⟩:=oD ha
  have hu':u=.string ⟨⟨sep⟩⟩/\sep.length<=maxLen:=hu
  obtain⟨rfl,_⟩:=hu'
  obtain⟨_,_,hv⟩:=(hv:(CP.sl 1 (xs.map eS)).rel h v)
  have b3:∀ {x:Str},Lib.join [x] sep=x:=fun {x}=>Lib.join_one x sep
  have hfl:∀ l:List Str,(l.map eS).flatten=l.map CP.str:=fun l=>by
   induction l with
   | nil=>rfl
   | cons a l ih=>simp only[List.map_cons,List.flatten_cons,ih,eS];rfl
  have b1:(Lib.join xs sep).length<=maxLen:=by rw[dn];omega
  rcases hv with ⟨rfl,hn⟩|⟨b,o,c,rfl,h1,h2,h3⟩|⟨ad,rfl,hn⟩
  rotate_left 2
  have hx:xs=[]:=by simpa using hn
  subst hx
  exact (Any.strings_Join_none L X (some ad) 0 ⟨⟨sep⟩⟩ w).mono fun e w' ⟨he,hw⟩=>⟨_,he,hw▸Below.refl _ _,rfl,b1⟩
  have hx:xs=[]:=by simpa using hn
  subst hx
  exact (Any.strings_Join_none L X none 0 ⟨⟨sep⟩⟩ w).mono fun e w' ⟨he,hw⟩=>⟨_,he,hw▸Below.refl _ _,rfl,b1⟩
  rw[hfl] at h3
  have b0:∀ (j:Nat) (x:Str),xs[j]?=some x->w.cell? ⟨b,o+j,none⟩=some (.string ⟨⟨x⟩⟩):=fun j x hx=>by
   obtain⟨u,hu1,hu2⟩:=h3 j (CP.str x) (by rw[List.getElem?_map,hx];rfl)
   rw[hag.cell hu1 (CP.one _ hu2),hu2.1]
  rw[List.length_map] at h1 ⊢
  match xs,hl,b1,h1,b0 with
  | [],_,b1,_,_=>exact (Any.strings_Join_none L X _ c ⟨⟨sep⟩⟩ w).mono fun e w' ⟨he,hw⟩=>⟨_,he,hw▸Below.refl _ _,rfl,b1⟩
  | [x],_,b1,_,b0=>
   refine (Any.strings_Join_one L X b o c ⟨⟨x⟩⟩ ⟨⟨sep⟩⟩ w (by simpa using b0 0 x rfl)).mono fun e w' ⟨he,hw⟩=>⟨_,he,hw▸Below.refl _ _,?_,b1⟩
   rw[b3]
  | x::y::r,hl,b1,h1,b0=>
   have b2:((x::y::r).map fun l=>(⟨⟨l⟩⟩:ByteArray)).map (·.data.toList)=x::y::r:=by
    rw[List.map_map]
    exact List.map_id' _
   have b4:b<w.heap.size:=Ch (b0 0 x rfl)
   have:=Any.strings_Join_many L X b o c ((x::y::r).map fun l=>(⟨⟨l⟩⟩:ByteArray)) ⟨⟨sep⟩⟩ w (fun j z hz=>by
    rw[List.getElem?_map] at hz
    simp only[Option.map_eq_some_iff] at hz
    obtain⟨l,hl',rfl⟩:=hz
    exact b0 j l hl') b4 (by simp) (by rw[List.length_map];omega) (by rw[List.length_map];exact h1) (by rw[b2];show (Lib.join _ sep).length<=_;omega)
   rw[b2,List.length_map] at this
   exact this.mono fun e w' ⟨he,hw⟩=>⟨_,he,hw,rfl,b1⟩
 simp at h
end Go.Sk
namespace Go.Sk
open Go Go.BigFrame Go.RowKit Go.Proofs Go.Shelf
def cut? (s sep:Str):Option (Str×Str×Bool):=if s.length<1000000000 then some (Lib.cut s sep) else none
variable {P:Program} {TB:bp} {ρ:Ren}
theorem cut_len (s sep:Str):(Lib.cut s sep).1.length<=s.length/\(Lib.cut s sep).2.1.length<=s.length:=by
 unfold Lib.cut
 split<;>simp<;>omega
theorem ax.libS {P:Program} {TB:bp} {f:FuncId} {args:List BV} {res:SV}
 (H:∀ (w:World) (h:PH) (ρ:RM) (vals:List Value),dz TB h w->nD h w->br (fun (x:BV) v=>x.rel h ρ v) args vals->Calls P f vals.toArray w fun e w'=>∃ v,e=.returned v/\Below w.heap.size w w'/\res.rel h ρ v):ax P TB f [] args (Is [] res):=by
 intro w h ρ vals tb hag hl ha
 refine (H w h ρ vals tb hag ha).mono ?_
 rintro e w' ⟨v,rfl,hb,hr⟩
 refine⟨v,[],res,h,ρ,rfl,⟨rfl,rfl⟩,⟨fun b o u hu=>?_,PH.le_refl _,fun _ _ _=>rfl,hb.size,fun b b0 _=>hb.block b b0,fun k hk=>by simp[aN] at hk,hb.os,hb.output,fun b b0=>?_,fun k c hk=>by simp at hk⟩,hr⟩
 have hc:=hag b o u hu
 have hlt:b<w.heap.size:=hO hc
 rw[lj (hb.block b hlt)];exact hc
 obtain⟨k,hk,_⟩:=b0
 simp[aO] at hk
theorem Ei (L:LaysM.n145 P ρ) {m:Int} (hm:(ρ.g 1,[Value.int .i64 m])∈TB) {s sep:Str} {r:Str×Str×Bool} (h:cut? s sep=some r):ax P TB (ρ.f 145) [] [.one (.str s),.one (.str sep)] (Is [] (.gS [.one (.str r.1),.one (.str r.2.1),.one (.bool r.2.2)])):=by
 unfold cut? at h
 split at h
 next hl=>
  cases h
  refine ax.libS fun w h ρ' vals tb hag ha=>?_
  obtain⟨v,u,rfl,hv,hu⟩:=oD ha
  have hv':v=.string ⟨⟨s⟩⟩/\s.length<=maxLen:=hv
  have hu':u=.string ⟨⟨sep⟩⟩/\sep.length<=maxLen:=hu
  obtain⟨rfl,_⟩:=hv'
  obtain⟨rfl,_⟩:=hu'
  have hc:w.cell? ⟨ρ.g 1,0,none⟩=some (.int .i64 m):=hag.cell ((tb _ _ hm).2.1 0 _ rfl) rfl
  refine (Any.strings_Cut { L with } ⟨⟨s⟩⟩ ⟨⟨sep⟩⟩ m w (by rw[rF];omega) hc).mono ?_
  rintro e w' ⟨rfl,k,rfl⟩
  have hcl:=cut_len s sep
  refine⟨_,rfl,?_,?_⟩
  exact⟨rfl,rfl,rfl,by simp[World.drewN],fun b hb=>rfl⟩
  exact⟨_,rfl,.cons ⟨rfl,by rw[dn];omega⟩ (.cons ⟨rfl,by rw[dn];omega⟩ (.cons rfl .nil))⟩
 simp at h
theorem vK (L:Lays.n99 P ρ) {s p:Str} {r:Bool} (h:some (Lib.hasPrefix s p)=some r):ax P TB (ρ.f 99) [] [.one (.str s),.one (.str p)] (Is [] (.b (.one (.bool r)))):=by
 obtain rfl:=zaa h
 refine ax.lib fun w h ρ' vals tb hag ha=>?_
 obtain⟨v,u,rfl,hv,hu⟩:=oD ha
 have hv':v=.string ⟨⟨s⟩⟩/\s.length<=maxLen:=hv
 have hu':u=.string ⟨⟨p⟩⟩/\p.length<=maxLen:=hu
 obtain⟨rfl,_⟩:=hv'
 obtain⟨rfl,_⟩:=hu'
 exact (Any.strings_HasPrefix L ⟨⟨s⟩⟩ ⟨⟨p⟩⟩ w).mono fun e w' ⟨he,hw⟩=>⟨_,he,hw▸Below.refl _ _,rfl⟩
end Go.Sk
namespace Go.Sk
open Go Go.BigFrame Go.RowKit Go.Proofs Go.Shelf
def s4 (s:Str) (c:Int):Option Int:=some (Lib.indexByte s c.toNat.toUInt8)
def BC (s p:Str):Option Int:=match p with
 | [c]=>some ((Lib.countByte s c:Nat):Int)
 | _=>none
variable {P:Program} {TB:bp} {ρ:Ren}
theorem zt (l:List UInt8) (c:UInt8):Lib.indexByte l c<=l.length:=by
 induction l with
 | nil=>simp[Lib.indexByte]
 | cons x l ih=>
  unfold Lib.indexByte
  split
  simp
  omega
  try split
  all_goals simp only[List.length_cons];omega
theorem vJ (L:Lays.n217 P ρ) {s:Str} {c r:Int} (h:s4 s c=some r):ax P TB (ρ.f 217) [] [.one (.str s),.one (.int .u8 c)] (Is [] (I r)):=by
 obtain rfl:=zaa h
 refine ax.lib fun w h ρ' vals tb hag ha=>?_
 obtain⟨v,u,rfl,hv,hu⟩:=oD ha
 have hv':v=.string ⟨⟨s⟩⟩/\s.length<=maxLen:=hv
 have hu':u=.int .u8 c/\_:=hu
 obtain⟨rfl,hl⟩:=hv'
 obtain⟨rfl,_⟩:=hu'
 have h1:=Lib.indexByte_ge s c.toNat.toUInt8
 have h2:=zt s c.toNat.toUInt8
 refine (Any.stringslite_IndexByte L ⟨⟨s⟩⟩ c w).mono fun e w' ⟨he,hw⟩=>⟨_,he,hw▸Below.refl _ _,rfl,?_⟩
 rw[dn] at hl
 exact y8 (by omega) (by omega)
theorem AP (L:Lays.n138 P ρ) {s p:Str} {r:Int} (h:BC s p=some r):ax P TB (ρ.f 138) [] [.one (.str s),.one (.str p)] (Is [] (I r)):=by
 unfold BC at h
 split at h
 next c=>
  obtain rfl:=zaa h
  refine ax.lib fun w h ρ' vals tb hag ha=>?_
  obtain⟨v,u,rfl,hv,hu⟩:=oD ha
  have hv':v=.string ⟨⟨s⟩⟩/\s.length<=maxLen:=hv
  have hu':u=.string ⟨⟨[c]⟩⟩/\_:=hu
  obtain⟨rfl,hl⟩:=hv'
  obtain⟨rfl,_⟩:=hu'
  have h2:Lib.countByte s c<=s.length:=List.count_le_length
  refine (Any.strings_Count_one L ⟨⟨s⟩⟩ c w).mono fun e w' ⟨he,hw⟩=>⟨_,he,hw▸Below.refl _ _,rfl,?_⟩
  rw[dn] at hl
  exact y8 (by omega) (by omega)
 cases h
end Go.Sk
namespace Go.Proofs
open Go.Shelf
def Tryz.vx:Go.Shelf.Ren:=⟨fun|105=>34|212=>70|99=>71|165=>59|166=>60|170=>72|169=>61|263=>127|264=>128|206=>129|240=>119|241=>120|276=>153|277=>154|n=>n,fun|9=>9|3=>3|4=>4|20=>20|0=>0|46=>55|109=>113|5=>5|72=>94|76=>98|51=>32|146=>169|53=>54|148=>171|70=>92|37=>50|75=>97|127=>161|164=>192|80=>100|n=>n,fun|n=>n⟩
theorem Tryz.lays105:Go.Proofs.Lays.n105 Tryz.prog Tryz.vx:={
 mixed:=by kernel_rfl
 f99:=Tryz.func71.trans (congrArg some (by kernel_rfl))
 f105:=Tryz.func34.trans (congrArg some (by kernel_rfl))
 f165:=Tryz.func59.trans (congrArg some (by kernel_rfl))
 f166:=Tryz.func60.trans (congrArg some (by kernel_rfl))
 f169:=Tryz.func61.trans (congrArg some (by kernel_rfl))
 f170:=Tryz.func72.trans (congrArg some (by kernel_rfl))
 f206:=Tryz.func129.trans (congrArg some (by kernel_rfl))
 f212:=Tryz.func70.trans (congrArg some (by kernel_rfl))
 f240:=Tryz.func119.trans (congrArg some (by kernel_rfl))
 f241:=Tryz.func120.trans (congrArg some (by kernel_rfl))
 f263:=Tryz.func127.trans (congrArg some (by kernel_rfl))
 f264:=Tryz.func128.trans (congrArg some (by kernel_rfl))
 f276:=Tryz.func153.trans (congrArg some (by kernel_rfl))
 f277:=Tryz.func154.trans (congrArg some (by kernel_rfl))
 t0:=Tryz.underlying0
 a0:=Tryz.isAgg0
 z0:=Tryz.sizeOf0
 v0:=Tryz.zeroValue0
 t3:=Tryz.underlying3
 a3:=Tryz.isAgg3
 z3:=Tryz.sizeOf3
 v3:=Tryz.zeroValue3
 t4:=Tryz.underlying4
 a4:=Tryz.isAgg4
 z4:=Tryz.sizeOf4
 v4:=Tryz.zeroValue4
 t5:=Tryz.underlying5
 a5:=Tryz.isAgg5
 z5:=Tryz.sizeOf5
 v5:=Tryz.zeroValue5
 t9:=Tryz.underlying9
 a9:=Tryz.isAgg9
 z9:=Tryz.sizeOf9
 v9:=Tryz.zeroValue9
 t20:=Tryz.underlying20
 a20:=Tryz.isAgg20
 z20:=Tryz.sizeOf20
 v20:=Tryz.zeroValue20
 t37:=Tryz.underlying50
 a37:=Tryz.isAgg50
 z37:=Tryz.sizeOf50
 v37:=Tryz.zeroValue50
 t46:=Tryz.underlying55
 a46:=Tryz.isAgg55
 z46:=Tryz.sizeOf55
 v46:=Tryz.zeroValue55
 t51:=Tryz.underlying32
 a51:=Tryz.isAgg32
 z51:=Tryz.sizeOf32
 v51:=Tryz.zeroValue32
 t53:=Tryz.underlying54
 a53:=Tryz.isAgg54
 z53:=Tryz.sizeOf54
 v53:=Tryz.zeroValue54
 t70:=Tryz.underlying92
 a70:=Tryz.isAgg92
 z70:=Tryz.sizeOf92
 v70:=Tryz.zeroValue92
 t72:=Tryz.underlying94
 a72:=Tryz.isAgg94
 z72:=Tryz.sizeOf94
 v72:=Tryz.zeroValue94
 t75:=Tryz.underlying97
 a75:=Tryz.isAgg97
 z75:=Tryz.sizeOf97
 v75:=Tryz.zeroValue97
 t76:=Tryz.underlying98
 a76:=Tryz.isAgg98
 z76:=Tryz.sizeOf98
 v76:=Tryz.zeroValue98
 t109:=Tryz.underlying113
 a109:=Tryz.isAgg113
 z109:=Tryz.sizeOf113
 v109:=Tryz.zeroValue113
 t127:=Tryz.underlying161
 a127:=Tryz.isAgg161
 z127:=Tryz.sizeOf161
 v127:=Tryz.zeroValue161
 t146:=Tryz.underlying169
 a146:=Tryz.isAgg169
 z146:=Tryz.sizeOf169
 v146:=Tryz.zeroValue169
 t148:=Tryz.underlying171
 a148:=Tryz.isAgg171
 z148:=Tryz.sizeOf171
 v148:=Tryz.zeroValue171
 t164:=Tryz.underlying192
 a164:=Tryz.isAgg192
 z164:=Tryz.sizeOf192
 v164:=Tryz.zeroValue192 }
theorem Tryz.uq:Builder.Extra Tryz.prog Tryz.vx:={
 sizeBuilder:=by kernel_rfl
 liesBuilder:=by kernel_rfl
 t5:=Tryz.underlying5
 a5:=Tryz.isAgg5
 z5:=Tryz.sizeOf5
 v5:=Tryz.zeroValue5
 infoByte:=by kernel_rfl
 cellsByte:=by kernel_rfl
 sizeByte:=by kernel_rfl
 neB5:=by decide }
def Tryz.vw:Go.Shelf.Ren:=⟨fun|156=>28|165=>59|166=>60|169=>61|240=>119|241=>120|276=>153|277=>154|n=>n,fun|31=>44|9=>9|3=>3|4=>4|0=>0|20=>20|72=>94|76=>98|70=>92|37=>50|75=>97|127=>161|164=>192|5=>5|80=>100|n=>n,fun|n=>n⟩
theorem Tryz.lays156:Go.Proofs.Lays.n156 Tryz.prog Tryz.vw:={
 mixed:=by kernel_rfl
 f156:=Tryz.func28.trans (congrArg some (by kernel_rfl))
 f165:=Tryz.func59.trans (congrArg some (by kernel_rfl))
 f166:=Tryz.func60.trans (congrArg some (by kernel_rfl))
 f169:=Tryz.func61.trans (congrArg some (by kernel_rfl))
 f240:=Tryz.func119.trans (congrArg some (by kernel_rfl))
 f241:=Tryz.func120.trans (congrArg some (by kernel_rfl))
 f276:=Tryz.func153.trans (congrArg some (by kernel_rfl))
 f277:=Tryz.func154.trans (congrArg some (by kernel_rfl))
 t0:=Tryz.underlying0
 a0:=Tryz.isAgg0
 z0:=Tryz.sizeOf0
 v0:=Tryz.zeroValue0
 t3:=Tryz.underlying3
 a3:=Tryz.isAgg3
 z3:=Tryz.sizeOf3
 v3:=Tryz.zeroValue3
 t4:=Tryz.underlying4
 a4:=Tryz.isAgg4
 z4:=Tryz.sizeOf4
 v4:=Tryz.zeroValue4
 t9:=Tryz.underlying9
 a9:=Tryz.isAgg9
 z9:=Tryz.sizeOf9
 v9:=Tryz.zeroValue9
 t20:=Tryz.underlying20
 a20:=Tryz.isAgg20
 z20:=Tryz.sizeOf20
 v20:=Tryz.zeroValue20
 t31:=Tryz.underlying44
 a31:=Tryz.isAgg44
 z31:=Tryz.sizeOf44
 v31:=Tryz.zeroValue44
 t37:=Tryz.underlying50
 a37:=Tryz.isAgg50
 z37:=Tryz.sizeOf50
 v37:=Tryz.zeroValue50
 t70:=Tryz.underlying92
 a70:=Tryz.isAgg92
 z70:=Tryz.sizeOf92
 v70:=Tryz.zeroValue92
 t72:=Tryz.underlying94
 a72:=Tryz.isAgg94
 z72:=Tryz.sizeOf94
 v72:=Tryz.zeroValue94
 t75:=Tryz.underlying97
 a75:=Tryz.isAgg97
 z75:=Tryz.sizeOf97
 v75:=Tryz.zeroValue97
 t76:=Tryz.underlying98
 a76:=Tryz.isAgg98
 z76:=Tryz.sizeOf98
 v76:=Tryz.zeroValue98
 t127:=Tryz.underlying161
 a127:=Tryz.isAgg161
 z127:=Tryz.sizeOf161
 v127:=Tryz.zeroValue161
 t164:=Tryz.underlying192
 a164:=Tryz.isAgg192
 z164:=Tryz.sizeOf192
 v164:=Tryz.zeroValue192 }
theorem Tryz.uo:Builder.Extra Tryz.prog Tryz.vw:={
 sizeBuilder:=by kernel_rfl
 liesBuilder:=by kernel_rfl
 t5:=Tryz.underlying5
 a5:=Tryz.isAgg5
 z5:=Tryz.sizeOf5
 v5:=Tryz.zeroValue5
 infoByte:=by kernel_rfl
 cellsByte:=by kernel_rfl
 sizeByte:=by kernel_rfl
 neB5:=by decide }
def Tryz.Ci:Go.Shelf.Ren:=⟨fun|99=>71|206=>129|n=>n,fun|9=>9|4=>4|3=>3|n=>n,fun|n=>n⟩
theorem Tryz.lays99:Go.Proofs.Lays.n99 Tryz.prog Tryz.Ci:={
 mixed:=by kernel_rfl
 f99:=Tryz.func71.trans (congrArg some (by kernel_rfl))
 f206:=Tryz.func129.trans (congrArg some (by kernel_rfl))
 t3:=Tryz.underlying3
 a3:=Tryz.isAgg3
 z3:=Tryz.sizeOf3
 v3:=Tryz.zeroValue3
 t4:=Tryz.underlying4
 a4:=Tryz.isAgg4
 z4:=Tryz.sizeOf4
 v4:=Tryz.zeroValue4
 t9:=Tryz.underlying9
 a9:=Tryz.isAgg9
 z9:=Tryz.sizeOf9
 v9:=Tryz.zeroValue9 }
def Tryz.ug:Go.Shelf.Ren:=⟨fun|145=>31|220=>63|219=>123|217=>138|225=>161|224=>162|267=>163|266=>167|314=>180|n=>n,fun|9=>9|4=>4|59=>66|3=>3|5=>5|46=>55|146=>169|51=>32|n=>n,fun|1=>2|n=>n⟩
theorem Tryz.GF:Go.Proofs.LaysM.n145 Tryz.prog Tryz.ug:={
 mixed:=by kernel_rfl
 f145:=Tryz.func31.trans (congrArg some (by kernel_rfl))
 f217:=Tryz.func138.trans (congrArg some (by kernel_rfl))
 f219:=Tryz.func123.trans (congrArg some (by kernel_rfl))
 f220:=Tryz.func63.trans (congrArg some (by kernel_rfl))
 f224:=Tryz.func162.trans (congrArg some (by kernel_rfl))
 f225:=Tryz.func161.trans (congrArg some (by kernel_rfl))
 f266:=Tryz.func167.trans (congrArg some (by kernel_rfl))
 f267:=Tryz.func163.trans (congrArg some (by kernel_rfl))
 f314:=Tryz.func180.trans (congrArg some (by kernel_rfl))
 t3:=Tryz.underlying3
 a3:=Tryz.isAgg3
 z3:=Tryz.sizeOf3
 v3:=Tryz.zeroValue3
 t4:=Tryz.underlying4
 a4:=Tryz.isAgg4
 z4:=Tryz.sizeOf4
 v4:=Tryz.zeroValue4
 t5:=Tryz.underlying5
 a5:=Tryz.isAgg5
 z5:=Tryz.sizeOf5
 v5:=Tryz.zeroValue5
 t9:=Tryz.underlying9
 a9:=Tryz.isAgg9
 z9:=Tryz.sizeOf9
 v9:=Tryz.zeroValue9
 t46:=Tryz.underlying55
 a46:=Tryz.isAgg55
 z46:=Tryz.sizeOf55
 v46:=Tryz.zeroValue55
 t51:=Tryz.underlying32
 a51:=Tryz.isAgg32
 z51:=Tryz.sizeOf32
 v51:=Tryz.zeroValue32
 t59:=Tryz.underlying66
 a59:=Tryz.isAgg66
 z59:=Tryz.sizeOf66
 v59:=Tryz.zeroValue66
 t146:=Tryz.underlying169
 a146:=Tryz.isAgg169
 z146:=Tryz.sizeOf169
 v146:=Tryz.zeroValue169
 g1:=by kernel_rfl
 i3:=by kernel_rfl
 i4:=by kernel_rfl
 i5:=by kernel_rfl
 i9:=by kernel_rfl
 i46:=by kernel_rfl
 i51:=by kernel_rfl
 i59:=by kernel_rfl
 i146:=by kernel_rfl
 m1:=by kernel_rfl
 s1_3:=fun w h=>Go.Proofs.cell_of_shapedOpen_int (zero:=#[.int .i64 0]) (t:=3) h (of_decide_eq_true (by kernel_rfl)) (by kernel_rfl) rfl (by kernel_rfl) (by kernel_rfl) Tryz.underlying3 }
def Tryz.AQ:Go.Shelf.Ren:=⟨fun|217=>138|266=>167|n=>n,fun|9=>9|5=>5|3=>3|n=>n,fun|n=>n⟩
theorem Tryz.lays217:Go.Proofs.Lays.n217 Tryz.prog Tryz.AQ:={
 mixed:=by kernel_rfl
 f217:=Tryz.func138.trans (congrArg some (by kernel_rfl))
 f266:=Tryz.func167.trans (congrArg some (by kernel_rfl))
 t3:=Tryz.underlying3
 a3:=Tryz.isAgg3
 z3:=Tryz.sizeOf3
 v3:=Tryz.zeroValue3
 t5:=Tryz.underlying5
 a5:=Tryz.isAgg5
 z5:=Tryz.sizeOf5
 v5:=Tryz.zeroValue5
 t9:=Tryz.underlying9
 a9:=Tryz.isAgg9
 z9:=Tryz.sizeOf9
 v9:=Tryz.zeroValue9 }
def Tryz.AR:Go.Shelf.Ren:=⟨fun|138=>54|195=>111|218=>112|143=>113|219=>123|217=>138|225=>161|224=>162|267=>163|266=>167|314=>180|n=>n,fun|9=>9|3=>3|4=>4|5=>5|0=>0|46=>55|146=>169|51=>32|n=>n,fun|1=>2|n=>n⟩
theorem Tryz.lays138:Go.Proofs.Lays.n138 Tryz.prog Tryz.AR:={
 mixed:=by kernel_rfl
 f138:=Tryz.func54.trans (congrArg some (by kernel_rfl))
 f143:=Tryz.func113.trans (congrArg some (by kernel_rfl))
 f195:=Tryz.func111.trans (congrArg some (by kernel_rfl))
 f217:=Tryz.func138.trans (congrArg some (by kernel_rfl))
 f218:=Tryz.func112.trans (congrArg some (by kernel_rfl))
 f219:=Tryz.func123.trans (congrArg some (by kernel_rfl))
 f224:=Tryz.func162.trans (congrArg some (by kernel_rfl))
 f225:=Tryz.func161.trans (congrArg some (by kernel_rfl))
 f266:=Tryz.func167.trans (congrArg some (by kernel_rfl))
 f267:=Tryz.func163.trans (congrArg some (by kernel_rfl))
 f314:=Tryz.func180.trans (congrArg some (by kernel_rfl))
 t0:=Tryz.underlying0
 a0:=Tryz.isAgg0
 z0:=Tryz.sizeOf0
 v0:=Tryz.zeroValue0
 t3:=Tryz.underlying3
 a3:=Tryz.isAgg3
 z3:=Tryz.sizeOf3
 v3:=Tryz.zeroValue3
 t4:=Tryz.underlying4
 a4:=Tryz.isAgg4
 z4:=Tryz.sizeOf4
 v4:=Tryz.zeroValue4
 t5:=Tryz.underlying5
 a5:=Tryz.isAgg5
 z5:=Tryz.sizeOf5
 v5:=Tryz.zeroValue5
 t9:=Tryz.underlying9
 a9:=Tryz.isAgg9
 z9:=Tryz.sizeOf9
 v9:=Tryz.zeroValue9
 t46:=Tryz.underlying55
 a46:=Tryz.isAgg55
 z46:=Tryz.sizeOf55
 v46:=Tryz.zeroValue55
 t51:=Tryz.underlying32
 a51:=Tryz.isAgg32
 z51:=Tryz.sizeOf32
 v51:=Tryz.zeroValue32
 t146:=Tryz.underlying169
 a146:=Tryz.isAgg169
 z146:=Tryz.sizeOf169
 v146:=Tryz.zeroValue169
 g1:=by kernel_rfl }
end Go.Proofs
