/- the structures, the library -/
import Derived.Test.YtcbbilehdaaffaaGreatDoorRows
import Derived.Test.YtcbbilehdaaffaaGreatDoorF2
import Derived.Shelf.Strconv.Itoa3
import Derived.Shelf.Strings.OnBuilder
import Derived.Shelf.Strings.Repeat
import Derived.Shelf.Spec.TrailingZeros
import Derived.Shelf.Strings.Cut
import Derived.Shelf.Strings.Prefix
import Derived.Shelf.LaysM
import Derived.Ground.NamesProg
import Derived.Ground.Names7Prog
import Derived.Test.YtcbbilehdaaffaaGreatDoorProg
namespace Go.Sk
open Go
structure A3 where
 a0:Int
 a1:Int
 a2:Int
 deriving DecidableEq,Inhabited
def A3.l (w:A3):List Int:=[w.a0,w.a1,w.a2]
def A3.of:List Int → A3
 | [a0,a1,a2]=>⟨a0,a1,a2⟩
 | _=>default
def A3.zero:A3:=⟨0,0,0⟩
def A3.set (w:A3) (i x:Int):A3:=.of (w.l.set i.toNat x)
def eA3 (k:IntKind) (w:A3):List CP:=w.l.map (.int k)
theorem A3.uU:∀ {l:List Int},l.length = 3 → (A3.of l).l = l
 | [_,_,_],_=>rfl
theorem A3.tD (w:A3):A3.of w.l = w:=rfl
theorem A3.bS (w:A3):w.l.length = 3:=rfl
theorem A3.iO (w:A3) (i x:Int):(w.set i x).l = w.l.set i.toNat x:=A3.uU (by rw [List.length_set]; rfl)
theorem A3.u6 {v w:A3}:v.l = w.l ↔ v = w:=⟨fun h=>by rw [← A3.tD v,h,A3.tD],fun h=>by rw [h]⟩
structure aP where
 a0:Int
 a1:Int
 a2:Int
 a3:Int
 a4:Int
 a5:Int
 a6:Int
 a7:Int
 a8:Int
 a9:Int
 a10:Int
 a11:Int
 a12:Int
 a13:Int
 a14:Int
 a15:Int
 deriving DecidableEq,Inhabited
def aP.l (w:aP):List Int:=[w.a0,w.a1,w.a2,w.a3,w.a4,w.a5,w.a6,w.a7,w.a8,w.a9,w.a10,w.a11,w.a12,w.a13,w.a14,w.a15]
def aP.of:List Int → aP
 | [a0,a1,a2,a3,a4,a5,a6,a7,a8,a9,a10,a11,a12,a13,a14,a15]=>⟨a0,a1,a2,a3,a4,a5,a6,a7,a8,a9,a10,a11,a12,a13,a14,a15⟩
 | _=>default
def aP.zero:aP:=⟨0,0,0,0,0,0,0,0,0,0,0,0,0,0,0,0⟩
def aP.set (w:aP) (i x:Int):aP:=.of (w.l.set i.toNat x)
def eA16 (k:IntKind) (w:aP):List CP:=w.l.map (.int k)
theorem aP.uU:∀ {l:List Int},l.length = 16 → (aP.of l).l = l
 | [_,_,_,_,_,_,_,_,_,_,_,_,_,_,_,_],_=>rfl
theorem aP.tD (w:aP):aP.of w.l = w:=rfl
theorem aP.bS (w:aP):w.l.length = 16:=rfl
theorem aP.iO (w:aP) (i x:Int):(w.set i x).l = w.l.set i.toNat x:=aP.uU (by rw [List.length_set]; rfl)
theorem aP.u6 {v w:aP}:v.l = w.l ↔ v = w:=⟨fun h=>by rw [← aP.tD v,h,aP.tD],fun h=>by rw [h]⟩
structure cA where
 a0:Int
 a1:Int
 a2:Int
 a3:Int
 a4:Int
 a5:Int
 a6:Int
 a7:Int
 a8:Int
 a9:Int
 a10:Int
 a11:Int
 a12:Int
 a13:Int
 a14:Int
 a15:Int
 zX:Int
 deriving DecidableEq,Inhabited
def cA.l (w:cA):List Int:=[w.a0,w.a1,w.a2,w.a3,w.a4,w.a5,w.a6,w.a7,w.a8,w.a9,w.a10,w.a11,w.a12,w.a13,w.a14,w.a15,w.zX]
def cA.of:List Int → cA
 | [a0,a1,a2,a3,a4,a5,a6,a7,a8,a9,a10,a11,a12,a13,a14,a15,zX]=>⟨a0,a1,a2,a3,a4,a5,a6,a7,a8,a9,a10,a11,a12,a13,a14,a15,zX⟩
 | _=>default
def cA.zero:cA:=⟨0,0,0,0,0,0,0,0,0,0,0,0,0,0,0,0,0⟩
def cA.set (w:cA) (i x:Int):cA:=.of (w.l.set i.toNat x)
def jn (k:IntKind) (w:cA):List CP:=w.l.map (.int k)
theorem cA.uU:∀ {l:List Int},l.length = 17 → (cA.of l).l = l
 | [_,_,_,_,_,_,_,_,_,_,_,_,_,_,_,_,_],_=>rfl
theorem cA.tD (w:cA):cA.of w.l = w:=rfl
theorem cA.bS (w:cA):w.l.length = 17:=rfl
theorem cA.iO (w:cA) (i x:Int):(w.set i x).l = w.l.set i.toNat x:=cA.uU (by rw [List.length_set]; rfl)
theorem cA.u6 {v w:cA}:v.l = w.l ↔ v = w:=⟨fun h=>by rw [← cA.tD v,h,cA.tD],fun h=>by rw [h]⟩
structure gY where
 a0:Int
 a1:Int
 a2:Int
 a3:Int
 a4:Int
 a5:Int
 a6:Int
 a7:Int
 a8:Int
 a9:Int
 a10:Int
 a11:Int
 a12:Int
 a13:Int
 a14:Int
 a15:Int
 zX:Int
 a17:Int
 a18:Int
 a19:Int
 a20:Int
 a21:Int
 a22:Int
 a23:Int
 a24:Int
 a25:Int
 a26:Int
 a27:Int
 a28:Int
 a29:Int
 a30:Int
 a31:Int
 deriving DecidableEq,Inhabited
def gY.l (w:gY):List Int:=[w.a0,w.a1,w.a2,w.a3,w.a4,w.a5,w.a6,w.a7,w.a8,w.a9,w.a10,w.a11,w.a12,w.a13,w.a14,w.a15,w.zX,w.a17,w.a18,w.a19,w.a20,w.a21,w.a22,w.a23,w.a24,w.a25,w.a26,w.a27,w.a28,w.a29,w.a30,w.a31]
def gY.of:List Int → gY
 | [a0,a1,a2,a3,a4,a5,a6,a7,a8,a9,a10,a11,a12,a13,a14,a15,zX,a17,a18,a19,a20,a21,a22,a23,a24,a25,a26,a27,a28,a29,a30,a31]=>⟨a0,a1,a2,a3,a4,a5,a6,a7,a8,a9,a10,a11,a12,a13,a14,a15,zX,a17,a18,a19,a20,a21,a22,a23,a24,a25,a26,a27,a28,a29,a30,a31⟩
 | _=>default
def gY.zero:gY:=⟨0,0,0,0,0,0,0,0,0,0,0,0,0,0,0,0,0,0,0,0,0,0,0,0,0,0,0,0,0,0,0,0⟩
def gY.set (w:gY) (i x:Int):gY:=.of (w.l.set i.toNat x)
def w9 (k:IntKind) (w:gY):List CP:=w.l.map (.int k)
theorem gY.uU:∀ {l:List Int},l.length = 32 → (gY.of l).l = l
 | [_,_,_,_,_,_,_,_,_,_,_,_,_,_,_,_,_,_,_,_,_,_,_,_,_,_,_,_,_,_,_,_],_=>rfl
theorem gY.tD (w:gY):gY.of w.l = w:=rfl
theorem gY.bS (w:gY):w.l.length = 32:=rfl
theorem gY.iO (w:gY) (i x:Int):(w.set i x).l = w.l.set i.toNat x:=gY.uU (by rw [List.length_set]; rfl)
theorem gY.u6 {v w:gY}:v.l = w.l ↔ v = w:=⟨fun h=>by rw [← gY.tD v,h,gY.tD],fun h=>by rw [h]⟩
structure aX where
 M:Int
 Kg:Int
 S:Int
 deriving DecidableEq,Inhabited
def aZ (x:aX):List CP:=[.i x.M,.i x.Kg,.i x.S]
structure gv where
 name:bg
 n:Int
 d:Int
 unit:aX
 deriving DecidableEq,Inhabited
def ky (x:gv):List CP:=(.str x.name :: .i x.n :: .i x.d :: (aZ x.unit))
structure bt where
 Bad:Bool
 Neg:Bool
 W:aP
 deriving DecidableEq,Inhabited
def au (x:bt):List CP:=(.bool x.Bad :: .bool x.Neg :: ((eA16 .u32) x.W))
structure bN where
 N:bt
 D:bt
 deriving DecidableEq,Inhabited
def aI (x:bN):List CP:=(au x.N ++ (au x.D))
structure aw where
 V:bN
 U:aX
 deriving DecidableEq,Inhabited
def ap (x:aw):List CP:=(aI x.V ++ (aZ x.U))
structure Reader where
 s:bg
 q:aw
 sign:Int
 deriving DecidableEq,Inhabited
def ri (x:Reader):List CP:=(.str x.s :: (ap x.q ++ ([.i x.sign])))
structure yI where
 numbers:Nat
 units:Nat
 deriving DecidableEq,Inhabited
def Cm (x:yI):List CP:=[.raw (.func (.func x.numbers) #[] #[]),.raw (.func (.func x.units) #[] #[])]
structure qm where
 Q:aw
 E:Int
 deriving DecidableEq,Inhabited
def cg (x:qm):List CP:=(ap x.Q ++ ([.i x.E]))
structure sA where
 N:Int
 To:Int
 deriving DecidableEq,Inhabited
def C8 (x:sA):List CP:=[.i x.N,.i x.To]
structure Number where
 X:bN
 E:Int
 deriving DecidableEq,Inhabited
def gV (x:Number):List CP:=(aI x.X ++ ([.i x.E]))
abbrev eW:=eA16 .u32
abbrev cO:List CP:=.bool false :: .bool false :: eW aP.zero
abbrev eh:List CP:=.bool false :: .bool false :: (eW aP.zero ++ cO)
end Go.Sk
namespace Go.Sk
set_option linter.unusedSimpArgs false
set_option linter.unusedVariables false
open Go Go.BigFrame Go.RowKit Go.Proofs Go.Shelf
def u7 (n:Int):Option bg:=if (Lib.itoa n).length ≤ 1000000000 then some (Lib.itoa n) else none
def tf (s:bg) (c:Int):Option bg:=if 0 ≤ c ∧ c ≤ 1000000000 ∧ s.length * c.toNat ≤ 1000000000 then some (Lib.repeatL s c.toNat) else none
def Aa (xs:List bg) (sep:bg):Option bg:=if xs.length ≤ 1000000000 ∧ (Lib.join xs sep).length ≤ 1000000000 then some (Lib.join xs sep) else none
variable {P:Program} {TB:cG} {ρ:Ren}
theorem Dk {name:String} {gb:Nat} {k:IntKind} {zs:List Int} (hg:P.globalNamed name = some gb) (hm:(gb,zs.map fun z=>Value.int k z) ∈ TB) {h:PH} {w:World} (tb:dR TB h w):Lib.TabIs P w name k zs:=by
 obtain ⟨_,_,T,fz,h3⟩:=tb gb _ hm
 simp only [Lib.TabIs,World.var?,hg,Option.bind_some,h3]
theorem zJ (L:LaysM.n171 P ρ) {gb:Nat} (hg:P.globalNamed "internal/strconv.uint64pow10" = some gb) (hm:(gb,Lib.pow10Tab.map fun z=>Value.int .u64 z) ∈ TB) {n:Int} {r:bg} (h:u7 n = some r):az P TB (ρ.f 171) [] [.one (.int .i64 n)] (Is [] (.b (.one (.str r)))):=by
 unfold u7 at h
 split at h
 ·next hl=>
  cases h
  refine az.lib fun w h ρ' vals tb hag ha=>?_
  obtain ⟨v,rfl,hv⟩:=xU ha
  have hv':v = .int .i64 n ∧ rW .i64 n:=hv
  obtain ⟨rfl,hr⟩:=hv'
  obtain ⟨h0,h1⟩:=yw.1 hr
  refine (Any.strconv_Itoa L n h0 h1 w (Dk hg hm tb)).mono ?_
  rintro e w' ⟨rfl,k,os,rfl⟩
  refine ⟨_,rfl,?_,rfl,by rw [dZ]; omega⟩
  refine ⟨rfl,rfl,rfl,by simp [Sort.grow,World.drewN],fun b hb=>?_⟩
  have hb':b < (w.drewN k).heap.size:=hb
  simp [Sort.grow,Array.getElem?_append,hb']
  intro hh; exact absurd hb' (by omega)
 ·simp at h
theorem wY (L:Lays.n105 P ρ) (X:Builder.Extra P ρ) {s:bg} {c:Int} {r:bg} (h:tf s c = some r):az P TB (ρ.f 105) [] [.one (.str s),.one (.int .i64 c)] (Is [] (.b (.one (.str r)))):=by
 unfold tf at h
 split at h
 ·next hl=>
  cases h
  refine az.lib fun w h ρ' vals tb hag ha=>?_
  obtain ⟨v,u,rfl,hv,hu⟩:=rz ha
  have hv':v = .string ⟨⟨s⟩⟩ ∧ s.length ≤ maxLen:=hv
  have hu':u = .int .i64 c ∧ rW .i64 c:=hu
  obtain ⟨rfl,_⟩:=hv'
  obtain ⟨rfl,_⟩:=hu'
  obtain ⟨c0,rfl⟩:∃ m:Nat,c = m:=⟨c.toNat,by omega⟩
  simp only [Int.toNat_natCast] at hl ⊢
  refine (Any.strings_Repeat L X ⟨⟨s⟩⟩ c0 w (by omega) (by rw [pD]; omega)).mono ?_
  rintro e w' ⟨rfl,hb⟩
  refine ⟨_,rfl,hb,rfl,?_⟩
  rw [Lib.repeatL_length,dZ,Nat.mul_comm]; omega
 ·simp at h
theorem zI (L:Lays.n156 P ρ) (X:Builder.Extra P ρ) {xs:List bg} {sep:bg} {r:bg} (h:Aa xs sep = some r):az P TB (ρ.f 156) [] [.one (.sl 1 (xs.map eS)),.one (.str sep)] (Is [] (.b (.one (.str r)))):=by
 unfold Aa at h
 split at h
 ·next hl=>
  cases h
  refine az.lib fun w h ρ' vals tb hag ha=>?_
  obtain ⟨v,u,rfl,hv,hu⟩:=rz ha
  have hu':u = .string ⟨⟨sep⟩⟩ ∧ sep.length ≤ maxLen:=hu
  obtain ⟨rfl,_⟩:=hu'
  obtain ⟨_,_,hv⟩:=(hv:(CP.sl 1 (xs.map eS)).rel h v)
  have hone:∀ {x:bg},Lib.join [x] sep = x:=fun {x}=>Lib.join_one x sep
  have hfl:∀ l:List bg,(l.map eS).flatten = l.map CP.str:=fun l=>by
   induction l with
   | nil=>rfl
   | cons a l ih=>simp only [List.map_cons,List.flatten_cons,ih,eS]; rfl
  have hmx:(Lib.join xs sep).length ≤ maxLen:=by rw [dZ]; omega
  rcases hv with ⟨rfl,hn⟩ | ⟨b,o,c,rfl,h1,h2,h3⟩
  ·have hx:xs = []:=by simpa using hn
   subst hx
   exact (Any.strings_Join_none L X none 0 ⟨⟨sep⟩⟩ w).mono fun e w' ⟨he,hw⟩=>⟨_,he,hw ▸ Below.refl _ _,rfl,hmx⟩
  ·rw [hfl] at h3
   have hcell:∀ (j:Nat) (x:bg),xs[j]? = some x → w.cell? ⟨b,o + j,none⟩ = some (.string ⟨⟨x⟩⟩):=fun j x hx=>by
    obtain ⟨u,hu1,hu2⟩:=h3 j (CP.str x) (by rw [List.getElem?_map,hx]; rfl)
    rw [hag _ _ _ hu1,hu2.1]
   rw [List.length_map] at h1 ⊢
   match xs,hl,hmx,h1,hcell with
   | [],_,hmx,_,_=>exact (Any.strings_Join_none L X _ c ⟨⟨sep⟩⟩ w).mono fun e w' ⟨he,hw⟩=>⟨_,he,hw ▸ Below.refl _ _,rfl,hmx⟩
   | [x],_,hmx,_,hcell=>
    refine (Any.strings_Join_one L X b o c ⟨⟨x⟩⟩ ⟨⟨sep⟩⟩ w (by simpa using hcell 0 x rfl)).mono fun e w' ⟨he,hw⟩=>⟨_,he,hw ▸ Below.refl _ _,?_,hmx⟩
    rw [hone]
   | x :: y :: r,hl,hmx,h1,hcell=>
    have hmap:((x :: y :: r).map fun l=>(⟨⟨l⟩⟩:ByteArray)).map (·.data.toList) = x :: y :: r:=by
     rw [List.map_map]
     exact List.map_id' _
    have hblk:b < w.heap.size:=fQ (hcell 0 x rfl)
    have:=Any.strings_Join_many L X b o c ((x :: y :: r).map fun l=>(⟨⟨l⟩⟩:ByteArray)) ⟨⟨sep⟩⟩ w (fun j z hz=>by
     rw [List.getElem?_map] at hz
     simp only [Option.map_eq_some_iff] at hz
     obtain ⟨l,hl',rfl⟩:=hz
     exact hcell j l hl') hblk (by simp) (by rw [List.length_map]; omega) (by rw [List.length_map]; exact h1) (by rw [hmap]; show (Lib.join _ sep).length ≤ _; omega)
    rw [hmap,List.length_map] at this
    exact this.mono fun e w' ⟨he,hw⟩=>⟨_,he,hw,rfl,hmx⟩
 ·simp at h
end Go.Sk
namespace Go.Sk
set_option linter.unusedSimpArgs false
set_option linter.unusedVariables false
open Go Go.BigFrame Go.RowKit Go.Proofs Go.Shelf
def Bu (s sep:bg):Option (bg × bg × Bool):=if s.length < 1000000000 then some (Lib.cut s sep) else none
variable {P:Program} {TB:cG} {ρ:Ren}
theorem cut_len (s sep:bg):(Lib.cut s sep).1.length ≤ s.length ∧ (Lib.cut s sep).2.1.length ≤ s.length:=by
 unfold Lib.cut
 split <;> simp <;> omega
theorem az.libS {P:Program} {TB:cG} {f:FuncId} {args:List BV} {res:SV}
  (H:∀ (w:World) (h:PH) (ρ:RM) (vals:List Value),dR TB h w → tK h w → bT (fun (x:BV) v=>x.rel h ρ v) args vals → Calls P f vals.toArray w fun e w'=>∃ v,e = .returned v ∧ Below w.heap.size w w' ∧ res.rel h ρ v):az P TB f [] args (Is [] res):=by
 intro w h ρ vals tb hag hl ha
 refine (H w h ρ vals tb hag ha).mono ?_
 rintro e w' ⟨v,rfl,hb,hr⟩
 refine ⟨v,[],res,h,ρ,rfl,⟨rfl,rfl⟩,⟨fun b o u hu=>?_,PH.le_refl _,fun _ _ _=>rfl,hb.size,fun b hb' _=>hb.block b hb',fun k hk=>by simp [cx] at hk,hb.os,hb.output,fun b hb'=>?_,fun k c hk=>by simp at hk⟩,hr⟩
 ·have hc:=hag b o u hu
  have hlt:b < w.heap.size:=fQ hc
  rw [cell_of_heap (hb.block b hlt)]; exact hc
 ·obtain ⟨k,hk,_⟩:=hb'
  simp [bL] at hk
theorem BP (L:LaysM.n145 P ρ) {m:Int} (hm:(ρ.g 1,[Value.int .i64 m]) ∈ TB) {s sep:bg} {r:bg × bg × Bool} (h:Bu s sep = some r):az P TB (ρ.f 145) [] [.one (.str s),.one (.str sep)] (Is [] (.fE [.one (.str r.1),.one (.str r.2.1),.one (.bool r.2.2)])):=by
 unfold Bu at h
 split at h
 ·next hl=>
  cases h
  refine az.libS fun w h ρ' vals tb hag ha=>?_
  obtain ⟨v,u,rfl,hv,hu⟩:=rz ha
  have hv':v = .string ⟨⟨s⟩⟩ ∧ s.length ≤ maxLen:=hv
  have hu':u = .string ⟨⟨sep⟩⟩ ∧ sep.length ≤ maxLen:=hu
  obtain ⟨rfl,_⟩:=hv'
  obtain ⟨rfl,_⟩:=hu'
  have hc:w.cell? ⟨ρ.g 1,0,none⟩ = some (.int .i64 m):=hag _ _ _ ((tb _ _ hm).2.1 0 _ rfl)
  refine (Any.strings_Cut { L with } ⟨⟨s⟩⟩ ⟨⟨sep⟩⟩ m w (by rw [pD]; omega) hc).mono ?_
  rintro e w' ⟨rfl,k,rfl⟩
  have hcl:=cut_len s sep
  refine ⟨_,rfl,?_,?_⟩
  ·exact ⟨rfl,rfl,rfl,by simp [World.drewN],fun b hb=>rfl⟩
  ·exact ⟨_,rfl,.cons ⟨rfl,by rw [dZ]; omega⟩ (.cons ⟨rfl,by rw [dZ]; omega⟩ (.cons rfl .nil))⟩
 ·simp at h
theorem s7 (L:Lays.n99 P ρ) {s p:bg} {r:Bool} (h:some (Lib.hasPrefix s p) = some r):az P TB (ρ.f 99) [] [.one (.str s),.one (.str p)] (Is [] (.b (.one (.bool r)))):=by
 obtain rfl:=Option.some.inj h
 refine az.lib fun w h ρ' vals tb hag ha=>?_
 obtain ⟨v,u,rfl,hv,hu⟩:=rz ha
 have hv':v = .string ⟨⟨s⟩⟩ ∧ s.length ≤ maxLen:=hv
 have hu':u = .string ⟨⟨p⟩⟩ ∧ p.length ≤ maxLen:=hu
 obtain ⟨rfl,_⟩:=hv'
 obtain ⟨rfl,_⟩:=hu'
 exact (Any.strings_HasPrefix L ⟨⟨s⟩⟩ ⟨⟨p⟩⟩ w).mono fun e w' ⟨he,hw⟩=>⟨_,he,hw ▸ Below.refl _ _,rfl⟩
end Go.Sk
namespace Go.Sk
set_option linter.unusedSimpArgs false
set_option linter.unusedVariables false
open Go
def an {α:Type} (m:Option α) (Q:α → Prop):Prop:=∃ x,m = some x ∧ Q x
section
variable {α β γ δ ε:Type} {m:Option α} {Q:β → Prop} {P:α → Prop}
theorem an.some {x:β} (h:Q x):an (some x) Q:=⟨x,rfl,h⟩
theorem an.bind {k:α → Option β} (h:an m P) (h2:∀ x,P x → an (k x) Q):an (m.bind k) Q:=by
 obtain ⟨x,rfl,hp⟩:=h
 exact h2 x hp
theorem an.aB {k:α → Option β} {x:α} (h:m = Option.some x) (h2:an (k x) Q):an (m.bind k) Q:=by
 subst h; exact h2
theorem an.ite {c:Bool} {A B:Option β} (h1:c = true → an A Q) (h2:c = false → an B Q):an (if c = true then A else B) Q:=by
 cases c
 ·exact h2 rfl
 ·exact h1 rfl
theorem an.fU {c:Bool} {A B:Option β} (h:c = true) (h1:an A Q):an (if c = true then A else B) Q:=by rw [if_pos h]; exact h1
theorem an.iff {c:Bool} {A B:Option β} (h:c = false) (h1:an B Q):an (if c = true then A else B) Q:=by rw [h]; exact h1
theorem an.ln {a:γ} {k:γ → Option β} (h:an (k a) Q):an (bD a k) Q:=h
theorem an.jZ {a:γ} {k:γ → Option β} (b:γ) (e:a = b) (h:an (k b) Q):an (bD a k) Q:=by subst e; exact h
theorem an.eq {x:α} (h:an m (· = x)):m = Option.some x:=by obtain ⟨y,h1,h2⟩:=h; rw [h1,h2]
theorem an.of {x:α} (h:m = Option.some x):an m (· = x):=⟨x,h,rfl⟩
theorem an.mono {P':α → Prop} (h:an m P) (h2:∀ x,P x → P' x):an m P':=by obtain ⟨x,h1,h3⟩:=h; exact ⟨x,h1,h2 x h3⟩
theorem an.idx [Inhabited α] {l:List α} {i:Int} {k:α → Option β} (h0:0 ≤ i) (h1:i < l.length) (h:an (k (idx l i)) Q):an ((bB l i).bind k) Q:=by
 rw [re h0 h1]; exact h
theorem an.g1 [Inhabited α] {g:Bool} {k:α → Option β} (hg:g = true) (h:an (m.bind k) Q):an ((bA g m).bind k) Q:=by subst hg; exact h
theorem an.g0 [Inhabited α] {g:Bool} {k:α → Option β} (hg:g = false) (h:an (k default) Q):an ((bA g m).bind k) Q:=by subst hg; exact h
theorem an.B8 {xs ys:List α} {k:List α → Option β} (h0:xs.length + ys.length ≤ 1000000000) (h:an (k (xs ++ ys)) Q):an ((il xs ys).bind k) Q:=by
 rw [app?_eq h0]; exact h
theorem an.quo {kd:IntKind} {a b:Int} {k:Int → Option β} (h0:b ≠ 0) (h:an (k (kd.wrap (a.tdiv b))) Q):an ((k7 kd a b).bind k) Q:=by
 simp only [k7,h0,if_false]; exact h
theorem an.rem {a b:Int} {k:Int → Option β} (h0:b ≠ 0) (h:an (k (a.tmod b)) Q):an ((tC a b).bind k) Q:=by
 simp only [tC,h0,if_false]; exact h
theorem an.take {xs:List α} {i:Int} {k:List α → Option β} (h0:0 ≤ i) (h1:i ≤ xs.length) (h:an (k (xs.take i.toNat)) Q):an ((oh xs i).bind k) Q:=by
 simp only [oh,h0,h1,and_self,if_true]; exact h
theorem an.drop {xs:List α} {i:Int} {k:List α → Option β} (h0:0 ≤ i) (h1:i ≤ xs.length) (h:an (k (xs.drop i.toNat)) Q):an ((ld xs i).bind k) Q:=by
 simp only [ld,h0,h1,and_self,if_true]; exact h
theorem an.rounds {σ τ:Type} {body:σ → Option (σ ⊕ τ)} {Q:τ → Prop} (n:Nat) (I:Nat → σ → Prop) {s:σ} {F:Nat} (hF:n < F) (h0:I 0 s)
  (step:∀ k s,k ≤ n → I k s → an (body s) fun o=>(∃ s',o = .inl s' ∧ I (k + 1) s' ∧ k < n) ∨ ∃ t,o = .inr t ∧ Q t):an (iter F body s) Q:=by
 have key:∀ d F k s,k + d = n → d < F → I k s → an (iter F body s) Q:=by
  intro d
  induction d with
  | zero=>
   intro F k s hk hF hI
   obtain ⟨F,rfl⟩:∃ f,F = f + 1:=⟨F - 1,by omega⟩
   obtain ⟨o,ho,h⟩:=step k s (by omega) hI
   rw [fh,ho]
   rcases h with ⟨s',rfl,_,hlt⟩ | ⟨t,rfl,hq⟩
   ·omega
   ·exact ⟨t,rfl,hq⟩
  | succ d ih=>
   intro F k s hk hF hI
   obtain ⟨F,rfl⟩:∃ f,F = f + 1:=⟨F - 1,by omega⟩
   obtain ⟨o,ho,h⟩:=step k s (by omega) hI
   rw [fh,ho]
   rcases h with ⟨s',rfl,hI',_⟩ | ⟨t,rfl,hq⟩
   ·exact ih F (k + 1) s' (by omega) (by omega) hI'
   ·exact ⟨t,rfl,hq⟩
 exact key n F 0 s (by omega) hF h0
theorem an.loop {σ τ:Type} {body:σ → Option (σ ⊕ τ)} {Q:τ → Prop} (I:σ → Prop) (μ:σ → Nat) {s:σ} {F:Nat} (h0:I s) (hF:μ s < F)
  (step:∀ s,I s → an (body s) fun o=>(∃ s',o = .inl s' ∧ I s' ∧ μ s' < μ s) ∨ ∃ t,o = .inr t ∧ Q t):an (iter F body s) Q:=by
 refine BU I μ Q (fun s hI=>?_) F s h0 hF
 obtain ⟨o,ho,h⟩:=step s hI
 refine ⟨o,ho,fun s' e=>?_,fun t e=>?_⟩
 ·subst e
  rcases h with ⟨s'',e,h1,h2⟩ | ⟨t,e,_⟩
  ·cases e; exact ⟨h1,h2⟩
  ·cases e
 ·subst e
  rcases h with ⟨s'',e,_⟩ | ⟨t',e,h1⟩
  ·cases e
  ·cases e; exact h1
end
theorem gq (z:Int):IntKind.u64.wrap z = z % 18446744073709551616:=by simp [IntKind.wrap,IntKind.signed,IntKind.bits]
theorem kF (z:Int):IntKind.u32.wrap z = z % 4294967296:=by simp [IntKind.wrap,IntKind.signed,IntKind.bits]
theorem wu8 (z:Int):IntKind.u8.wrap z = z % 256:=by simp [IntKind.wrap,IntKind.signed,IntKind.bits]
theorem cn (z:Int):IntKind.i64.wrap z = (z + 9223372036854775808) % 18446744073709551616 - 9223372036854775808:=by
 simp [IntKind.wrap,IntKind.signed,IntKind.bits]; split <;> omega
theorem dm {z:Int} (h1:-9223372036854775808 ≤ z) (h2:z ≤ 9223372036854775807):IntKind.i64.wrap z = z:=by rw [cn]; omega
theorem eO {a b:Int} (h:0 ≤ a):a.tmod b = a % b:=Int.tmod_eq_emod_of_nonneg h
theorem ep {a b:Int} (h:0 ≤ a):a.tdiv b = a / b:=Int.tdiv_eq_ediv_of_nonneg h
def dg (l:List Int) (i:Nat):Int:=l.getD i 0
theorem dw (l:List Int) (i:Int):idx l i = dg l i.toNat:=rfl
theorem dg_nil (i:Nat):dg [] i = 0:=rfl
theorem oo {l:List Int} {i:Nat} (h:l.length ≤ i):dg l i = 0:=by simp [dg,List.getD,List.getElem?_eq_none h]
theorem iK {l:List Int} {i j:Nat} {x:Int} (hi:i < l.length):dg (l.set i x) j = if j = i then x else dg l j:=by
 unfold dg
 rw [List.getD_eq_getElem?_getD,List.getD_eq_getElem?_getD,List.getElem?_set]
 by_cases e:i = j
 ·subst e; simp [hi]
 ·have:¬ j = i:=fun h=>e h.symm
  simp [e,this]
theorem mV {l m:List Int} {i:Nat}:dg (l ++ m) i = if i < l.length then dg l i else dg m (i - l.length):=by
 unfold dg
 rw [List.getD_eq_getElem?_getD,List.getElem?_append]
 split <;> simp [List.getD_eq_getElem?_getD]
theorem nG {l:List Int} {i n:Nat}:dg (l.take n) i = if i < n then dg l i else 0:=by
 unfold dg
 rw [List.getD_eq_getElem?_getD,List.getElem?_take]
 split <;> simp [List.getD_eq_getElem?_getD]
theorem Be {l:List Int} {i n:Nat}:dg (l.drop n) i = dg l (n + i):=by
 unfold dg
 rw [List.getD_eq_getElem?_getD,List.getElem?_drop,List.getD_eq_getElem?_getD]
theorem dk {i n:Nat}:dg (List.replicate n 0) i = 0:=by
 unfold dg
 rw [List.getD_eq_getElem?_getD,List.getElem?_replicate]
 split <;> rfl
theorem Db {l m:List Int} (h:l.length = m.length) (hd:∀ i,i < l.length → dg l i = dg m i):l = m:=by
 apply List.ext_getElem? 
 intro i
 by_cases hi:i < l.length
 ·have:=hd i hi
  simp only [dg,List.getD_eq_getElem?_getD] at this
  rw [List.getElem?_eq_getElem hi,List.getElem?_eq_getElem (by omega)] at this ⊢
  simpa using this
 ·rw [List.getElem?_eq_none (by omega),List.getElem?_eq_none (by omega)]
def ds (b:Int) (f:Nat → Int):Nat → Int
 | 0=>0
 | n + 1=>ds b f n + f n * b ^ n
theorem c6 (b:Int) (f:Nat → Int) (n:Nat):ds b f (n + 1) = ds b f n + f n * b ^ n:=rfl
theorem dn {b:Int} {f g:Nat → Int}:∀ {n:Nat},(∀ i,i < n → f i = g i) → ds b f n = ds b g n
 | 0,_=>rfl
 | n + 1,h=>by
  unfold ds
  rw [dn (n:=n) fun i hi=>h i (by omega),h n (by omega)]
theorem dK {b:Int} (hb:0 < b) {f:Nat → Int}:∀ {n:Nat},(∀ i,i < n → 0 ≤ f i) → 0 ≤ ds b f n
 | 0,_=>Int.le_refl _
 | n + 1,h=>by
  unfold ds
  have h1:=dK hb (n:=n) fun i hi=>h i (by omega)
  have h2:0 ≤ f n * b ^ n:=Int.mul_nonneg (h n (by omega)) (Int.le_of_lt (Int.pow_pos hb))
  omega
theorem oi {b:Int} (hb:0 < b) {f:Nat → Int}:∀ {n:Nat},(∀ i,i < n → 0 ≤ f i ∧ f i < b) → ds b f n < b ^ n
 | 0,_=>by simp [ds]
 | n + 1,h=>by
  unfold ds
  have h1:=oi hb (n:=n) fun i hi=>h i (by omega)
  have h2:f n * b ^ n ≤ (b - 1) * b ^ n:=Int.mul_le_mul_of_nonneg_right (by have:=(h n (by omega)).2; omega) (Int.le_of_lt (Int.pow_pos hb))
  have h3:(b - 1) * b ^ n = b * b ^ n - b ^ n:=by rw [Int.sub_mul,Int.one_mul]
  have h4:b ^ (n + 1) = b * b ^ n:=by rw [Int.pow_succ,Int.mul_comm]
  omega
theorem kb (b:Int) (f:Nat → Int):∀ n:Nat,ds b f (n + 1) = f 0 + b * ds b (fun i=>f (i + 1)) n
 | 0=>by simp [ds]
 | n + 1=>by
  have ih:=kb b f n
  show ds b f (n + 1) + f (n + 1) * b ^ (n + 1) = f 0 + b * (ds b (fun i=>f (i + 1)) n + f (n + 1) * b ^ n)
  rw [ih,Int.pow_succ,Int.mul_add,Int.add_assoc]
  congr 2
  rw [Int.mul_comm (b ^ n) b,← Int.mul_assoc,← Int.mul_assoc,Int.mul_comm (f (n + 1)) b]
theorem zf {b:Int} (hb:1 < b):∀ {n:Nat} {f g:Nat → Int},(∀ i,i < n → 0 ≤ f i ∧ f i < b) → (∀ i,i < n → 0 ≤ g i ∧ g i < b) → ds b f n = ds b g n → ∀ i,i < n → f i = g i
 | 0,f,g,_,_,_,i,hi=>by omega
 | n + 1,f,g,hf,hg,h,i,hi=>by
  rw [kb,kb] at h
  have e0:f 0 = g 0:=by
   have h1:(f 0 + b * ds b (fun i=>f (i + 1)) n) % b = f 0:=by rw [Int.add_mul_emod_self_left]; exact Int.emod_eq_of_lt (hf 0 (by omega)).1 (hf 0 (by omega)).2
   have h2:(g 0 + b * ds b (fun i=>g (i + 1)) n) % b = g 0:=by rw [Int.add_mul_emod_self_left]; exact Int.emod_eq_of_lt (hg 0 (by omega)).1 (hg 0 (by omega)).2
   rw [← h1,← h2,h]
  cases i with
  | zero=>exact e0
  | succ i=>
   have e1:b * ds b (fun i=>f (i + 1)) n = b * ds b (fun i=>g (i + 1)) n:=by omega
   have e2:=Int.eq_of_mul_eq_mul_left (by omega) e1
   exact zf hb (fun i hi=>hf (i + 1) (by omega)) (fun i hi=>hg (i + 1) (by omega)) e2 i (by omega)
theorem l9 {b:Int} {f:Nat → Int}:∀ {n:Nat},(∀ i,i < n → f i = 0) → ds b f n = 0
 | 0,_=>rfl
 | n + 1,h=>by
  unfold ds
  rw [l9 (n:=n) fun i hi=>h i (by omega),h n (by omega)]
  simp
theorem lm {b:Int} {f:Nat → Int} {n:Nat}:∀ {m:Nat},n ≤ m → (∀ i,n ≤ i → i < m → f i = 0) → ds b f m = ds b f n
 | 0,h,_=>by
  have:n = 0:=by omega
  subst this; rfl
 | m + 1,h,hz=>by
  by_cases e:n = m + 1
  ·subst e; rfl
  ·show ds b f m + f m * b ^ m = _
   rw [lm (m:=m) (by omega) (fun i h1 h2=>hz i h1 (by omega)),hz m (by omega) (by omega)]
   simp
theorem fJ (b:Int) (f:Nat → Int) (n:Nat):∀ m:Nat,ds b f (n + m) = ds b f n + b ^ n * ds b (fun i=>f (n + i)) m
 | 0=>by simp [ds]
 | m + 1=>by
  show ds b f (n + m) + f (n + m) * b ^ (n + m) = ds b f n + b ^ n * (ds b (fun i=>f (n + i)) m + f (n + m) * b ^ m)
  rw [fJ b f n m,Int.pow_add,Int.mul_add,Int.add_assoc]
  congr 2
  rw [← Int.mul_assoc,← Int.mul_assoc,Int.mul_comm (f (n + m))]
def nd (b z:Int) (i:Nat):Int:=z / b ^ i % b
theorem B0 {z p b:Int} (hp:0 < p):z % (p * b) = z % p + z / p % b * p:=by
 have e:=Int.ediv_ediv_of_nonneg (x:=z) (y:=p) (z:=b) (Int.le_of_lt hp)
 rw [Int.emod_def z (p * b),← e,Int.emod_def (z / p) b,Int.emod_def z p]
 grind
theorem Cn {b:Int} (hb:0 < b):∀ (n:Nat) (z:Int),ds b (nd b z) n = z % b ^ n
 | 0,z=>by simp [ds,Int.emod_one]
 | n + 1,z=>by
  unfold ds
  rw [Cn hb n z]
  unfold nd
  have hp:(0:Int) < b ^ n:=Int.pow_pos hb
  have h1:z % b ^ (n + 1) = z % (b ^ n * b):=by rw [Int.pow_succ]
  rw [h1,B0 hp]
end Go.Sk
namespace Go.Proofs
open Go.Shelf
def Tryz.wZ:Go.Shelf.Ren:=⟨fun | 171=>72 | 243=>134 | 246=>174 | 283=>197 | 284=>198 | 285=>199 | 286=>200 | 129=>209 | 317=>208 | 318=>210 | 319=>211 | 320=>212 | 337=>213 | 338=>214 | n=>n,fun | 3=>3 | 9=>9 | 2=>2 | 4=>4 | 171=>202 | 0=>0 | 53=>145 | 37=>48 | 5=>5 | 173=>205 | 212=>213 | 51=>22 | 20=>20 | 213=>214 | 46=>147 | 232=>216 | 233=>217 | n=>n,fun | 17=>2 | 18=>3 | 19=>4 | n=>n⟩
theorem Tryz.DH:Go.Proofs.LaysM.n171 Tryz.prog Tryz.wZ:={
 mixed:=by kernel_rfl
 f129:=Tryz.func209.trans (congrArg some (by kernel_rfl))
 f171:=Tryz.func72.trans (congrArg some (by kernel_rfl))
 f243:=Tryz.func134.trans (congrArg some (by kernel_rfl))
 f246:=Tryz.func174.trans (congrArg some (by kernel_rfl))
 f283:=Tryz.func197.trans (congrArg some (by kernel_rfl))
 f284:=Tryz.func198.trans (congrArg some (by kernel_rfl))
 f285:=Tryz.func199.trans (congrArg some (by kernel_rfl))
 f286:=Tryz.func200.trans (congrArg some (by kernel_rfl))
 f317:=Tryz.func208.trans (congrArg some (by kernel_rfl))
 f318:=Tryz.func210.trans (congrArg some (by kernel_rfl))
 f319:=Tryz.func211.trans (congrArg some (by kernel_rfl))
 f320:=Tryz.func212.trans (congrArg some (by kernel_rfl))
 f337:=Tryz.func213.trans (congrArg some (by kernel_rfl))
 f338:=Tryz.func214.trans (congrArg some (by kernel_rfl))
 t0:=Tryz.underlying0
 a0:=Tryz.isAgg0
 z0:=Tryz.sizeOf0
 v0:=Tryz.zeroValue0
 t2:=Tryz.underlying2
 a2:=Tryz.isAgg2
 z2:=Tryz.sizeOf2
 v2:=Tryz.zeroValue2
 t3:=Tryz.underlying3
 a3:=Tryz.isAgg3
 z3:=Tryz.sizeOf3
 v3:=Tryz.zeroValue3
 t4:=Tryz.underlying4
 a4:=Tryz.isAgg4
 z4:=Tryz.sizeOf4
 v4:=Tryz.zeroValue4
 t5:=Tryz.underlying5
 a5:=Tryz.isAgg5
 z5:=Tryz.sizeOf5
 v5:=Tryz.zeroValue5
 t9:=Tryz.underlying9
 a9:=Tryz.isAgg9
 z9:=Tryz.sizeOf9
 v9:=Tryz.zeroValue9
 t20:=Tryz.underlying20
 a20:=Tryz.isAgg20
 z20:=Tryz.sizeOf20
 v20:=Tryz.zeroValue20
 t37:=Tryz.underlying48
 a37:=Tryz.isAgg48
 z37:=Tryz.sizeOf48
 v37:=Tryz.zeroValue48
 t46:=Tryz.underlying147
 a46:=Tryz.isAgg147
 z46:=Tryz.sizeOf147
 v46:=Tryz.zeroValue147
 t51:=Tryz.underlying22
 a51:=Tryz.isAgg22
 z51:=Tryz.sizeOf22
 v51:=Tryz.zeroValue22
 t53:=Tryz.underlying145
 a53:=Tryz.isAgg145
 z53:=Tryz.sizeOf145
 v53:=Tryz.zeroValue145
 t171:=Tryz.underlying202
 a171:=Tryz.isAgg202
 z171:=Tryz.sizeOf202
 v171:=Tryz.zeroValue202
 t173:=Tryz.underlying205
 a173:=Tryz.isAgg205
 z173:=Tryz.sizeOf205
 v173:=Tryz.zeroValue205
 t212:=Tryz.underlying213
 a212:=Tryz.isAgg213
 z212:=Tryz.sizeOf213
 v212:=Tryz.zeroValue213
 t213:=Tryz.underlying214
 a213:=Tryz.isAgg214
 z213:=Tryz.sizeOf214
 t232:=Tryz.underlying216
 a232:=Tryz.isAgg216
 z232:=Tryz.sizeOf216
 v232:=Tryz.zeroValue216
 t233:=Tryz.underlying217
 a233:=Tryz.isAgg217
 z233:=Tryz.sizeOf217
 v233:=Tryz.zeroValue217
 g17:=by kernel_rfl
 g18:=by kernel_rfl
 g19:=by kernel_rfl
 i0:=by kernel_rfl
 i2:=by kernel_rfl
 i3:=by kernel_rfl
 i4:=by kernel_rfl
 i5:=by kernel_rfl
 i9:=by kernel_rfl
 i20:=by kernel_rfl
 i37:=by kernel_rfl
 i46:=by kernel_rfl
 i51:=by kernel_rfl
 i53:=by kernel_rfl
 i171:=by kernel_rfl
 i173:=by kernel_rfl
 i212:=by kernel_rfl
 i232:=by kernel_rfl
 i233:=by kernel_rfl
 m17:=by kernel_rfl
 m18:=by kernel_rfl
 m19:=by kernel_rfl }
def Tryz.sO:Go.Shelf.Ren:=⟨fun | 105=>126 | 212=>167 | 99=>122 | 165=>168 | 166=>169 | 170=>170 | 169=>171 | 263=>192 | 264=>193 | 206=>165 | 240=>194 | 241=>195 | 276=>206 | 277=>207 | n=>n,fun | 9=>9 | 3=>3 | 4=>4 | 20=>20 | 0=>0 | 46=>147 | 109=>171 | 5=>5 | 72=>175 | 76=>179 | 51=>22 | 146=>196 | 53=>145 | 148=>198 | 70=>173 | 37=>48 | 75=>178 | 127=>200 | 164=>209 | 80=>140 | n=>n,fun | n=>n⟩
theorem Tryz.lays105:Go.Proofs.Lays.n105 Tryz.prog Tryz.sO:={
 mixed:=by kernel_rfl
 f99:=Tryz.func122.trans (congrArg some (by kernel_rfl))
 f105:=Tryz.func126.trans (congrArg some (by kernel_rfl))
 f165:=Tryz.func168.trans (congrArg some (by kernel_rfl))
 f166:=Tryz.func169.trans (congrArg some (by kernel_rfl))
 f169:=Tryz.func171.trans (congrArg some (by kernel_rfl))
 f170:=Tryz.func170.trans (congrArg some (by kernel_rfl))
 f206:=Tryz.func165.trans (congrArg some (by kernel_rfl))
 f212:=Tryz.func167.trans (congrArg some (by kernel_rfl))
 f240:=Tryz.func194.trans (congrArg some (by kernel_rfl))
 f241:=Tryz.func195.trans (congrArg some (by kernel_rfl))
 f263:=Tryz.func192.trans (congrArg some (by kernel_rfl))
 f264:=Tryz.func193.trans (congrArg some (by kernel_rfl))
 f276:=Tryz.func206.trans (congrArg some (by kernel_rfl))
 f277:=Tryz.func207.trans (congrArg some (by kernel_rfl))
 t0:=Tryz.underlying0
 a0:=Tryz.isAgg0
 z0:=Tryz.sizeOf0
 v0:=Tryz.zeroValue0
 t3:=Tryz.underlying3
 a3:=Tryz.isAgg3
 z3:=Tryz.sizeOf3
 v3:=Tryz.zeroValue3
 t4:=Tryz.underlying4
 a4:=Tryz.isAgg4
 z4:=Tryz.sizeOf4
 v4:=Tryz.zeroValue4
 t5:=Tryz.underlying5
 a5:=Tryz.isAgg5
 z5:=Tryz.sizeOf5
 v5:=Tryz.zeroValue5
 t9:=Tryz.underlying9
 a9:=Tryz.isAgg9
 z9:=Tryz.sizeOf9
 v9:=Tryz.zeroValue9
 t20:=Tryz.underlying20
 a20:=Tryz.isAgg20
 z20:=Tryz.sizeOf20
 v20:=Tryz.zeroValue20
 t37:=Tryz.underlying48
 a37:=Tryz.isAgg48
 z37:=Tryz.sizeOf48
 v37:=Tryz.zeroValue48
 t46:=Tryz.underlying147
 a46:=Tryz.isAgg147
 z46:=Tryz.sizeOf147
 v46:=Tryz.zeroValue147
 t51:=Tryz.underlying22
 a51:=Tryz.isAgg22
 z51:=Tryz.sizeOf22
 v51:=Tryz.zeroValue22
 t53:=Tryz.underlying145
 a53:=Tryz.isAgg145
 z53:=Tryz.sizeOf145
 v53:=Tryz.zeroValue145
 t70:=Tryz.underlying173
 a70:=Tryz.isAgg173
 z70:=Tryz.sizeOf173
 v70:=Tryz.zeroValue173
 t72:=Tryz.underlying175
 a72:=Tryz.isAgg175
 z72:=Tryz.sizeOf175
 v72:=Tryz.zeroValue175
 t75:=Tryz.underlying178
 a75:=Tryz.isAgg178
 z75:=Tryz.sizeOf178
 v75:=Tryz.zeroValue178
 t76:=Tryz.underlying179
 a76:=Tryz.isAgg179
 z76:=Tryz.sizeOf179
 v76:=Tryz.zeroValue179
 t109:=Tryz.underlying171
 a109:=Tryz.isAgg171
 z109:=Tryz.sizeOf171
 v109:=Tryz.zeroValue171
 t127:=Tryz.underlying200
 a127:=Tryz.isAgg200
 z127:=Tryz.sizeOf200
 v127:=Tryz.zeroValue200
 t146:=Tryz.underlying196
 a146:=Tryz.isAgg196
 z146:=Tryz.sizeOf196
 v146:=Tryz.zeroValue196
 t148:=Tryz.underlying198
 a148:=Tryz.isAgg198
 z148:=Tryz.sizeOf198
 v148:=Tryz.zeroValue198
 t164:=Tryz.underlying209
 a164:=Tryz.isAgg209
 z164:=Tryz.sizeOf209
 v164:=Tryz.zeroValue209 }
theorem Tryz.rV:Builder.Extra Tryz.prog Tryz.sO:={
 sizeBuilder:=by kernel_rfl
 liesBuilder:=by kernel_rfl
 t5:=Tryz.underlying5
 a5:=Tryz.isAgg5
 z5:=Tryz.sizeOf5
 v5:=Tryz.zeroValue5
 infoByte:=by kernel_rfl
 cellsByte:=by kernel_rfl
 sizeByte:=by kernel_rfl
 neB5:=by decide }
def Tryz.sN:Go.Shelf.Ren:=⟨fun | 156=>128 | 165=>168 | 166=>169 | 169=>171 | 240=>194 | 241=>195 | 276=>206 | 277=>207 | n=>n,fun | 31=>110 | 9=>9 | 3=>3 | 4=>4 | 0=>0 | 20=>20 | 72=>175 | 76=>179 | 70=>173 | 37=>48 | 75=>178 | 127=>200 | 164=>209 | 5=>5 | 80=>140 | n=>n,fun | n=>n⟩
theorem Tryz.lays156:Go.Proofs.Lays.n156 Tryz.prog Tryz.sN:={
 mixed:=by kernel_rfl
 f156:=Tryz.func128.trans (congrArg some (by kernel_rfl))
 f165:=Tryz.func168.trans (congrArg some (by kernel_rfl))
 f166:=Tryz.func169.trans (congrArg some (by kernel_rfl))
 f169:=Tryz.func171.trans (congrArg some (by kernel_rfl))
 f240:=Tryz.func194.trans (congrArg some (by kernel_rfl))
 f241:=Tryz.func195.trans (congrArg some (by kernel_rfl))
 f276:=Tryz.func206.trans (congrArg some (by kernel_rfl))
 f277:=Tryz.func207.trans (congrArg some (by kernel_rfl))
 t0:=Tryz.underlying0
 a0:=Tryz.isAgg0
 z0:=Tryz.sizeOf0
 v0:=Tryz.zeroValue0
 t3:=Tryz.underlying3
 a3:=Tryz.isAgg3
 z3:=Tryz.sizeOf3
 v3:=Tryz.zeroValue3
 t4:=Tryz.underlying4
 a4:=Tryz.isAgg4
 z4:=Tryz.sizeOf4
 v4:=Tryz.zeroValue4
 t9:=Tryz.underlying9
 a9:=Tryz.isAgg9
 z9:=Tryz.sizeOf9
 v9:=Tryz.zeroValue9
 t20:=Tryz.underlying20
 a20:=Tryz.isAgg20
 z20:=Tryz.sizeOf20
 v20:=Tryz.zeroValue20
 t31:=Tryz.underlying110
 a31:=Tryz.isAgg110
 z31:=Tryz.sizeOf110
 v31:=Tryz.zeroValue110
 t37:=Tryz.underlying48
 a37:=Tryz.isAgg48
 z37:=Tryz.sizeOf48
 v37:=Tryz.zeroValue48
 t70:=Tryz.underlying173
 a70:=Tryz.isAgg173
 z70:=Tryz.sizeOf173
 v70:=Tryz.zeroValue173
 t72:=Tryz.underlying175
 a72:=Tryz.isAgg175
 z72:=Tryz.sizeOf175
 v72:=Tryz.zeroValue175
 t75:=Tryz.underlying178
 a75:=Tryz.isAgg178
 z75:=Tryz.sizeOf178
 v75:=Tryz.zeroValue178
 t76:=Tryz.underlying179
 a76:=Tryz.isAgg179
 z76:=Tryz.sizeOf179
 v76:=Tryz.zeroValue179
 t127:=Tryz.underlying200
 a127:=Tryz.isAgg200
 z127:=Tryz.sizeOf200
 v127:=Tryz.zeroValue200
 t164:=Tryz.underlying209
 a164:=Tryz.isAgg209
 z164:=Tryz.sizeOf209
 v164:=Tryz.zeroValue209 }
theorem Tryz.rU:Builder.Extra Tryz.prog Tryz.sN:={
 sizeBuilder:=by kernel_rfl
 liesBuilder:=by kernel_rfl
 t5:=Tryz.underlying5
 a5:=Tryz.isAgg5
 z5:=Tryz.sizeOf5
 v5:=Tryz.zeroValue5
 infoByte:=by kernel_rfl
 cellsByte:=by kernel_rfl
 sizeByte:=by kernel_rfl
 neB5:=by decide }
def Tryz.rO:Go.Shelf.Ren:=⟨fun | 145=>59 | 220=>116 | 219=>162 | 217=>187 | 225=>188 | 224=>189 | 267=>190 | 266=>204 | 314=>205 | n=>n,fun | 9=>9 | 4=>4 | 59=>82 | 3=>3 | 5=>5 | 46=>147 | 146=>196 | 51=>22 | n=>n,fun | 1=>1 | n=>n⟩
theorem Tryz.DI:Go.Proofs.LaysM.n145 Tryz.prog Tryz.rO:={
 mixed:=by kernel_rfl
 f145:=Tryz.func59.trans (congrArg some (by kernel_rfl))
 f217:=Tryz.func187.trans (congrArg some (by kernel_rfl))
 f219:=Tryz.func162.trans (congrArg some (by kernel_rfl))
 f220:=Tryz.func116.trans (congrArg some (by kernel_rfl))
 f224:=Tryz.func189.trans (congrArg some (by kernel_rfl))
 f225:=Tryz.func188.trans (congrArg some (by kernel_rfl))
 f266:=Tryz.func204.trans (congrArg some (by kernel_rfl))
 f267:=Tryz.func190.trans (congrArg some (by kernel_rfl))
 f314:=Tryz.func205.trans (congrArg some (by kernel_rfl))
 t3:=Tryz.underlying3
 a3:=Tryz.isAgg3
 z3:=Tryz.sizeOf3
 v3:=Tryz.zeroValue3
 t4:=Tryz.underlying4
 a4:=Tryz.isAgg4
 z4:=Tryz.sizeOf4
 v4:=Tryz.zeroValue4
 t5:=Tryz.underlying5
 a5:=Tryz.isAgg5
 z5:=Tryz.sizeOf5
 v5:=Tryz.zeroValue5
 t9:=Tryz.underlying9
 a9:=Tryz.isAgg9
 z9:=Tryz.sizeOf9
 v9:=Tryz.zeroValue9
 t46:=Tryz.underlying147
 a46:=Tryz.isAgg147
 z46:=Tryz.sizeOf147
 v46:=Tryz.zeroValue147
 t51:=Tryz.underlying22
 a51:=Tryz.isAgg22
 z51:=Tryz.sizeOf22
 v51:=Tryz.zeroValue22
 t59:=Tryz.underlying82
 a59:=Tryz.isAgg82
 z59:=Tryz.sizeOf82
 v59:=Tryz.zeroValue82
 t146:=Tryz.underlying196
 a146:=Tryz.isAgg196
 z146:=Tryz.sizeOf196
 v146:=Tryz.zeroValue196
 g1:=by kernel_rfl
 i3:=by kernel_rfl
 i4:=by kernel_rfl
 i5:=by kernel_rfl
 i9:=by kernel_rfl
 i46:=by kernel_rfl
 i51:=by kernel_rfl
 i59:=by kernel_rfl
 i146:=by kernel_rfl
 m1:=by kernel_rfl
 s1_3:=fun w h=>Go.Proofs.cell_of_shapedOpen_int (zero:=#[.int .i64 0]) (t:=3) h (of_decide_eq_true (by kernel_rfl)) (by kernel_rfl) rfl (by kernel_rfl) (by kernel_rfl) Tryz.underlying3 }
def Tryz.zK:Go.Shelf.Ren:=⟨fun | 99=>122 | 206=>165 | n=>n,fun | 9=>9 | 4=>4 | 3=>3 | n=>n,fun | n=>n⟩
theorem Tryz.lays99:Go.Proofs.Lays.n99 Tryz.prog Tryz.zK:={
 mixed:=by kernel_rfl
 f99:=Tryz.func122.trans (congrArg some (by kernel_rfl))
 f206:=Tryz.func165.trans (congrArg some (by kernel_rfl))
 t3:=Tryz.underlying3
 a3:=Tryz.isAgg3
 z3:=Tryz.sizeOf3
 v3:=Tryz.zeroValue3
 t4:=Tryz.underlying4
 a4:=Tryz.isAgg4
 z4:=Tryz.sizeOf4
 v4:=Tryz.zeroValue4
 t9:=Tryz.underlying9
 a9:=Tryz.isAgg9
 z9:=Tryz.sizeOf9
 v9:=Tryz.zeroValue9 }
end Go.Proofs
