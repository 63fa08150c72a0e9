/- part of the proof: the framework -/
import Derived.WalkKit
import Derived.ProofKit
import Derived.BigCall
import Derived.Laws.Cover3
import Derived.OpenShut
import Derived.ReadAgain
import Derived.Deep.Slices
import Derived.JoinedCond
import Derived.Handed
import Derived.Lib.AppendZerosOnto
import Derived.Lib.Overlaps
set_option linter.unusedSectionVars false
set_option linter.unusedSimpArgs false
set_option linter.unusedVariables false
open Go.IntKind (i8 i16 i32 i64 u8 u16 u32 u64)
namespace Go.Sk
universe u
theorem zaa {α : Type u} {a b : α} (h : some a = some b) : a = b := Option.some.inj h
theorem zab {n m : Nat} (h : Nat.ble n m = true) : n ≤ m := Nat.le_of_ble_eq_true h
open Go
abbrev PH:=Nat->Nat->Option Value
def PH.le (h h':PH):Prop:=∀ b o v,h b o=some v->h' b o=some v
theorem PH.le_refl (h:PH):h.le h:=fun _ _ _ x=>x
theorem PH.le_trans {a b c:PH} (x:a.le b) (y:b.le c):a.le c:=fun _ _ _ z=>y _ _ _ (x _ _ _ z)
def entV (ms:List MapEntry):Value:=.tuple (ms.map fun e=>Value.tuple #[e.key,e.val]).toArray
def look (w:World) (b o:Nat):Option Value:=match w.heap[b]? with
 | some (.map ms _)=>if o=0 then some (entV ms.toList) else none
 | _=>match w.cell? ⟨b,o,none⟩ with
  | some v=>if v.oneCell'=true then some v else none
  | none=>none
def pc (h:PH) (w:World):Prop:=∀ b o v,h b o=some v->look w b o=some v
theorem mX {w w':World} {b:Nat} (h:w'.heap[b]?=w.heap[b]?) (o:Nat):look w' b o=look w b o:=by unfold look World.cell?;rw[h]
theorem gr {w:World} {b o:Nat} {v:Value} (h:w.cell? ⟨b,o,none⟩=some v) (h1:v.oneCell'=true):look w b o=some v:=by
 unfold look
 split
 next ms clk e=>simp[World.cell?,e] at h
 rw[h];exact if_pos h1
theorem rS {w:World} {b o:Nat} {cur:Array Value} {T:TypeId} {fr:Nat×Nat} {v:Value} (h:w.heap[b]?=some (.cells cur T fr)) (hv:cur[o]?=some v) (h1:v.oneCell'=true):look w b o=some v:=gr (by simp[World.cell?,h,hv]) h1
theorem Ej {w:World} {b o:Nat} {v:Value} (h:look w b o=some v) (h1:v.oneCell'=true):w.cell? ⟨b,o,none⟩=some v:=by
 unfold look at h
 split at h
 split at h
 cases h;simp[entV,Value.oneCell'] at h1
 cases h
 split at h
 next u hu=>
  split at h
  cases h;exact hu
  cases h
 cases h
theorem iq {w:World} {b o:Nat} {v:Value} (h:look w b o=some v):b<w.heap.size:=by
 rcases Nat.lt_or_ge b w.heap.size with g|g
 exact g
 simp[look,World.cell?,Array.getElem?_eq_none g] at h
theorem pc.cell {h:PH} {w:World} (ha:pc h w) {b o:Nat} {v:Value} (hv:h b o=some v) (h1:v.oneCell'=true):w.cell? ⟨b,o,none⟩=some v:=Ej (ha b o v hv) h1
def mf (k:IntKind) (n:Int):Prop:=k.min<=n/\n<=k.max
structure CP where
 rel:PH->Value->Prop
 mono:∀ {h h':PH} {v:Value},h.le h'->rel h v->rel h' v
 one:∀ {h:PH} {v:Value},rel h v->v.oneCell'=true
def CP.int (k:IntKind) (n:Int):CP:=⟨fun _ v=>v=.int k n/\mf k n,fun _ x=>x,fun x=>by rw[x.1];rfl⟩
def CP.bool (b:Bool):CP:=⟨fun _ v=>v=.bool b,fun _ x=>x,fun x=>by rw[x];rfl⟩
abbrev Str:=List UInt8
def CP.str (s:Str):CP:=⟨fun _ v=>v=.string ⟨⟨s⟩⟩/\s.length<=maxLen,fun _ x=>x,fun x=>by rw[x.1];rfl⟩
def CP.raw (u:Value):CP:=⟨fun _ v=>v=u/\u.oneCell'=true,fun _ x=>x,fun x=>by rw[x.1];exact x.2⟩
def CP.any:CP:=⟨fun _ v=>v.oneCell'=true,fun _ x=>x,fun x=>x⟩
def Reads (h:PH) (b o:Nat) (ps:List CP):Prop:=∀ (j:Nat) (c:CP),ps[j]?=some c->∃ u,h b (o+j)=some u/\c.rel h u
theorem Reads.mono {h h':PH} {b o:Nat} {ps:List CP} (hl:h.le h') (x:Reads h b o ps):Reads h' b o ps :=
 fun j c hc=>let ⟨u,hu,hr⟩:=x j c hc;⟨u,hl _ _ _ hu,c.mono hl hr⟩
theorem Reads.drop {h:PH} {b o:Nat} {ps:List CP} (x:Reads h b o ps) (n:Nat):Reads h b (o+n) (ps.drop n):=by
 intro j c hc
 rw[List.getElem?_drop] at hc
 obtain⟨u,hu,hr⟩:=x _ _ hc
 exact⟨u,by rw[Nat.add_assoc];exact hu,hr⟩
def ca (size:Nat) (es:List (List CP)):Prop:=∀ ps∈es,ps.length=size
def CP.sl (size:Nat) (es:List (List CP)):CP :=
 ⟨fun h v=>ca size es/\0<size/\((v=.slice none 0 0/\es=[]) ∨
  (∃ b o c,v=.slice (some ⟨b,o,none⟩) es.length c/\es.length<=c/\c<=maxLen/\Reads h b o es.flatten)∨(∃ a,v=.slice (some a) 0 0/\es=[])),
  fun hl x=>⟨x.1,x.2.1,x.2.2.imp id (Or.imp (fun ⟨b,o,c,h1,h2,h3,h4⟩=>⟨b,o,c,h1,h2,h3,h4.mono hl⟩) id)⟩,
  fun x=>by rcases x.2.2 with ⟨h,_⟩|⟨_,_,_,h,_⟩|⟨_,h,_⟩<;>rw[h]<;>rfl⟩
def CP.nil:CP:=CP.raw (.slice none 0 0)
theorem jo {size:Nat}:∀ {es:List (List CP)},ca size es->∀ (i:Nat) (ps:List CP),es[i]?=some ps->∀ j,j<size->es.flatten[i*size+j]?=ps[j]?
 | [],_,i,ps,hi,_,_=>by simp at hi
 | p::es,hu,0,ps,hi,j,hj=>by
  have hp:p.length=size:=hu p (by simp)
  simp at hi;subst hi
  simp only[List.flatten_cons,Nat.zero_mul,Nat.zero_add]
  rw[List.getElem?_append_left (by omega)]
 | p::es,hu,i+1,ps,hi,j,hj=>by
  have hp:p.length=size:=hu p (by simp)
  have ih:=jo (es:=es) (fun q hq=>hu q (by simp[hq])) i ps (by simpa using hi) j hj
  have e:(i+1)*size+j=size+(i*size+j):=by rw[Nat.add_mul];omega
  rw[List.flatten_cons,List.getElem?_append_right (by omega),hp,e,Nat.add_sub_cancel_left,ih]
theorem gp {size:Nat}:∀ {es:List (List CP)},ca size es->es.flatten.length=es.length*size
 | [],_=>by simp
 | p::es,hu=>by
  have hp:p.length=size:=hu p (by simp)
  rw[List.flatten_cons,List.length_append,gp (es:=es) (fun q hq=>hu q (by simp[hq])),hp,List.length_cons,Nat.add_mul];omega
theorem Reads.elem {h:PH} {b o size:Nat} {es:List (List CP)} (hu:ca size es) (x:Reads h b o es.flatten) (i:Nat) (ps:List CP) (hi:es[i]?=some ps) :
 Reads h b (o+i*size) ps:=by
 intro j c hc
 have hl:ps.length=size:=hu ps (List.mem_of_getElem? hi)
 have hj:j<size:=by rw[← hl];exact (List.getElem?_eq_some_iff.1 hc).1
 have:=jo hu i ps hi j hj
 obtain⟨u,hu',hr⟩:=x (i*size+j) c (by rw[this];exact hc)
 exact⟨u,by rw[Nat.add_assoc];exact hu',hr⟩
inductive CV where
 | one (p:CP)
 | ptr (k off:Nat)
 | row (k:Nat)
inductive BV where
 | one (p:CP)
 | agg (ps:List CP)
 | ptr (k off:Nat)
 | row (k:Nat)
 | gO (k off:Nat)
 | part (k size lo len c:Nat)
 | kG (ps:List CP)
 | Em (k off len c:Nat)
 | cJ (f:Nat) (fs cs:List CV)
 | xa (cs:List CV)
inductive SV where
 | b (x:BV)
 | lC (l:List BV)
 | opt (c:Bool) (x:BV)
 | kF (l:List BV)
inductive aO {α β:Type} (r:α->β->Prop):List α->List β->Prop
 | nil:aO r [] []
 | cons {a:α} {b:β} {as:List α} {bs:List β} (h:r a b) (t:aO r as bs):aO r (a::as) (b::bs)
namespace aO
variable {α β:Type} {r r':α->β->Prop} {as:List α} {bs:List β}
theorem length (h:aO r as bs):as.length=bs.length:=by induction h<;>simp_all
theorem mono (h:aO r as bs) (hr:∀ a b,r a b->r' a b):aO r' as bs:=by
 induction h with
 | nil=>exact .nil
 | cons h _ ih=>exact .cons (hr _ _ h) ih
theorem get (h:aO r as bs):∀ (i:Nat) (a:α),as[i]?=some a->∃ b,bs[i]?=some b/\r a b:=by
 induction h with
 | nil=>intro i a hi;simp at hi
 | cons h _ ih=>
  intro i a hi
  cases i with
  | zero=>simp at hi;subst hi;exact⟨_,by simp,h⟩
  | succ i=>simpa using ih i a (by simpa using hi)
theorem Aj:∀ {as:List α} {bs:List β},as.length=bs.length->(∀ (i:Nat) (a:α) (b:β),as[i]?=some a->bs[i]?=some b->r a b)->aO r as bs
 | [],[],_,_=>.nil
 | [],_::_,h,_=>by simp at h
 | _::_,[],h,_=>by simp at h
 | a::as,b::bs,h,hr=>.cons (hr 0 a b (by simp) (by simp)) (Aj (by simpa using h) fun i x y hx hy=>hr (i+1) x y (by simpa using hx) (by simpa using hy))
theorem append {as':List α} {bs':List β} (h:aO r as bs) (h':aO r as' bs'):aO r (as++as') (bs++bs'):=by
 induction h with
 | nil=>exact h'
 | cons h _ ih=>exact .cons h ih
theorem take (h:aO r as bs) (n:Nat):aO r (as.take n) (bs.take n):=by
 induction h generalizing n with
 | nil=>simp;exact .nil
 | cons h _ ih=>cases n with
  | zero=>simp;exact .nil
  | succ n=>simp;exact .cons h (ih n)
theorem drop (h:aO r as bs) (n:Nat):aO r (as.drop n) (bs.drop n):=by
 induction h generalizing n with
 | nil=>simp;exact .nil
 | cons h t ih=>cases n with
  | zero=>simp;exact .cons h t
  | succ n=>simpa using ih n
theorem set (h:aO r as bs) (i:Nat) {a:α} {b:β} (hr:r a b):aO r (as.set i a) (bs.set i b):=by
 induction h generalizing i with
 | nil=>simp;exact .nil
 | cons h t ih=>cases i with
  | zero=>simp;exact .cons hr t
  | succ i=>simp;exact .cons h (ih i)
theorem CE (h:aO r as bs) {b:β} (hb:b∈bs):∃ a,a∈as/\r a b:=by
 induction h with
 | nil=>simp at hb
 | cons h _ ih=>
  cases List.mem_cons.1 hb with
  | inl e=>subst e;exact⟨_,by simp,h⟩
  | inr e=>obtain⟨a,ha,hr⟩:=ih e;exact⟨a,by simp[ha],hr⟩
end aO
def aB (h:PH) (ps:List CP) (cs:List Value):Prop:=aO (fun (c:CP) v=>c.rel h v) ps cs
theorem aB.mono {h h':PH} {ps:List CP} {cs:List Value} (hl:h.le h') (x:aB h ps cs):aB h' ps cs:=aO.mono x fun c _=>c.mono hl
theorem aB.one {h:PH} {ps:List CP} {cs:List Value} (x:aB h ps cs):∀ u∈cs,u.oneCell'=true:=fun _ hv=>let ⟨c,_,hc⟩:=aO.CE x hv;c.one hc
abbrev RM:=Nat->Value
def CV.rel (h:PH) (ρ:RM):CV->Value->Prop
 | .one p,v=>p.rel h v
 | .ptr k off,v=>∃ b,ρ k=.pointer (some ⟨b,0,none⟩)/\v=.pointer (some ⟨b,off,none⟩)
 | .row k,v=>v=ρ k
def CV.bf (k:Nat):CV->Bool
 | .ptr j _|.row j=>j==k
 | _=>false
theorem CV.mono {h h':PH} {ρ ρ':RM} (hl:h.le h') {x:CV} (hρ:∀ k,x.bf k=true->ρ' k=ρ k) {v:Value} (hx:x.rel h ρ v):x.rel h' ρ' v:=by
 cases x with
 | one p=>exact p.mono hl hx
 | ptr k off=>have:=hρ k (by simp[CV.bf]);simpa[CV.rel,this] using hx
 | row k=>have:=hρ k (by simp[CV.bf]);simpa[CV.rel,this] using hx
theorem CV.Ke {h h':PH} {ρ ρ':RM} (hl:h.le h'):∀ {l:List CV} {vs:List Value},(∀ k,l.any (·.bf k)=true->ρ' k=ρ k)->aO (fun (x:CV) v=>x.rel h ρ v) l vs->aO (fun (x:CV) v=>x.rel h' ρ' v) l vs
 | _,_,_,.nil=>.nil
 | _,_,hρ,.cons h1 t=>.cons (CV.mono hl (fun k hk=>hρ k (by simp[hk])) h1) (CV.Ke hl (fun k hk=>hρ k (by simp only[List.any_cons,hk,Bool.or_true])) t)
theorem CV.monoX {h h':PH} {ρ ρ':RM} (hl:h.le h'):∀ {l:List CV} {vs:List Value},(∀ k,l.any (·.bf k)=true->ρ' k=ρ k)->aO (fun (x:CV) v=>x.rel h ρ v/\v.oneCell'=true) l vs->aO (fun (x:CV) v=>x.rel h' ρ' v/\v.oneCell'=true) l vs
 | _,_,_,.nil=>.nil
 | _,_,hρ,.cons h1 t=>.cons ⟨CV.mono hl (fun k hk=>hρ k (by simp[hk])) h1.1,h1.2⟩ (CV.monoX hl (fun k hk=>hρ k (by simp only[List.any_cons,hk,Bool.or_true])) t)
def BV.rel (h:PH) (ρ:RM):BV->Value->Prop
 | .xa cs,v=>∃ vs,v=.agg vs/\aO (fun (x:CV) u=>x.rel h ρ u/\u.oneCell'=true) cs vs.toList
 | .one p,v=>p.rel h v
 | .agg ps,v=>∃ cs,v=.agg cs/\aB h ps cs.toList
 | .ptr k off,v=>∃ b,ρ k=.pointer (some ⟨b,0,none⟩)/\v=.pointer (some ⟨b,off,none⟩)
 | .row k,v=>v=ρ k
 | .gO k off,v=>∃ b n c,ρ k=.slice (some ⟨b,0,none⟩) n c/\v=.pointer (some ⟨b,off,none⟩)
 | .part k size lo len c,v=>∃ b n,ρ k=.slice (some ⟨b,0,none⟩) n c/\v=.slice (some ⟨b,lo*size,none⟩) len (c-lo)/\lo+len<=c
 | .kG ps,v=>∃ b o,v=.pointer (some ⟨b,o,none⟩)/\Reads h b o ps
 | .Em k off len c,v=>∃ b,ρ k=.pointer (some ⟨b,0,none⟩)/\v=.slice (some ⟨b,off,none⟩) len c
 | .cJ f fs cs,v=>∃ a b,v=.func (.func f) a b/\aO (fun (x:CV) u=>x.rel h ρ u) fs a.toList/\aO (fun (x:CV) u=>x.rel h ρ u) cs b.toList
def SV.rel (h:PH) (ρ:RM):SV->Value->Prop
 | .b x,v=>x.rel h ρ v
 | .lC l,v=>∃ vs,v=.tuple vs/\aO (fun (x:BV) u=>x.rel h ρ u) l vs.toList
 | .opt c x,v=>(c=true->x.rel h ρ v)/\(c=false->v=undef)
 | .kF l,v=>∃ vs,v=.agg vs/\aO (fun (x:BV) u=>x.rel h ρ u/\u.oneCell'=true) l vs.toList
def BV.bf (k:Nat):BV->Bool
 | .ptr j _|.row j|.gO j _|.part j _ _ _ _|.Em j _ _ _=>j==k
 | .cJ _ fs cs=>fs.any (·.bf k)||cs.any (·.bf k)
 | .xa cs=>cs.any (·.bf k)
 | _=>false
def SV.bf (k:Nat):SV->Bool
 | .b x=>x.bf k
 | .lC l=>l.any (·.bf k)
 | .kF l=>l.any (·.bf k)
 | .opt _ x=>x.bf k
theorem BV.mono {h h':PH} {ρ ρ':RM} (hl:h.le h') {x:BV} (hρ:∀ k,x.bf k=true->ρ' k=ρ k) {v:Value} (hx:x.rel h ρ v):x.rel h' ρ' v:=by
 cases x with
 | one p=>exact p.mono hl hx
 | agg ps=>obtain⟨cs,e,hc⟩:=hx;exact⟨cs,e,hc.mono hl⟩
 | ptr k off=>have:=hρ k (by simp[BV.bf]);simpa[BV.rel,this] using hx
 | row k=>have:=hρ k (by simp[BV.bf]);simpa[BV.rel,this] using hx
 | gO k off=>have:=hρ k (by simp[BV.bf]);simpa[BV.rel,this] using hx
 | part k _ _ _ _=>have:=hρ k (by simp[BV.bf]);simpa[BV.rel,this] using hx
 | kG ps=>obtain⟨b,o,e,hr⟩:=hx;exact⟨b,o,e,hr.mono hl⟩
 | Em k off len c=>have:=hρ k (by simp[BV.bf]);simpa[BV.rel,this] using hx
 | xa cs=>obtain⟨vs,e,h1⟩:=hx;exact⟨vs,e,CV.monoX hl hρ h1⟩
 | cJ f fs cs=>
  obtain⟨a,b,e,h1,h2⟩:=hx
  exact⟨a,b,e,CV.Ke hl (fun k hk=>hρ k (by simp only[BV.bf,hk,Bool.true_or])) h1,CV.Ke hl (fun k hk=>hρ k (by simp only[BV.bf,hk,Bool.or_true])) h2⟩
theorem SV.mono {h h':PH} {ρ ρ':RM} (hl:h.le h') {x:SV} (hρ:∀ k,x.bf k=true->ρ' k=ρ k) {v:Value} (hx:x.rel h ρ v):x.rel h' ρ' v:=by
 cases x with
 | b x=>exact BV.mono hl hρ hx
 | opt c x=>exact⟨fun hc=>BV.mono hl hρ (hx.1 hc),hx.2⟩
 | lC l=>
  obtain⟨vs,e,ha⟩:=hx
  refine⟨vs,e,?_⟩
  have hρ':∀ k,(l.any (·.bf k))=true->ρ' k=ρ k:=hρ
  clear hρ e
  generalize vs.toList=vl at ha
  induction ha with
  | nil=>exact .nil
  | cons h' t ih=>
   refine .cons (BV.mono hl (fun k hk=>hρ' k (by simp[hk])) h') (ih fun k hk=>hρ' k (by simp only[List.any_cons,hk,Bool.or_true]))
 | kF l=>
  obtain⟨vs,e,ha⟩:=hx
  refine⟨vs,e,?_⟩
  have hρ':∀ k,(l.any (·.bf k))=true->ρ' k=ρ k:=hρ
  clear hρ e
  generalize vs.toList=vl at ha
  induction ha with
  | nil=>exact .nil
  | cons h' t ih=>
   refine .cons ⟨BV.mono hl (fun k hk=>hρ' k (by simp[hk])) h'.1,h'.2⟩ (ih fun k hk=>hρ' k (by simp only[List.any_cons,hk,Bool.or_true]))
inductive Ez where
 | none
 | at (i:Nat)
 | below (d:Nat)
@[simp] def Ez.has:Ez->Nat->Prop
 | .none,_=>False
 | .at i,j=>j=i
 | .below d,j=>j<d
inductive OC where
 | box (T:TypeId) (ps:List CP)
 | row (T:TypeId) (size:Nat) (es:List (List CP))
 | oM (T:TypeId) (size:Nat) (es:List (List CP))
 | CZ (T:TypeId) (size:Nat) (es:List (List CP))
 | bb (T:TypeId) (cs:List BV)
 | mp (es:List (CP×BV))
 | sit (s:Str) (pos:Nat)
 | mq (m:List (Int×Int))
 | rr (T e:TypeId) (size:Nat) (hole:Ez) (ess:List (List (List CP)))
 | BQ (j:Nat) (m rest:List (Int×Int)) (cur:Option (Int×Int))
def ba:Value->Option Nat
 | .pointer (some a)=>some a.block
 | .slice (some a) _ _=>some a.block
 | .map (some b)=>some b
 | _=>none
def OC.we:OC->Bool
 | .box _ _=>true
 | .bb _ _=>true
 | .oM _ _ _=>true
 | .mp _=>true
 | .sit _ _=>true
 | .mq _=>true
 | .BQ _ _ _ _=>true
 | _=>false
def OC.bf (k:Nat):OC->Bool
 | .bb _ cs=>cs.any (·.bf k)
 | .mp es=>es.any (·.2.bf k)
 | .BQ j _ _ _=>j==k
 | _=>false
def dy (k:Nat) (own:List (Nat×OC)):Bool:=own.all fun p=>!p.2.bf k
theorem q9 {k:Nat} {own:List (Nat×OC)} (h:dy k own=true) {j:Nat} {c:OC} (hm:(j,c)∈own):c.bf k=false:=by
 have:=List.all_eq_true.1 h _ hm
 simpa using this
def qd (h:PH) (ρ:RM) (es:List (CP×BV)) (ms:List MapEntry):Prop:=aO (fun (p:CP×BV) (e:MapEntry)=>p.1.rel h e.key/\p.2.rel h ρ e.val) es ms
def As (clk:Nat) (ms:List MapEntry):Prop:=(∀ e∈ms,e.born<clk)/\(ms.map (·.born)).Nodup
def Kk (m:List (Int×Int)) (ms:List MapEntry):Prop:=aO (fun (p:Int×Int) (e:MapEntry)=>(e.key=.int .i64 p.1/\mf .i64 p.1)/\e.val=.int .i64 p.2/\mf .i64 p.2) m ms
structure HK (h:PH) (w:World) (e:TypeId) (size:Nat) (u:Value) (es:List (List CP)):Prop where
 uni:ca size es
 row:∃ xs,w.ownsRow 0 e size u es.length xs/\aB h es.flatten xs
structure MitOk (ρ:RM) (v:Value) (w:World) (j:Nat) (m rest:List (Int×Int)) (cur:Option (Int×Int)) (b:Nat) (ms:Array MapEntry) (clk D:Nat) (seen:Array Nat):Prop where
 ptr:v=.pointer (some ⟨D,0,none⟩)
 it:w.heap[D]?=some (.mapIter (some b) clk seen clk)
 map:ρ j=.map (some b)
 obj:w.heap[b]?=some (.map ms clk)
 ents:Kk m ms.toList
 born:As clk ms.toList
 left:Kk rest (ms.toList.filter fun e=>!seen.contains e.born)
 at_:∀ p,cur=some p->∃ e seen',e∈ms.toList/\seen=Array.push seen' e.born/\(e.key=.int .i64 p.1/\mf .i64 p.1)/\e.val=.int .i64 p.2/\mf .i64 p.2
structure Aa (h:PH) (v:Value) (w:World) (T e:TypeId) (size:Nat) (hole:Ez) (ess:List (List (List CP))) (us:List Value):Prop where
 pos:0<size
 out:w.ownsRow 0 T 1 v ess.length us
 one:∀ u∈us,u.oneCell'=true
 rows:∀ (i:Nat) (u:Value) (es:List (List CP)),us[i]?=some u->ess[i]?=some es->¬ hole.has i->HK h w e size u es
 sep:∀ (i j:Nat) (u u':Value) (b:Nat),us[i]?=some u->us[j]?=some u'->¬ hole.has i->¬ hole.has j->i≠j->ba u=some b->ba u'≠some b
 self:∀ (i:Nat) (u:Value) (b:Nat),us[i]?=some u->¬ hole.has i->ba u=some b->ba v≠some b
def OC.inner (v:Value) (w:World) (b:Nat):OC->Prop
 | .rr _ _ _ hole ess=>∃ (g:Nat) (cur:Array Value) (T:TypeId) (fr:Nat×Nat) (i:Nat) (u:Value),ba v=some g/\w.heap[g]?=some (.cells cur T fr)/\i<ess.length/\cur[i]?=some u/\¬ hole.has i/\ba u=some b
 | .BQ _ _ _ _=>∃ (D since:Nat) (seen:Array Nat) (st:Nat),ba v=some D/\w.heap[D]?=some (.mapIter (some b) since seen st)
 | _=>False
def OC.dK (c:OC) (v:Value) (w:World) (b:Nat):Prop:=ba v=some b∨c.inner v w b
theorem OC.dK.FY {c:OC} {v:Value} {w w':World} (hb:∀ b,ba v=some b->w'.heap[b]?=w.heap[b]?) {b:Nat}:c.inner v w' b->c.inner v w b:=by
 cases c with
 | rr T e size hole ess=>
  rintro⟨g,cur,T',fr,i,u,h1,h2,h3⟩
  exact⟨g,cur,T',fr,i,u,h1,by rw[← hb g h1];exact h2,h3⟩
 | BQ j m rest cur=>
  rintro⟨D,since,seen,st,h1,h2⟩
  exact⟨D,since,seen,st,h1,by rw[← hb D h1];exact h2⟩
 | _=>exact id
theorem OC.dK.congr {c:OC} {v:Value} {w w':World} (hb:∀ b,ba v=some b->w'.heap[b]?=w.heap[b]?) {b:Nat} (h:c.dK v w' b):c.dK v w b:=h.imp id (OC.dK.FY hb)
def OC.plain:OC->Bool
 | .rr _ _ _ _ _=>false
 | .BQ _ _ _ _=>false
 | _=>true
theorem OC.dK.AN {c:OC} {v:Value} {w:World} {b:Nat} (hp:c.plain=true) (h:c.dK v w b):ba v=some b:=by
 rcases h with h|h
 exact h
 cases c<;>first|exact h.elim|simp[OC.plain] at hp
def ownsAt (w:World) (e:TypeId) (size:Nat) (v:Value) (n:Nat) (xs:List Value):Prop :=
 xs.length=n*size/\((v=.slice none 0 0/\n=0)∨∃ g off cap cur,v=.slice (some ⟨g,off,none⟩) n cap/\w.heap[g]?=some (.cells cur e (0,0))/\n<=cap/\cap<=maxLen/\off+cap*size<=cur.size/\(cur.toList.drop off).take (n*size)=xs)
def OC.ok (h:PH) (ρ:RM) (v:Value) (w:World):OC->Prop
 | .CZ T size es=>ca size es/\0<size/\∃ xs,ownsAt w T size v es.length xs/\aB h es.flatten xs
 | .rr T e size hole ess=>∃ us,Aa h v w T e size hole ess us
 | .BQ j m rest cur=>∃ b ms clk D seen,MitOk ρ v w j m rest cur b ms clk D seen
 | .box T ps=>∃ b cur,v=.pointer (some ⟨b,0,none⟩)/\w.heap[b]?=some (.cells cur T (0,0))/\aB h ps cur.toList
 | .row T size es=>ca size es/\0<size/\∃ xs,w.ownsRow 0 T size v es.length xs/\aB h es.flatten xs
 | .oM T size es=>ca size es/\0<size/\∃ xs,w.ownsRow 0 T size v es.length xs/\aB h es.flatten xs
 | .bb T cs=>∃ b cur,v=.pointer (some ⟨b,0,none⟩)/\w.heap[b]?=some (.cells cur T (0,0))/\aO (fun (z:BV) u=>z.rel h ρ u/\u.oneCell'=true) cs cur.toList
 | .mp es=>∃ b ms clk,v=.map (some b)/\w.heap[b]?=some (.map ms clk)/\qd h ρ es ms.toList/\As clk ms.toList
 | .mq m=>∃ b ms clk,v=.map (some b)/\w.heap[b]?=some (.map ms clk)/\Kk m ms.toList/\As clk ms.toList
 | .sit s pos=>∃ b,v=.pointer (some ⟨b,0,none⟩)/\w.heap[b]?=some (.stringIter ⟨⟨s⟩⟩ pos)/\s.length<=maxLen
theorem OC.ok.JO {c:OC} {h:PH} {ρ ρ':RM} {v:Value} {w:World} (hc:c.ok h ρ v w) (hu:∀ j,c.bf j=true->ρ' j=ρ j):c.ok h ρ' v w:=by
 cases c with
 | box T ps=>exact hc
 | row T size es=>exact hc
 | oM T size es=>exact hc
 | CZ T size es=>exact hc
 | sit q pos=>exact hc
 | mq m=>exact hc
 | rr=>exact hc
 | BQ j m rest cur=>
  obtain⟨b,ms,clk,D,seen,x⟩:=hc
  exact⟨b,ms,clk,D,seen,x.ptr,x.it,(hu j (by simp[OC.bf])).trans x.map,x.obj,x.ents,x.born,x.left,x.at_⟩
 | mp es=>
  obtain⟨b,ms,clk,e1,e2,ha,e3⟩:=hc
  refine⟨b,ms,clk,e1,e2,?_,e3⟩
  clear e2 e3
  have b0:∀ j,(es.any (·.2.bf j))=true->ρ' j=ρ j:=hu
  clear hu
  unfold qd at ha ⊢
  generalize ms.toList=l at ha
  induction ha with
  | nil=>exact .nil
  | cons h1 t ih=>exact .cons ⟨h1.1,BV.mono (PH.le_refl _) (fun k hk=>b0 k (by simp[hk])) h1.2⟩ (ih fun k hk=>b0 k (by simp only[List.any_cons,hk,Bool.or_true]))
 | bb T cs=>
  obtain⟨b,cur,e1,e2,ha⟩:=hc
  refine⟨b,cur,e1,e2,?_⟩
  clear e2
  have b0:∀ j,(cs.any (·.bf j))=true->ρ' j=ρ j:=hu
  clear hu
  generalize cur.toList=l at ha
  induction ha with
  | nil=>exact .nil
  | cons h1 t ih=>exact .cons ⟨BV.mono (PH.le_refl _) (fun k hk=>b0 k (by simp[hk])) h1.1,h1.2⟩ (ih fun k hk=>b0 k (by simp only[List.any_cons,hk,Bool.or_true]))
def lk {α:Type}:List (Nat×α)->Nat->Option α
 | [],_=>none
 | (j,x)::l,k=>if k==j then some x else lk l k
def del {α:Type} (k:Nat):List (Nat×α)->List (Nat×α)
 | []=>[]
 | (j,x)::l=>if k==j then del k l else (j,x)::del k l
theorem bj {α:Type} {k:Nat} {x:α}:∀ {l:List (Nat×α)},lk l k=some x->(k,x)∈l
 | [],h=>by simp[lk] at h
 | (j,y)::l,h=>by
  unfold lk at h
  split at h
  rename_i e
  have e':k=j:=by simpa using e
  subst e'
  cases h
  exact List.mem_cons_self
  exact List.mem_cons_of_mem _ (bj h)
theorem cj {α:Type} {k:Nat}:∀ {l:List (Nat×α)} {p:Nat×α},p∈del k l->p∈l/\p.1≠k
 | [],p,h=>by simp[del] at h
 | (j,y)::l,p,h=>by
  unfold del at h
  split at h
  exact⟨List.mem_cons_of_mem _ (cj h).1,(cj h).2⟩
  rename_i e
  cases List.mem_cons.1 h with
  | inl e'=>subst e';exact⟨List.mem_cons_self,fun h'=>e (by simp[← h'])⟩
  | inr e'=>exact⟨List.mem_cons_of_mem _ (cj e').1,(cj e').2⟩
theorem db {α:Type} {k:Nat}:∀ {l:List (Nat×α)} {p:Nat×α},p∈l->p.1≠k->p∈del k l
 | (j,y)::l,p,h,hk=>by
  unfold del
  cases List.mem_cons.1 h with
  | inl e=>
   subst e
   have:(k==j)=false:=by
    cases h':k==j with
    | false=>rfl
    | true=>exact absurd (by simpa using h':k=j).symm hk
   rw[this]
   exact List.mem_cons_self
  | inr e=>
   split
   exact db e hk
   exact List.mem_cons_of_mem _ (db e hk)
structure St where
 slots:List (Nat×SV)
 own:List (Nat×OC)
abbrev aH:=List (Nat×List Value)
def cC (TB:aH) (h:PH) (w:World):Prop:=∀ g cs,(g,cs)∈TB->0<cs.length/\(∀ o v,cs[o]?=some v->h g o=some v)/\∃ T fz,w.heap[g]?=some (.cells cs.toArray T fz)
structure Env (TB:aH) where
 w0:World
 h0:PH
 ρ0:RM
 tb:cC TB h0 w0
structure Sh where
 n:Nat
 fix:List Nat
 lnd:List Nat:=[]
 dfs:List Deferred:=[]
def ry {TB:aH} (E:Env TB) (n:Sh) (b:Nat):Prop:=∃ k,k∈n.lnd/\ba (E.ρ0 k)=some b
def OwnOk {TB:aH} (E:Env TB) (n:Sh) (own:List (Nat×OC)) (h:PH) (ρ:RM) (w:World):Prop :=
 ∀ k c,(k,c)∈own->c.ok h ρ (ρ k) w/\(∀ b,c.dK (ρ k) w b->(E.w0.heap.size<=b∨ry E n b)/\∀ o,h b o=none) /\
  ∀ k' c',(k',c')∈own->k'≠k->∀ b,c.dK (ρ k) w b->¬ c'.dK (ρ k') w b
structure WR {TB:aH} (E:Env TB) (n:Sh) (own:List (Nat×OC)) (h:PH) (ρ:RM) (w:World):Prop where
 agree:pc h w
 le:E.h0.le h
 fresh:∀ b,b<E.w0.heap.size->¬ ry E n b->h b=E.h0 b
 size:E.w0.heap.size<=w.heap.size
 same:∀ b,b<E.w0.heap.size->¬ ry E n b->w.heap[b]?=E.w0.heap[b]?
 fixed:∀ k,k∈n.fix->ρ k=E.ρ0 k
 os:w.os=E.w0.os
 out:w.output=E.w0.output
 nl:∀ b,ry E n b->∀ o,E.h0 b o=none
 owned:OwnOk E n own h ρ w
def bt (h:PH) (ρ:RM) (slots:List (Nat×SV)) (tmps:Array Value):Prop:=∀ k x,(k,x)∈slots->∃ v,tmps[k]?=some v/\x.rel h ρ v
structure R {TB:aH} (E:Env TB) (n:Sh) (s:St) (a:Act) (w:World):Prop where
 defers:a.defers=n.dfs
 size:a.tmps.size=n.n
 rest:∃ h ρ,WR E n s.own h ρ w/\bt h ρ s.slots a.tmps
def St.get (s:St) (k:Nat):Option SV:=lk s.slots k
def St.set (n d:Nat) (x:SV) (s:St):St:=if d<n then ⟨(d,x)::del d s.slots,s.own⟩ else s
def St.put (n:Sh) (dst:Option Nat) (x:SV) (s:St):St:=match dst with|some d=>s.set n.n d x|none=>s
def ss {α:Type}:List Nat->List (Nat×α)->List (Nat×α)
 | [],_=>[]
 | k::ks,l=>match lk l k with
  | some x=>(k,x)::ss ks l
  | none=>ss ks l
def St.keep (ks kos:List Nat) (s:St):St:=⟨ss ks s.slots,ss kos s.own⟩
theorem mR {α:Type} {l:List (Nat×α)} {p:Nat×α}:∀ {ks:List Nat},p∈ss ks l->p∈l
 | [],h=>by simp[ss] at h
 | k::ks,h=>by
  unfold ss at h
  split at h
  rename_i x hx
  cases List.mem_cons.1 h with
  | inl e=>subst e;exact bj hx
  | inr e=>exact mR e
  exact mR h
theorem WR.ax {TB:aH} {E:Env TB} {n:Sh} {own:List (Nat×OC)} {h:PH} {ρ:RM} {w:World} (hw:WR E n own h ρ w):cC TB h w:=by
 intro g cs hm
 obtain⟨h1,h2,T,fz,h3⟩:=E.tb g cs hm
 refine⟨h1,fun o v hv=>hw.le _ _ _ (h2 o v hv),T,fz,?_⟩
 have hlt:g<E.w0.heap.size:=by
  rcases Nat.lt_or_ge g E.w0.heap.size with h|h
  exact h
  simp[Array.getElem?_eq_none h] at h3
 rw[hw.same g hlt fun hl=>?_]
 exact h3
 have e0:cs[0]?=some cs[0]:=by simp[h1]
 have:=h2 0 _ e0
 rw[hw.nl g hl 0] at this
 simp at this
theorem WR.sub {TB:aH} {E:Env TB} {n:Sh} {own own':List (Nat×OC)} {h:PH} {ρ:RM} {w:World} (hw:WR E n own h ρ w) (hs:∀ p,p∈own'->p∈own):WR E n own' h ρ w :=
 ⟨hw.agree,hw.le,hw.fresh,hw.size,hw.same,hw.fixed,hw.os,hw.out,hw.nl,fun j c hj=>by
  obtain⟨h1,h2,h3⟩:=hw.owned j c (hs _ hj)
  exact⟨h1,h2,fun j' c' hj'=>h3 j' c' (hs _ hj')⟩⟩
theorem bt.set {h:PH} {ρ:RM} {slots:List (Nat×SV)} {tmps:Array Value} {n d:Nat} {x:SV} {v:Value} (hs:bt h ρ slots tmps) (hn:tmps.size=n) (hd:d<n) (hx:x.rel h ρ v) :
 bt h ρ ((d,x)::del d slots) (tmps.setIfInBounds d v):=by
 intro k y hy
 cases List.mem_cons.1 hy with
 | inl e=>
  obtain⟨rfl,rfl⟩:=Prod.mk.inj e
  exact⟨v,by simp[hn,hd],hx⟩
 | inr e=>
  obtain⟨h1,h2⟩:=cj e
  obtain⟨u,hu,hr⟩:=hs k y h1
  refine⟨u,?_,hr⟩
  rw[Array.getElem?_setIfInBounds_ne (fun e=>h2 e.symm)]
  exact hu
theorem R.put {TB:aH} {E:Env TB} {n:Sh} {s:St} {a:Act} {w':World} {own:List (Nat×OC)} {h:PH} {ρ:RM} {x:SV} {v:Value} {dst:Option Nat}
 (hd:a.defers=n.dfs) (hn:a.tmps.size=n.n) (hw:WR E n own h ρ w') (hs:bt h ρ s.slots a.tmps) (hx:x.rel h ρ v) :
 R E n (({ s with own:=own }:St).put n dst x) (a.put dst v) w':=by
 cases dst with
 | none=>exact⟨hd,hn,h,ρ,hw,hs⟩
 | some d=>
  by_cases b0:d<n.n
  refine⟨hd,by simp[Act.put,hn],h,ρ,?_,?_⟩
  simpa[St.put,St.set,b0] using hw
  simpa[St.put,St.set,b0,Act.put] using hs.set hn b0 hx
  refine⟨hd,by simp[Act.put,hn],h,ρ,?_,?_⟩
  simpa[St.put,St.set,b0] using hw
  have:a.tmps.setIfInBounds d v=a.tmps:=by
   apply Array.ext_getElem?
   intro i
   by_cases hi:d=i
   subst hi;simp[hn,b0]
   rw[Array.getElem?_setIfInBounds_ne hi]
  simpa[St.put,St.set,b0,Act.put,this] using hs
theorem R.keep {TB:aH} {E:Env TB} {n:Sh} {s:St} {a:Act} {w:World} (ks kos:List Nat) (hr:R E n s a w):R E n (s.keep ks kos) a w:=by
 obtain⟨hd,hn,h,ρ,hw,hs⟩:=hr
 exact⟨hd,hn,h,ρ,hw.sub fun _ hp=>mR hp,fun _ _ hx=>hs _ _ (mR hx)⟩
def Ho:Value->Option CP
 | .int k n=>if k.min<=n/\n<=k.max then some (.int k n) else none
 | .bool b=>some (.bool b)
 | .string s=>if s.data.toList.length<=maxLen then some (.str s.data.toList) else none
 | .slice none 0 0=>some .nil
 | .func f a b=>some (.raw (.func f a b))
 | .nilFunc=>some (.raw .nilFunc)
 | .pointer none=>some (.raw (.pointer none))
 | .map none=>some (.raw (.map none))
 | _=>none
def Hn:List Value->Option (List CP)
 | []=>some []
 | v::l=>(Ho v).bind fun c=>(Hn l).map (c::·)
def St.ev (s:St):Operand->Option SV
 | .tmp t=>s.get t
 | .const (.agg cs)=>(Hn cs.toList).map fun ps=>.b (.agg ps)
 | .const v=>(Ho v).map fun c=>.b (.one c)
 | .func f=>some (.b (.one (.raw (.func (.func f) #[] #[]))))
 | .global _=>none
theorem IH {v:Value} {c:CP} (hc:Ho v=some c) (h:PH):c.rel h v:=by
 unfold Ho at hc
 split at hc<;>first|(split at hc<;>simp at hc<;>subst hc<;>simp_all [CP.int,CP.str,mf];done)|(simp at hc;subst hc;simp[CP.bool,CP.nil,CP.raw,Value.oneCell'];done)|simp at hc
theorem oR (h:PH):∀ {l:List Value} {ps:List CP},Hn l=some ps->aB h ps l
 | [],ps,e=>by simp[Hn] at e;subst e;exact .nil
 | v::l,ps,e=>by
  unfold Hn at e
  cases hc:Ho v with
  | none=>simp[hc] at e
  | some c=>
   cases hl:Hn l with
   | none=>simp[hc,hl] at e
   | some q=>
    simp[hc,hl] at e
    subst e
    exact .cons (IH hc h) (oR h hl)
theorem aE {h:PH} {ρ:RM} {s:St} {a:Act} (hs:bt h ρ s.slots a.tmps) {o:Operand} {x:SV} (he:s.ev o=some x):x.rel h ρ (a.eval o):=by
 cases o with
 | tmp t=>
  obtain⟨v,hv,hr⟩:=hs _ _ (bj (show lk s.slots t=some x from he))
  have:a.eval (.tmp t)=v:=by simp[Act.eval,Array.getD_eq_getD_getElem?,hv]
  rw[this];exact hr
 | const v=>
  cases v with
  | agg cs=>
   simp only[St.ev,Option.map_eq_some_iff] at he
   obtain⟨ps,hps,rfl⟩:=he
   exact⟨cs,rfl,oR h hps⟩
  | _=>
   simp only[St.ev,Option.map_eq_some_iff] at he
   obtain⟨c,hc,rfl⟩:=he
   exact IH hc h
 | global g=>simp[St.ev] at he
 | func f=>simp only[St.ev,Option.some.injEq] at he;subst he;exact⟨rfl,rfl⟩
abbrev bH:=Exit->Act->World->Prop
def aR (P:Program) {TB:aH} (E:Env TB) (n:Sh) (o:Oper) (s s':St):Prop :=
 ∀ a w,R E n s a w->∀ (next:Act->World->Prop) (Q:bH),(∀ a' w',R E n s' a' w'->next a' w')->o.wp P a w next Q
def Ops (P:Program) {TB:aH} (E:Env TB) (n:Sh) (ops:Array Oper) (is:List Nat) (s:St) (Q:bH):Prop:=∀ a w,R E n s a w->wpOps P ops Q is a w
def ah (P:Program) {TB:aH} (E:Env TB) (n:Sh) (c:Code) (s:St) (Q:bH):Prop:=∀ a w,R E n s a w->c.wp P Q a w
def Fin {TB:aH} (E:Env TB) (n:Sh) (e:Exit) (s:St) (Q:bH):Prop:=∀ a w,R E n s a w->Q e a w
section
variable {P:Program} {TB:aH} {E:Env TB} {n:Sh} {ops:Array Oper} {is:List Nat} {s s':St} {Q:bH} {i:Nat} {o:Oper} {c x y:Code}
theorem Ops.nil (h:Fin E n .normal s Q):Ops P E n ops [] s Q:=fun a w hr=>h a w hr
theorem Ops.keep (ks kos:List Nat) (hs:s.keep ks kos=s') (h:Ops P E n ops is s' Q):Ops P E n ops is s Q:=fun a w hr=>h a w (hs▸hr.keep ks kos)
theorem ah.keep (ks kos:List Nat) (hs:s.keep ks kos=s') (h:ah P E n c s' Q):ah P E n c s Q:=fun a w hr=>h a w (hs▸hr.keep ks kos)
theorem Fin.keep {e:Exit} (ks kos:List Nat) (hs:s.keep ks kos=s') (h:Fin E n e s' Q):Fin E n e s Q:=fun a w hr=>h a w (hs▸hr.keep ks kos)
theorem ah.region {id:Nat} (h:Ops P E n ops (List.range ops.size) s Q):ah P E n (.region id ops false) s Q:=fun a w hr=>wp_region (h a w hr)
theorem ah.seq (h:ah P E n x s (Exit.then (y.wp P Q) Q)):ah P E n (.seq x y) s Q:=fun a w hr=>wp_seq (h a w hr)
theorem ah.skip (h:Fin E n .normal s Q):ah P E n .skip s Q:=fun a w hr=>wp_skip (h a w hr)
theorem ah.ret (h:Fin E n .ret s Q):ah P E n .ret s Q:=fun a w hr=>wp_ret (h a w hr)
theorem ah.exit {id:Nat} (h:Fin E n (.exit id) s Q):ah P E n (.exit id) s Q:=fun a w hr=>wp_exit (h a w hr)
theorem ah.block {id:Nat} (h:ah P E n c s (Exit.inBlock id Q)):ah P E n (.block id c) s Q:=fun a w hr=>wp_block (h a w hr)
theorem ah.cond {t:Nat} {b:Bool} (hs:s.get t=some (.b (.one (.bool b)))) (h1:b=true->ah P E n x s Q) (h2:b=false->ah P E n y s Q):ah P E n (.cond (.tmp t) x y) s Q:=by
 intro a w hr
 obtain⟨hdf,hn,h,ρ,hw,hsl⟩:=id hr
 have:a.eval (.tmp t)=.bool b:=aE hsl (o:=.tmp t) hs
 exact wp_cond_split this (fun e=>h1 e a w hr) (fun e=>h2 e a w hr)
theorem Fin.then (h:ah P E n y s Q):Fin E n .normal s (Exit.then (y.wp P Q) Q):=fun a w hr=>h a w hr
theorem Fin.cx {K:Act->World->Prop} (h:Fin E n .ret s Q):Fin E n .ret s (Exit.then K Q):=fun a w hr=>h a w hr
theorem Fin.bB {K:Act->World->Prop} {id:Nat} (h:Fin E n (.exit id) s Q):Fin E n (.exit id) s (Exit.then K Q):=fun a w hr=>h a w hr
theorem Fin.bF {id:Nat} (h:Fin E n .normal s Q):Fin E n .normal s (Exit.inBlock id Q):=fun a w hr=>h a w hr
theorem Fin.rb {id:Nat} (h:Fin E n .ret s Q):Fin E n .ret s (Exit.inBlock id Q):=fun a w hr=>h a w hr
theorem Fin.cN {id:Nat} (h:Fin E n .normal s Q):Fin E n (.exit id) s (Exit.inBlock id Q):=fun a w hr=>by simp only[Exit.inBlock,if_true];exact h a w hr
theorem Fin.fD {id b0:Nat} (hne:b0≠id) (h:Fin E n (.exit b0) s Q):Fin E n (.exit b0) s (Exit.inBlock id Q):=fun a w hr=>by simp only[Exit.inBlock,hne,if_false];exact h a w hr
def Again {ι:Type} {TB:aH} (E:Env TB) (n:Sh) (S:ι->St) (I:ι->Prop) (μ:ι->Nat) (m:Nat) (a:Act) (w:World):Prop:=∃ j,I j/\μ j<m/\R E n (S j) a w
theorem ah.loop {ι:Type} (S:ι->St) (I:ι->Prop) (μ:ι->Nat) (j₀:ι) (h₀:I j₀) (hs:s=S j₀)
 (round:∀ j,I j->ah P E n c (S j) (Exit.then (Again E n S I μ (μ j)) Q)):ah P E n (.loop c) s Q:=by
 intro a w hr b k cs
 have key:∀ m j a w,μ j=m->I j->R E n (S j) a w->∃ e a' w',Q e a' w'/\Arrives P (lone (b.at a (.code c::.inLoop c::k)) cs w) b k cs e a' w':=by
  intro m
  induction m using Nat.strongRecOn with
  | _ m ih=>
   intro j a w hm hI hr
   obtain⟨e,a₁,w₁,hq,b0⟩:=round j hI a w hr b (.inLoop c::k) cs
   cases e with
   | normal=>
    obtain⟨j',hI',hlt,hr'⟩:=hq
    obtain⟨e₂,a₂,w₂,hq₂,b1⟩:=ih (μ j') (hm▸hlt) j' a₁ w₁ rfl hI' hr'
    exact⟨e₂,a₂,w₂,hq₂,.of_steps (Steps.trans b0 (.one step_inLoop)) b1⟩
   | exit id=>exact⟨_,a₁,w₁,hq,.pass (x:=.inLoop c) rfl (fun _ _=>.inl (by simp)) b0⟩
   | goto l=>exact⟨_,a₁,w₁,hq,.pass (x:=.inLoop c) rfl (fun _ _=>.inl (by simp)) b0⟩
   | ret=>exact⟨_,a₁,w₁,hq,.pass (x:=.inLoop c) rfl (fun _ _=>.inl (by simp)) b0⟩
   | panic ch=>exact⟨_,a₁,w₁,hq,.pass (x:=.inLoop c) rfl (fun _ _=>.inl (by simp)) b0⟩
   | outgrown=>exact⟨_,a₁,w₁,hq,.pass (x:=.inLoop c) rfl (fun _ _=>.inl (by simp)) b0⟩
 obtain⟨e,a',w',hq,b0⟩:=key _ j₀ a w rfl h₀ (hs▸hr)
 exact⟨e,a',w',hq,.of_steps (.one step_loop) b0⟩
theorem Fin.again {ι:Type} {S:ι->St} {I:ι->Prop} {μ:ι->Nat} {m:Nat} (j:ι) (hj:I j) (hm:μ j<m) (hs:s=S j):Fin E n .normal s (Exit.then (Again E n S I μ m) Q) :=
 fun _ _ hr=>⟨j,hj,hm,hs▸hr⟩
end
end Go.Sk
namespace Go.Sk
open Go
def zk (P:Program) (ops:Array Oper) (Q:bH):List Oper->Act->World->Prop
 | [],a,w=>Q .normal a w
 | o::rest,a,w=>if Region.wanted o (yielded ops a.tmps) then o.wp P a w (zk P ops Q rest) Q else zk P ops Q rest (a.put o.dst undef) w
def aj (P:Program) {TB:aH} (E:Env TB) (n:Sh) (ops:Array Oper) (l:List Oper) (s:St) (Q:bH):Prop:=∀ a w,R E n s a w->zk P ops Q l a w
theorem oS {P:Program} {ops:Array Oper} {Q:bH}:∀ (l:List Oper) (k:Nat),(∀ j,ops[k+j]?=l[j]?)->∀ a w,zk P ops Q l a w->wpOps P ops Q (List.range' k l.length) a w
 | [],k,hl,a,w,h=>by simpa[wpOps,zk] using h
 | o::l,k,hl,a,w,h=>by
  have h0:ops[k]?=some o:=by simpa using hl 0
  have hr:∀ j,ops[k+1+j]?=l[j]?:=fun j=>by have:=hl (j+1);rw[Nat.add_assoc,Nat.add_comm 1 j];simpa using this
  simp only[List.length_cons,List.range'_succ,wpOps,h0]
  unfold zk at h
  split
  rename_i hw
  simp only[hw,if_true] at h
  exact .inl (Oper.wp_mono (fun a w hh=>oS l (k+1) hr a w hh) h)
  rename_i hw
  simp only[hw] at h
  exact oS l (k+1) hr _ _ h
section
variable {P:Program} {TB:aH} {E:Env TB} {n:Sh} {ops:Array Oper} {l:List Oper} {s s':St} {Q:bH} {o:Oper}
def vv (P:Program) {TB:aH} (E:Env TB) (n:Sh) (ops:Array Oper) (s:St) (Q:bH):Prop:=∀ a w,R E n s a w->wpAny P .any ops Q ops.size (Array.replicate ops.size false) a { w with drawn:=w.drawn+1 }
theorem ah.ofA {id:Nat} (hm:P.follows .mixedOrders=true) (h:vv P E n ops s Q):ah P E n (.region id ops true) s Q:=fun a w hr=>wp_region_any hm (h a w hr)
theorem ah.ae {id:Nat} {l:List Oper} (h:aj P E n l.toArray l s Q):ah P E n (.region id l.toArray false) s Q:=by
 refine ah.region fun a w hr=>?_
 have:=oS (P:=P) (ops:=l.toArray) (Q:=Q) l 0 (fun j=>by simp) a w (h a w hr)
 simpa[List.range_eq_range'] using this
theorem aj.cons (hg:o.guard=none) (h1:aR P E n o s s') (h2:aj P E n ops l s' Q):aj P E n ops (o::l) s Q:=by
 intro a w hr
 unfold zk
 have:Region.wanted o (yielded ops a.tmps)=true:=by simp[Region.wanted,hg]
 simp only[this,if_true]
 exact h1 a w hr _ _ fun a' w' hr'=>h2 a' w' hr'
def vy (ks:List Nat) (k:Nat):SV->SV
 | .opt c z=>if ks.contains k then .b z else .opt c z
 | y=>y
def vx:Nat->List Nat->List (Nat×SV)->List (Nat×SV)
 | 0,_,l=>l
 | _+1,_,[]=>[]
 | m+1,ks,(k,x)::l=>(k,vy ks k x)::vx m ks l
def fa:Nat->List Nat->List (Nat×SV)->Prop
 | 0,_,_=>True
 | _+1,_,[]=>True
 | m+1,ks,(k,x)::l=>match x with
  | .opt c _=>if ks.contains k then c=true/\fa m ks l else fa m ks l
  | _=>fa m ks l
def St.pY (m:Nat) (ks:List Nat) (s:St):St:=⟨vx m ks s.slots,s.own⟩
theorem w6 (ks:List Nat) (k:Nat) (x:SV):vy ks k x=x∨∃ c z,x=.opt c z/\ks.contains k=true/\vy ks k x=.b z:=by
 cases x with
 | opt c z=>
  cases hk:ks.contains k with
  | true=>exact .inr ⟨c,z,rfl,rfl,by simp only[vy,hk,if_true]⟩
  | false=>exact .inl (by simp only[vy,hk,Bool.false_eq_true,if_false])
 | b z=>exact .inl rfl
 | lC z=>exact .inl rfl
 | kF z=>exact .inl rfl
theorem u9 {m:Nat} {ks:List Nat} {k:Nat} {x:SV} {l:List (Nat×SV)} (h:fa (m+1) ks ((k,x)::l)):fa m ks l:=by
 unfold fa at h
 cases x with
 | opt c z=>
  dsimp only at h
  split at h
  exact h.2
  exact h
 | b z=>exact h
 | lC z=>exact h
 | kF z=>exact h
theorem Bu {ks:List Nat}:∀ {m:Nat} {l:List (Nat×SV)} {k:Nat} {y:SV},(k,y)∈vx m ks l->fa m ks l->(k,y)∈l∨∃ c z,y=.b z/\(k,.opt c z)∈l/\c=true
 | 0,l,k,y,h,_=>.inl h
 | m+1,[],k,y,h,_=>.inl h
 | m+1,(j,x)::l,k,y,h,hc=>by
  cases List.mem_cons.1 h with
  | inl e=>
   obtain⟨rfl,rfl⟩:=Prod.mk.inj e
   rcases w6 ks k x with h1|⟨c,z,rfl,hk,h1⟩
   rw[h1];exact .inl List.mem_cons_self
   rw[h1]
   refine .inr ⟨c,z,rfl,List.mem_cons_self,?_⟩
   unfold fa at hc
   simp only[hk,if_true] at hc
   exact hc.1
  | inr e=>
   rcases Bu e (u9 hc) with h|⟨c',z',h1,h2,h3⟩
   exact .inl (List.mem_cons_of_mem _ h)
   exact .inr ⟨c',z',h1,List.mem_cons_of_mem _ h2,h3⟩
theorem rP {ks:List Nat}:∀ {m:Nat} {l:List (Nat×SV)} {k:Nat} {y:SV},(k,y)∈l->fa m ks l->(k,y)∈vx m ks l∨∃ c z,y=.opt c z/\c=true/\(k,.b z)∈vx m ks l
 | 0,l,k,y,h,_=>.inl h
 | m+1,(j,x)::l,k,y,h,hc=>by
  cases List.mem_cons.1 h with
  | inl e=>
   obtain⟨rfl,rfl⟩:=Prod.mk.inj e
   rcases w6 ks k y with h1|⟨c,z,rfl,hk,h1⟩
   refine .inl ?_
   show (k,y)∈(k,vy ks k y)::vx m ks l
   rw[h1];exact List.mem_cons_self
   unfold fa at hc
   simp only[hk,if_true] at hc
   refine .inr ⟨c,z,rfl,hc.1,?_⟩
   show (k,SV.b z)∈(k,vy ks k (.opt c z))::vx m ks l
   rw[h1];exact List.mem_cons_self
  | inr e=>
   rcases rP (ks:=ks) (m:=m) e (u9 hc) with h|⟨c,z,h1,h2,h3⟩
   exact .inl (List.mem_cons_of_mem _ h)
   exact .inr ⟨c,z,h1,h2,List.mem_cons_of_mem _ h3⟩
theorem R.pY {a:Act} {w:World} {m:Nat} {ks:List Nat} (hr:R E n s a w) (hc:fa m ks s.slots):R E n (s.pY m ks) a w:=by
 obtain⟨h1,h2,h,ρ,hw,hs⟩:=hr
 refine⟨h1,h2,h,ρ,hw,fun k y hy=>?_⟩
 rcases Bu hy hc with hm|⟨c,z,rfl,hm,hct⟩
 exact hs k y hm
 obtain⟨v,hv,b0⟩:=hs k _ hm
 exact⟨v,hv,b0.1 hct⟩
theorem vt {a:Act} {w:World} {m:Nat} {ks:List Nat} {dst:Option Nat} {b:Bool} {z:BV} (hb:b=true) (hc:fa m ks s.slots) (hr:R E n ((s.pY m ks).put n dst (.b z)) a w):R E n (s.put n dst (.opt b z)) a w:=by
 obtain⟨h1,h2,h,ρ,hw,hs⟩:=hr
 have b0:∀ {L l:List (Nat×SV)},bt h ρ L a.tmps->(∀ p,p∈l->p∈L∨∃ c z,p.2=.opt c z/\c=true/\(p.1,.b z)∈L)->bt h ρ l a.tmps:=fun {L l} hl b1 k y hy=>by
  rcases b1 _ hy with hm|⟨c,z,hyz,b2,hm⟩
  exact hl k y hm
  obtain⟨v,hv,b3⟩:=hl k _ hm
  have hy2:y=.opt c z:=hyz
  exact⟨v,hv,by rw[hy2,b2];exact⟨fun _=>b3,fun e=>by simp at e⟩⟩
 cases dst with
 | none=>exact⟨h1,h2,h,ρ,hw,b0 hs fun p hp=>rP hp hc⟩
 | some d=>
  simp only[St.put,St.set,St.pY] at hw hs ⊢
  split at hs
  rename_i c2
  simp only[c2,if_true] at hw ⊢
  refine⟨h1,h2,h,ρ,hw,?_⟩
  refine b0 hs fun p hp=>?_
  cases List.mem_cons.1 hp with
  | inl e=>subst e;exact .inr ⟨b,z,rfl,hb,List.mem_cons_self⟩
  | inr e=>
   obtain⟨e1,e2⟩:=cj e
   rcases rP (m:=m) (ks:=ks) (k:=p.1) (y:=p.2) e1 hc with hm|⟨c,z',h3,b2,hm⟩
   exact .inl (List.mem_cons_of_mem _ (db hm e2))
   exact .inr ⟨c,z',h3,b2,List.mem_cons_of_mem _ (db hm e2)⟩
  rename_i c2
  simp only[c2,if_false] at hw ⊢
  exact⟨h1,h2,h,ρ,hw,b0 hs fun p hp=>rP hp hc⟩
inductive nh (s:St) (t:Nat) (want:Bool):Bool->Prop
 | plain {b:Bool} (h:s.get t=some (.b (.one (.bool b)))):nh s t want (b==want)
 | under {c b:Bool} (h:s.get t=some (.opt c (.one (.bool b)))):nh s t want (c&&(b==want))
theorem nh.wanted {j t:Nat} {want gd:Bool} (hG:nh s t want gd) (hg:o.guard=some (j,want)) (hj:(ops[j]?).bind (·.dst)=some t) {a:Act} {w:World} (hr:R E n s a w):Region.wanted o (yielded ops a.tmps)=gd:=by
 obtain⟨hdf,hn,h,ρ,hw,hsl⟩:=hr
 cases hG with
 | @plain b hs=>
  obtain⟨v,hv,b0⟩:=hsl _ _ (bj (show lk s.slots t=some _ from hs))
  have b1:v=.bool b:=b0
  subst b1
  have hy:yielded ops a.tmps j=some b:=by simp[yielded,hj,hv]
  simp[Region.wanted,hg,hy]
 | @under c b hs=>
  obtain⟨v,hv,b0⟩:=hsl _ _ (bj (show lk s.slots t=some _ from hs))
  cases c with
  | true=>
   have b1:v=.bool b:=b0.1 rfl
   subst b1
   have hy:yielded ops a.tmps j=some b:=by simp[yielded,hj,hv]
   simp[Region.wanted,hg,hy]
  | false=>
   have b1:v=undef:=b0.2 rfl
   subst b1
   have hy:yielded ops a.tmps j=none:=by simp[yielded,hj,hv,undef]
   simp[Region.wanted,hg,hy]
theorem aj.p7 {j t:Nat} {want gd:Bool} {z:BV} (b1:Bool) (m:Nat) (ks:List Nat) (hG:nh s t want gd) (hgd:gd=b1) (hg:o.guard=some (j,want)) (hj:(ops[j]?).bind (·.dst)=some t)
 (hc:b1=true->fa m ks s.slots) (h1:b1=true->aR P E n o (s.pY m ks) ((s.pY m ks).put n o.dst (.b z))) (h2:aj P E n ops l (s.put n o.dst (.opt b1 z)) Q) :
 aj P E n ops (o::l) s Q:=by
 subst hgd
 intro a w hr
 unfold zk
 have b0:=hG.wanted hg hj hr
 cases hb:gd with
 | true=>
  rw[hb] at b0
  simp only[b0,if_true]
  exact h1 hb a w (hr.pY (hc hb)) _ _ fun a' w' hr'=>h2 a' w' (vt hb (hc hb) hr')
 | false=>
  rw[hb] at b0
  simp only[b0,Bool.false_eq_true,if_false]
  refine h2 _ _ ?_
  rw[hb]
  obtain⟨hdf,hn,h,ρ,hw,hsl⟩:=hr
  exact R.put (s:=s) hdf hn hw hsl ⟨fun e=>by simp at e,fun _=>rfl⟩
theorem jL (b:Bool):(b==true)=b:=by cases b<;>rfl
theorem eq_f (b:Bool):(b==false) = !b:=by cases b<;>rfl
theorem and_t (c b:Bool):(c&&(b==true))=(c&&b):=by cases b<;>rfl
theorem aj.nil (h:Fin E n .normal s Q):aj P E n ops [] s Q:=fun a w hr=>h a w hr
theorem aj.nilK {y:Code} (ks kos:List Nat) (hs:s.keep ks kos=s') (h:ah P E n y s' Q):aj P E n ops [] s (Exit.then (y.wp P Q) Q):=fun a w hr=>h a w (hs▸hr.keep ks kos)
theorem aj.keep (ks kos:List Nat) (hs:s.keep ks kos=s') (h:aj P E n ops l s' Q):aj P E n ops l s Q:=fun a w hr=>h a w (hs▸hr.keep ks kos)
theorem aR.val {x:SV} (H:∀ (a:Act) (w:World) (h:PH) (ρ:RM),WR E n s.own h ρ w->bt h ρ s.slots a.tmps->∃ v,(execOp a.eval o).run P w=.ok (.value v) w/\x.rel h ρ v):aR P E n o s (s.put n o.dst x):=by
 intro a w ⟨hdf,hn,h,ρ,hw,hs⟩ next Q b0
 obtain⟨v,hv,hx⟩:=H a w h ρ hw hs
 unfold Oper.wp
 rw[hv]
 exact b0 _ _ (R.put (s:=s) hdf hn hw hs hx)
end
theorem wx (a b:Int):(a==b)=decide (a=b):=by rw[Bool.eq_iff_iff];simp
theorem yh (l:Str):(⟨⟨l⟩⟩:ByteArray).toList=l:=by rw[ByteArray.toList_eq]
theorem zK (a b:Str):((⟨⟨a⟩⟩:ByteArray).toList==(⟨⟨b⟩⟩:ByteArray).toList)=decide (a=b):=by
 rw[yh,yh,Bool.eq_iff_iff]
 simp
theorem lP (k:IntKind) (z:Int):mf k (k.wrap z):=by
 unfold mf
 cases k<;>simp[IntKind.wrap,IntKind.min,IntKind.max,IntKind.signed,IntKind.bits]<;>(try split)<;>omega
theorem Io {z:Int} (h1:-9223372036854775808<=z) (h2:z<=9223372036854775807):mf .i64 z:=by
 simp[mf,IntKind.min,IntKind.max,IntKind.signed,IntKind.bits];omega
theorem FZ {z:Int}:mf .i64 z ↔ -9223372036854775808<=z/\z<=9223372036854775807:=by
 simp[mf,IntKind.min,IntKind.max,IntKind.signed,IntKind.bits]
abbrev I (n:Int):SV:=.b (.one (.int .i64 n))
abbrev B (b:Bool):SV:=.b (.one (.bool b))
abbrev CP.i (n:Int):CP:=.int .i64 n
section
variable {P:Program} {TB:aH} {E:Env TB} {n:Sh} {s:St} {dst:Option Nat} {t ty yt:TypeId} {pos:String} {after:Array Edge} {g:Option (Nat×Bool)} {x y c:Operand} {k:IntKind} {a b:Int}
theorem cK {z:SV} (hx:s.ev x=some z):aR P E n ⟨dst,.move x,ty,pos,after,g⟩ s (s.put n dst z) :=
 aR.val (o:=⟨dst,.move x,ty,pos,after,g⟩) fun _ _ _ _ _ hs=>⟨_,rfl,aE hs hx⟩
theorem yf {z:SV} (hx:s.ev x=some z):aR P E n ⟨dst,.assign x,ty,pos,after,g⟩ s (s.put n dst z) :=
 aR.val (o:=⟨dst,.assign x,ty,pos,after,g⟩) fun _ _ _ _ _ hs=>⟨_,rfl,aE hs hx⟩
theorem bI {h:PH} {ρ:RM} {ac:Act} (hs:bt h ρ s.slots ac.tmps) (hx:s.ev x=some (.b (.one (.int k a)))):ac.eval x=.int k a/\mf k a:=aE hs hx
theorem oQ {h:PH} {ρ:RM} {ac:Act} {b:Bool} (hs:bt h ρ s.slots ac.tmps) (hx:s.ev x=some (B b)):ac.eval x=.bool b:=aE hs hx
theorem lL {h:PH} {ρ:RM} {ac:Act} {z:Str} (hs:bt h ρ s.slots ac.tmps) (hx:s.ev x=some (.b (.one (.str z)))):ac.eval x=.string ⟨⟨z⟩⟩/\z.length<=maxLen:=aE hs hx
theorem Fw {op:BinOp} {f:Int->Int->Int} (w:World) (u v:Operand) (hop:op=.add/\f=(·+·)∨op=.sub/\f=(·-·)∨op=.mul/\f=(·*·)) :
 (do eqGuard op t u v (.int k a) (.int k b);binOp op t (.int k a) (.int k b):Sem Value).run P w=.ok (.int k (k.wrap (f a b))) w:=by
 rcases hop with ⟨rfl,rfl⟩|⟨rfl,rfl⟩|⟨rfl,rfl⟩<;>simp[eqGuard,binOp,Op.intArith]
theorem AM {op:BinOp} {f:Int->Int->Int} (hop:op=.add/\f=(·+·)∨op=.sub/\f=(·-·)∨op=.mul/\f=(·*·)) (hx:s.ev x=some (.b (.one (.int k a)))) (hy:s.ev y=some (.b (.one (.int k b)))) :
 aR P E n ⟨dst,.binOp op t x y yt,ty,pos,after,g⟩ s (s.put n dst (.b (.one (.int k (k.wrap (f a b)))))) :=
 aR.val (o:=⟨dst,.binOp op t x y yt,ty,pos,after,g⟩) fun ac w h ρ hw hs=>by
  refine⟨.int k (k.wrap (f a b)),?_,rfl,lP _ _⟩
  have:=Fw (P:=P) (t:=t) (k:=k) (a:=a) (b:=b) (f:=f) w x y hop
  simp only[execOp,(bI hs hx).1,(bI hs hy).1]
  rw[Sem.run_bind,this];rfl
theorem eM (hx:s.ev x=some (.b (.one (.int k a)))) (hy:s.ev y=some (.b (.one (.int k b)))):aR P E n ⟨dst,.binOp .add t x y yt,ty,pos,after,g⟩ s (s.put n dst (.b (.one (.int k (k.wrap (a+b)))))) :=
 AM (f:=(·+·)) (.inl ⟨rfl,rfl⟩) hx hy
theorem xN (hx:s.ev x=some (.b (.one (.int k a)))) (hy:s.ev y=some (.b (.one (.int k b)))):aR P E n ⟨dst,.binOp .sub t x y yt,ty,pos,after,g⟩ s (s.put n dst (.b (.one (.int k (k.wrap (a-b)))))) :=
 AM (f:=(·-·)) (.inr (.inl ⟨rfl,rfl⟩)) hx hy
theorem KE (hx:s.ev x=some (.b (.one (.int k a)))) (hy:s.ev y=some (.b (.one (.int k b)))):aR P E n ⟨dst,.binOp .mul t x y yt,ty,pos,after,g⟩ s (s.put n dst (.b (.one (.int k (k.wrap (a*b)))))) :=
 AM (f:=(·*·)) (.inr (.inr ⟨rfl,rfl⟩)) hx hy
theorem xP {op:BinOp} {f:Int->Int->Bool} (hop:(do eqGuard op t x y (.int k a) (.int k b);binOp op t (.int k a) (.int k b):Sem Value)=(pure (.bool (f a b)):Sem Value))
 (hx:s.ev x=some (.b (.one (.int k a)))) (hy:s.ev y=some (.b (.one (.int k b)))) :
 aR P E n ⟨dst,.binOp op t x y yt,ty,pos,after,g⟩ s (s.put n dst (B (f a b))) :=
 aR.val (o:=⟨dst,.binOp op t x y yt,ty,pos,after,g⟩) fun ac w h ρ hw hs=>by
  refine⟨.bool (f a b),?_,rfl⟩
  simp only[execOp,(bI hs hx).1,(bI hs hy).1]
  rw[Sem.run_bind,hop];rfl
theorem lJ (hx:s.ev x=some (.b (.one (.int k a)))) (hy:s.ev y=some (.b (.one (.int k b)))):aR P E n ⟨dst,.binOp .lss t x y yt,ty,pos,after,g⟩ s (s.put n dst (B (decide (a<b)))) :=
 xP (f:=fun a b=>decide (a<b)) (by simp[eqGuard,binOp,Op.intCmp]) hx hy
theorem op_leq (hx:s.ev x=some (.b (.one (.int k a)))) (hy:s.ev y=some (.b (.one (.int k b)))):aR P E n ⟨dst,.binOp .leq t x y yt,ty,pos,after,g⟩ s (s.put n dst (B (decide (a<=b)))) :=
 xP (f:=fun a b=>decide (a<=b)) (by simp[eqGuard,binOp,Op.intCmp]) hx hy
theorem pe (hx:s.ev x=some (.b (.one (.int k a)))) (hy:s.ev y=some (.b (.one (.int k b)))):aR P E n ⟨dst,.binOp .gtr t x y yt,ty,pos,after,g⟩ s (s.put n dst (B (decide (b<a)))) :=
 xP (f:=fun a b=>decide (b<a)) (by simp[eqGuard,binOp,Op.intCmp]) hx hy
theorem KF (hx:s.ev x=some (.b (.one (.int k a)))) (hy:s.ev y=some (.b (.one (.int k b)))):aR P E n ⟨dst,.binOp .geq t x y yt,ty,pos,after,g⟩ s (s.put n dst (B (decide (b<=a)))) :=
 xP (f:=fun a b=>decide (b<=a)) (by simp[eqGuard,binOp,Op.intCmp]) hx hy
theorem n3 (hx:s.ev x=some (.b (.one (.int k a)))) (hy:s.ev y=some (.b (.one (.int k b)))):aR P E n ⟨dst,.binOp .eql t x y yt,ty,pos,after,g⟩ s (s.put n dst (B (decide (a=b)))) :=
 xP (f:=fun a b=>decide (a=b)) (by simp[eqGuard,binOp,Op.intCmp,wx]) hx hy
theorem xO (hx:s.ev x=some (.b (.one (.int k a)))) (hy:s.ev y=some (.b (.one (.int k b)))):aR P E n ⟨dst,.binOp .neq t x y yt,ty,pos,after,g⟩ s (s.put n dst (B (decide (a≠b)))) :=
 xP (f:=fun a b=>decide (a≠b)) (by simp[eqGuard,binOp,Op.intCmp,bne,wx]) hx hy
theorem C' {b:Bool} (hx:s.ev x=some (B b)):aR P E n ⟨dst,.unOp .not t x,ty,pos,after,g⟩ s (s.put n dst (B (!b))) :=
 aR.val (o:=⟨dst,.unOp .not t x,ty,pos,after,g⟩) fun ac w h ρ hw hs=>⟨.bool (!b),by simp[execOp,oQ hs hx,Op.unary],rfl⟩
theorem op_neg (hx:s.ev x=some (.b (.one (.int k a)))):aR P E n ⟨dst,.unOp .neg t x,ty,pos,after,g⟩ s (s.put n dst (.b (.one (.int k (k.wrap (-a)))))) :=
 aR.val (o:=⟨dst,.unOp .neg t x,ty,pos,after,g⟩) fun ac w h ρ hw hs=>⟨.int k (k.wrap (-a)),by simp[execOp,(bI hs hx).1,Op.unary,Op.intArith],rfl,lP _ _⟩
theorem gn {b z gd:Bool} {d:SV} (hg:b=true->gd=true) (hx:s.ev x=some (B b)) (hy:s.ev y=some (.opt gd (.one (.bool z)))) (hc:s.ev c=some d) (hd:d=B false:=by rfl) :
 aR P E n ⟨dst,.pick x y c,ty,pos,after,g⟩ s (s.put n dst (B (b&&z))) :=
 aR.val (o:=⟨dst,.pick x y c,ty,pos,after,g⟩) fun ac w h ρ hw hs=>by
  subst hd
  refine⟨.bool (b&&z),?_,rfl⟩
  have h2:gd=true->ac.eval y=.bool z:=(aE hs hy).1
  have h3:ac.eval c=.bool false:=aE hs hc
  cases b
  simp[execOp,oQ hs hx,asBool,h3]
  simp[execOp,oQ hs hx,asBool,h2 (hg rfl)]
theorem fI {b z gd:Bool} {d:SV} (hg:b=false->gd=true) (hx:s.ev x=some (B b)) (hy:s.ev y=some d) (hc:s.ev c=some (.opt gd (.one (.bool z)))) (hd:d=B true:=by rfl) :
 aR P E n ⟨dst,.pick x y c,ty,pos,after,g⟩ s (s.put n dst (B (b||z))) :=
 aR.val (o:=⟨dst,.pick x y c,ty,pos,after,g⟩) fun ac w h ρ hw hs=>by
  subst hd
  refine⟨.bool (b||z),?_,rfl⟩
  have h2:gd=true->ac.eval c=.bool z:=(aE hs hc).1
  have h3:ac.eval y=.bool true:=aE hs hy
  cases b
  simp[execOp,oQ hs hx,asBool,h2 (hg rfl)]
  simp[execOp,oQ hs hx,asBool,h3]
theorem FL {b d:Bool} (ht:P.underlying t=some .bool) (hx:s.ev x=some (B b)) (hy:s.ev y=some (B d)):aR P E n ⟨dst,.binOp .eql t x y yt,ty,pos,after,g⟩ s (s.put n dst (B (b==d))) :=
 aR.val (o:=⟨dst,.binOp .eql t x y yt,ty,pos,after,g⟩) fun ac w h ρ hw hs=>by
  refine⟨.bool (b==d),?_,rfl⟩
  simp only[execOp,oQ hs hx,oQ hs hy]
  simp[eqGuard,binOp,run_equal_bool _ _ _ _ ht]
theorem yZ {b d:Bool} (ht:P.underlying t=some .bool) (hx:s.ev x=some (B b)) (hy:s.ev y=some (B d)):aR P E n ⟨dst,.binOp .neq t x y yt,ty,pos,after,g⟩ s (s.put n dst (B (b != d))) :=
 aR.val (o:=⟨dst,.binOp .neq t x y yt,ty,pos,after,g⟩) fun ac w h ρ hw hs=>by
  refine⟨.bool (b != d),?_,rfl⟩
  simp only[execOp,oQ hs hx,oQ hs hy]
  simp[eqGuard,binOp,bne,run_equal_bool _ _ _ _ ht]
theorem vK {u v:Str} (hx:s.ev x=some (.b (.one (.str u)))) (hy:s.ev y=some (.b (.one (.str v)))):aR P E n ⟨dst,.binOp .eql t x y yt,ty,pos,after,g⟩ s (s.put n dst (B (decide (u=v)))) :=
 aR.val (o:=⟨dst,.binOp .eql t x y yt,ty,pos,after,g⟩) fun ac w h ρ hw hs=>by
  refine⟨.bool (decide (u=v)),?_,rfl⟩
  simp only[execOp,(lL hs hx).1,(lL hs hy).1]
  simp[eqGuard,binOp,Op.stringOp,← zK]
theorem vH {u v:Str} (hx:s.ev x=some (.b (.one (.str u)))) (hy:s.ev y=some (.b (.one (.str v)))):aR P E n ⟨dst,.binOp .neq t x y yt,ty,pos,after,g⟩ s (s.put n dst (B (decide (u≠v)))) :=
 aR.val (o:=⟨dst,.binOp .neq t x y yt,ty,pos,after,g⟩) fun ac w h ρ hw hs=>by
  refine⟨.bool (decide (u≠v)),?_,rfl⟩
  simp only[execOp,(lL hs hx).1,(lL hs hy).1]
  simp[eqGuard,binOp,Op.stringOp,← zK]
end
end Go.Sk
namespace Go.Sk
open Go
def ins {α:Type} (k:Nat) (c:α):List (Nat×α)->List (Nat×α)
 | []=>[(k,c)]
 | (j,x)::l=>if k==j then (k,c)::del k l else (j,x)::ins k c l
theorem iW {α:Type} {k:Nat} {c:α}:∀ {l:List (Nat×α)} {j:Nat} {x:α},(j,x)∈ins k c l->(j=k/\x=c)∨(j≠k/\(j,x)∈l)
 | [],j,x,h=>by simp[ins] at h;exact .inl h
 | (i,y)::l,j,x,h=>by
  unfold ins at h
  split at h
  cases List.mem_cons.1 h with
  | inl e=>obtain⟨rfl,rfl⟩:=Prod.mk.inj e;exact .inl ⟨rfl,rfl⟩
  | inr e=>exact .inr ⟨(cj e).2,List.mem_cons_of_mem _ (cj e).1⟩
  rename_i hne
  cases List.mem_cons.1 h with
  | inl e=>
   obtain⟨rfl,rfl⟩:=Prod.mk.inj e
   exact .inr ⟨fun e=>hne (by simp[e]),List.mem_cons_self⟩
  | inr e=>
   rcases iW e with h|⟨h1,h2⟩
   exact .inl h
   exact .inr ⟨h1,List.mem_cons_of_mem _ h2⟩
def oX (ρ:RM) (k:Nat) (v:Value):RM:=fun j=>if j=k then v else ρ j
theorem cL (ρ:RM) (k:Nat) (v:Value):oX ρ k v k=v:=by simp[oX]
theorem fB (ρ:RM) {j k:Nat} (v:Value) (h:j≠k):oX ρ k v j=ρ j:=by simp[oX,h]
def cu (k:Nat):List (Nat×SV)->List (Nat×SV)
 | []=>[]
 | (j,x)::l=>if x.bf k then cu k l else (j,x)::cu k l
theorem gh {k:Nat}:∀ {l:List (Nat×SV)} {p:Nat×SV},p∈cu k l->p∈l/\p.2.bf k=false
 | (j,x)::l,p,h=>by
  unfold cu at h
  split at h
  exact⟨List.mem_cons_of_mem _ (gh h).1,(gh h).2⟩
  rename_i hx
  cases List.mem_cons.1 h with
  | inl e=>subst e;exact⟨List.mem_cons_self,by simpa using hx⟩
  | inr e=>exact⟨List.mem_cons_of_mem _ (gh e).1,(gh e).2⟩
theorem bt.cu {h:PH} {ρ:RM} {slots:List (Nat×SV)} {tmps:Array Value} (hs:bt h ρ slots tmps) (k:Nat) (v:Value):bt h (oX ρ k v) (cu k slots) tmps:=by
 intro j x hx
 obtain⟨h1,h2⟩:=gh hx
 obtain⟨u,hu,hr⟩:=hs j x h1
 exact⟨u,hu,SV.mono (PH.le_refl h) (fun i hi=>fB ρ v (fun e=>by subst e;simp[h2] at hi)) hr⟩
theorem bt.mono {h h':PH} {ρ:RM} {slots:List (Nat×SV)} {tmps:Array Value} (hl:h.le h') (hs:bt h ρ slots tmps):bt h' ρ slots tmps :=
 fun j x hx=>let ⟨u,hu,hr⟩:=hs j x hx;⟨u,hu,SV.mono hl (fun _ _=>rfl) hr⟩
theorem u7 {w w':World} {e:TypeId} {size n:Nat} {v:Value} {xs:List Value} (ho:w.ownsRow 0 e size v n xs) (hb:∀ b,ba v=some b->w'.heap[b]?=w.heap[b]?):w'.ownsRow 0 e size v n xs:=by
 refine⟨ho.1,?_⟩
 rcases ho.2 with h|⟨g,cap,cur,rfl,h1,h2,h3⟩
 exact .inl h
 exact .inr ⟨g,cap,cur,rfl,h1,by rw[hb g rfl];exact h2,h3⟩
theorem HK.congr {h:PH} {w w':World} {e:TypeId} {size:Nat} {u:Value} {es:List (List CP)} (x:HK h w e size u es) (hb:∀ b,ba u=some b->w'.heap[b]?=w.heap[b]?):HK h w' e size u es :=
 ⟨x.uni,let ⟨xs,h1,h2⟩:=x.row;⟨xs,u7 h1 hb,h2⟩⟩
theorem Aa.inner {h:PH} {v:Value} {w:World} {T e:TypeId} {size:Nat} {hole:Ez} {ess:List (List (List CP))} {us:List Value} (x:Aa h v w T e size hole ess us) {b:Nat} :
 (OC.rr T e size hole ess).inner v w b↔∃ (i:Nat) (u:Value),us[i]?=some u/\¬ hole.has i/\ba u=some b:=by
 have b0:=x.out
 constructor
 rintro⟨g,cur,T',fr,i,u,h1,h2,h3,h4,h5⟩
 rcases b0.2 with ⟨rfl,hn⟩|⟨g',cap,b1,rfl,_,h6,h7,h8,h9,b2⟩
 simp[ba] at h1
 simp[ba] at h1
 subst h1
 rw[h6] at h2
 cases h2
 refine⟨i,u,?_,h5⟩
 rw[← b2,List.getElem?_take,if_pos (by omega)]
 simpa using h4
 rintro⟨i,u,h1,h2,h3⟩
 rcases b0.2 with ⟨rfl,hn⟩|⟨g',cap,b1,rfl,_,h6,h7,h8,h9,b2⟩
 have:=b0.1
 have h4:i<us.length:=(List.getElem?_eq_some_iff.1 h1).1
 omega
 have h4:i<us.length:=(List.getElem?_eq_some_iff.1 h1).1
 have h5:=b0.1
 refine⟨g',b1,T,(0,0),i,u,rfl,h6,by omega,?_,h2,h3⟩
 rw[← b2,List.getElem?_take,if_pos (by omega)] at h1
 simpa using h1
theorem OC.ok.congr {c:OC} {h:PH} {ρ:RM} {v:Value} {w w':World} (hc:c.ok h ρ v w) (hf:∀ b,c.dK v w b->w'.heap[b]?=w.heap[b]?):c.ok h ρ v w':=by
 have hb:∀ b,ba v=some b->w'.heap[b]?=w.heap[b]?:=fun b h=>hf b (.inl h)
 cases c with
 | BQ j m rest cur=>
  obtain⟨b,ms,clk,D,seen,x⟩:=hc
  exact⟨b,ms,clk,D,seen,x.ptr,by rw[hb D (by rw[x.ptr];rfl)];exact x.it,x.map,by rw[hf b (.inr ⟨D,clk,seen,clk,by rw[x.ptr];rfl,x.it⟩)];exact x.obj,x.ents,x.born,x.left,x.at_⟩
 | rr T e size hole ess=>
  obtain⟨us,x⟩:=hc
  refine⟨us,x.pos,u7 x.out hb,x.one,fun i u es h1 h2 h3=>(x.rows i u es h1 h2 h3).congr fun b h4=>hf b (.inr (x.inner.2 ⟨i,u,h1,h3,h4⟩)),x.sep,x.self⟩
 | box T ps=>
  obtain⟨b,cur,rfl,h2,h3⟩:=hc
  exact⟨b,cur,rfl,by rw[hb b rfl];exact h2,h3⟩
 | sit q pos=>
  obtain⟨b,rfl,h2,h3⟩:=hc
  exact⟨b,rfl,by rw[hb b rfl];exact h2,h3⟩
 | mp es=>
  obtain⟨b,ms,clk,rfl,h2,h3⟩:=hc
  exact⟨b,ms,clk,rfl,by rw[hb b rfl];exact h2,h3⟩
 | mq m=>
  obtain⟨b,ms,clk,rfl,h2,h3⟩:=hc
  exact⟨b,ms,clk,rfl,by rw[hb b rfl];exact h2,h3⟩
 | bb T ps=>
  obtain⟨b,cur,rfl,h2,h3⟩:=hc
  exact⟨b,cur,rfl,by rw[hb b rfl];exact h2,h3⟩
 | row T size es=>
  obtain⟨hu,hz,xs,⟨hl,ho⟩,hr⟩:=hc
  refine⟨hu,hz,xs,⟨hl,?_⟩,hr⟩
  rcases ho with ho|⟨g,cap,cur,rfl,h1,h2,h3⟩
  exact .inl ho
  exact .inr ⟨g,cap,cur,rfl,h1,by rw[hb g rfl];exact h2,h3⟩
 | oM T size es=>
  obtain⟨hu,hz,xs,⟨hl,ho⟩,hr⟩:=hc
  refine⟨hu,hz,xs,⟨hl,?_⟩,hr⟩
  rcases ho with ho|⟨g,cap,cur,rfl,h1,h2,h3⟩
  exact .inl ho
  exact .inr ⟨g,cap,cur,rfl,h1,by rw[hb g rfl];exact h2,h3⟩
 | CZ T size es=>
  obtain⟨hu,hz,xs,⟨hl,ho⟩,hr⟩:=hc
  refine⟨hu,hz,xs,⟨hl,?_⟩,hr⟩
  rcases ho with ho|⟨g,off,cap,cur,rfl,h2,h3⟩
  exact .inl ho
  exact .inr ⟨g,off,cap,cur,rfl,by rw[hb g rfl];exact h2,h3⟩
theorem OC.ok.mono {c:OC} {h h':PH} {ρ:RM} {v:Value} {w:World} (hl:h.le h') (hc:c.ok h ρ v w):c.ok h' ρ v w:=by
 cases c with
 | box T ps=>obtain⟨b,cur,e,h2,h3⟩:=hc;exact⟨b,cur,e,h2,h3.mono hl⟩
 | BQ j m rest cur=>exact hc
 | rr T e size hole ess=>obtain⟨us,x⟩:=hc;exact⟨us,x.pos,x.out,x.one,fun i u es h1 h2 h3=>let y:=x.rows i u es h1 h2 h3;⟨y.uni,let ⟨xs,h4,h5⟩:=y.row;⟨xs,h4,h5.mono hl⟩⟩,x.sep,x.self⟩
 | sit q pos=>exact hc
 | mq m=>exact hc
 | mp es=>obtain⟨b,ms,clk,e,h2,h3,h4⟩:=hc;exact⟨b,ms,clk,e,h2,aO.mono h3 fun p e hp=>⟨p.1.mono hl hp.1,BV.mono hl (fun _ _=>rfl) hp.2⟩,h4⟩
 | bb T ps=>obtain⟨b,cur,e,h2,h3⟩:=hc;exact⟨b,cur,e,h2,aO.mono h3 fun z u hz=>⟨BV.mono hl (fun _ _=>rfl) hz.1,hz.2⟩⟩
 | row T size es=>obtain⟨hu,hz,xs,ho,hr⟩:=hc;exact⟨hu,hz,xs,ho,hr.mono hl⟩
 | oM T size es=>obtain⟨hu,hz,xs,ho,hr⟩:=hc;exact⟨hu,hz,xs,ho,hr.mono hl⟩
 | CZ T size es=>obtain⟨hu,hz,xs,ho,hr⟩:=hc;exact⟨hu,hz,xs,ho,hr.mono hl⟩
theorem vG {w:World} {e:TypeId} {size n:Nat} {v:Value} {xs:List Value} (ho:w.ownsRow 0 e size v n xs) {b:Nat} (hb:ba v=some b):b<w.heap.size:=by
 rcases ho.2 with ⟨rfl,_⟩|⟨g,cap,cur,rfl,h1,h2,h3⟩
 simp[ba] at hb
 simp[ba] at hb
 subst hb
 rcases Nat.lt_or_ge g w.heap.size with h|h
 exact h
 simp[Array.getElem?_eq_none h] at h2
theorem OC.ok.lt {c:OC} {h:PH} {ρ:RM} {v:Value} {w:World} (hc:c.ok h ρ v w) {b:Nat} (hf:c.dK v w b):b<w.heap.size:=by
 rcases hf with hb|hi
 rotate_left
 ·cases c with
  | rr T e size hole ess=>
   obtain⟨us,x⟩:=hc
   obtain⟨i,u,h1,h2,h3⟩:=x.inner.1 hi
   obtain⟨es,hes⟩:∃ es,ess[i]?=some es:=by
    have h4:i<us.length:=(List.getElem?_eq_some_iff.1 h1).1
    have h5:=x.out.1
    exact⟨_,List.getElem?_eq_getElem (by omega)⟩
   obtain⟨xs,h6,_⟩:=(x.rows i u es h1 hes h2).row
   exact vG h6 h3
  | BQ j m rest cur=>
   obtain⟨b',ms,clk,D,seen,x⟩:=hc
   obtain⟨D',s1,s2,s3,h1,h2⟩:=hi
   rw[x.ptr] at h1
   cases h1
   rw[x.it] at h2
   cases h2
   rcases Nat.lt_or_ge b w.heap.size with h|h
   ·exact h
   ·have:=x.obj;simp[Array.getElem?_eq_none h] at this
  | _=>exact hi.elim
 have key:∀ {o:Obj},w.heap[b]?=some o->b<w.heap.size:=fun e=>by
  rcases Nat.lt_or_ge b w.heap.size with h|h
  ·exact h
  ·simp[Array.getElem?_eq_none h] at e
 cases c with
 | rr T e size hole ess=>obtain⟨us,x⟩:=hc;exact vG x.out hb
 | BQ j m rest cur=>obtain⟨b',ms,clk,D,seen,x⟩:=hc;rw[x.ptr] at hb;cases hb;exact key x.it
 | box T ps=>obtain⟨b',cur,rfl,h2,h3⟩:=hc;simp[ba] at hb;subst hb;exact key h2
 | sit q pos=>obtain⟨b',rfl,h2,h3⟩:=hc;simp[ba] at hb;subst hb;exact key h2
 | mp es=>obtain⟨b',ms,clk,rfl,h2,h3⟩:=hc;simp[ba] at hb;subst hb;exact key h2
 | mq m=>obtain⟨b',ms,clk,rfl,h2,h3⟩:=hc;simp[ba] at hb;subst hb;exact key h2
 | bb T ps=>obtain⟨b',cur,rfl,h2,h3⟩:=hc;simp[ba] at hb;subst hb;exact key h2
 | row T size es=>
  obtain⟨hu,hz,xs,⟨hl,ho⟩,hr⟩:=hc
  rcases ho with ⟨rfl,_⟩|⟨g,cap,cur,rfl,h1,h2,h3⟩
  ·simp[ba] at hb
  ·simp[ba] at hb;subst hb;exact key h2
 | oM T size es=>
  obtain⟨hu,hz,xs,⟨hl,ho⟩,hr⟩:=hc
  rcases ho with ⟨rfl,_⟩|⟨g,cap,cur,rfl,h1,h2,h3⟩
  ·simp[ba] at hb
  ·simp[ba] at hb;subst hb;exact key h2
 | CZ T size es=>
  obtain⟨hu,hz,xs,⟨hl,ho⟩,hr⟩:=hc
  rcases ho with ⟨rfl,_⟩|⟨g,off,cap,cur,rfl,h2,h3⟩
  ·simp[ba] at hb
  ·simp[ba] at hb;subst hb;exact key h2
theorem G9 {w:World} {b o:Nat} {v:Value} (h:w.cell? ⟨b,o,none⟩=some v):b<w.heap.size:=block_lt_of_cell h
theorem WR.stepF {TB:aH} {E:Env TB} {n:Sh} {own:List (Nat×OC)} {h:PH} {ρ:RM} {w w':World} (hw:WR E n own h ρ w) (k:Nat) (v':Value) (c':OC) (row:Option Nat)
 (c4:∀ b,row=some b->∃ c,(k,c)∈own/\c.dK (ρ k) w b)
 (c5:w.heap.size<=w'.heap.size) (hos:w'.os=w.os) (c7:w'.output=w.output) (b1:∀ b,b<w.heap.size->some b≠row->w'.heap[b]?=w.heap[b]?)
 (hc:c'.ok h (oX ρ k v') v' w') (c3:∀ b,c'.dK v' w' b->(∃ c,(k,c)∈own/\c.dK (ρ k) w b)∨w.heap.size<=b) (hfx:v'=ρ k∨k ∉ n.fix) (hnu:v'=ρ k∨dy k own=true):WR E n (ins k c' own) h (oX ρ k v') w':=by
 have e0:∀ j x,(j,x)∈own->∀ i,x.bf i=true->oX ρ k v' i=ρ i:=fun j x hx i hi=>by
  by_cases e:i=k
  subst e
  rcases hnu with h|h
  rw[cL];exact h
  rw[q9 h hx] at hi;simp at hi
  exact fB _ _ e
 have b2:∀ b,(∃ c,(k,c)∈own/\c.dK (ρ k) w b)->(E.w0.heap.size<=b∨ry E n b)/\(∀ o,h b o=none):=fun b ⟨c,e1,e2⟩=>(hw.owned k c e1).2.1 b e2
 have b3:∀ b,row=some b->(E.w0.heap.size<=b∨ry E n b)/\(∀ o,h b o=none):=fun b hb=>b2 b (c4 b hb)
 have e3:∀ b,w.heap.size<=b->∀ o,h b o=none:=fun b hb o=>by
  cases e:h b o with
  | none=>rfl
  | some u=>have:=iq (hw.agree b o u e);omega
 have b0:∀ j x,(j,x)∈own->j≠k->x.ok h (oX ρ k v') (ρ j) w'/\(∀ b,x.dK (ρ j) w' b->x.dK (ρ j) w b)/\∀ b,x.dK (ρ j) w b->(¬ ∃ c,(k,c)∈own/\c.dK (ρ k) w b)/\b<w.heap.size:=fun j x hx hj=>by
  have h1:=hw.owned j x hx
  have h2:∀ b,x.dK (ρ j) w b->(¬ ∃ c,(k,c)∈own/\c.dK (ρ k) w b)/\b<w.heap.size:=fun b hb=>by
   refine⟨fun ⟨c,e1,e2⟩=>?_,h1.1.lt hb⟩
   exact h1.2.2 k c e1 (fun e=>hj e.symm) b hb e2
  have h3:∀ b,x.dK (ρ j) w b->w'.heap[b]?=w.heap[b]?:=fun b hb=>b1 b (h2 b hb).2 fun e=>(h2 b hb).1 (c4 b e.symm)
  exact⟨(h1.1.congr h3).JO (e0 j x hx),fun b=>OC.dK.congr fun b hb=>h3 b (.inl hb),h2⟩
 refine⟨?_,hw.le,hw.fresh,Nat.le_trans hw.size c5,?_,?_,hos.trans hw.os,c7.trans hw.out,hw.nl,?_⟩
 intro b o u hu
 have c2:=hw.agree b o u hu
 have e4:=iq c2
 have e5:some b≠row:=fun e=>by have:=(b3 b e.symm).2 o;rw[this] at hu;simp at hu
 rw[mX (b1 b e4 e5)];exact c2
 intro b hb hl
 have e4:b<w.heap.size:=Nat.lt_of_lt_of_le hb hw.size
 have e5:some b≠row:=fun e=>by
  rcases (b3 b e.symm).1 with h1|h1
  omega
  exact hl h1
 rw[b1 b e4 e5];exact hw.same b hb hl
 intro j hj
 by_cases e:j=k
 subst e
 rw[cL]
 rcases hfx with h|h
 rw[h];exact hw.fixed j hj
 exact absurd hj h
 rw[fB _ _ e];exact hw.fixed j hj
 intro j x hx
 rcases iW hx with ⟨rfl,rfl⟩|⟨hj,hx⟩
 rw[cL]
 refine⟨hc,?_,?_⟩
 intro b hb
 rcases c3 b hb with h1|h1
 exact b2 b h1
 exact⟨.inl (Nat.le_trans hw.size h1),e3 b h1⟩
 intro i y hy e6 b hb
 rcases iW hy with ⟨h1,_⟩|⟨h1,h2⟩
 exact absurd h1 e6
 rw[fB _ _ h1]
 intro c6
 have h3:=(b0 i y h2 h1).2.2 b ((b0 i y h2 h1).2.1 b c6)
 rcases c3 b hb with h4|h4
 exact h3.1 h4
 omega
 rw[fB _ _ hj]
 obtain⟨h1,h2,h3⟩:=b0 j x hx hj
 refine⟨h1,fun b hb=>(hw.owned j x hx).2.1 b (h2 b hb),?_⟩
 intro i y hy e6 b hb
 rcases iW hy with ⟨rfl,rfl⟩|⟨hik,h5⟩
 rw[cL]
 intro c6
 rcases c3 b c6 with h4|h4
 exact (h3 b (h2 b hb)).1 h4
 have:=(h3 b (h2 b hb)).2;omega
 rw[fB _ _ hik]
 exact fun c6=>(hw.owned j x hx).2.2 i y h5 e6 b (h2 b hb) ((b0 i y h5 hik).2.1 b c6)
theorem WR.step {TB:aH} {E:Env TB} {n:Sh} {own:List (Nat×OC)} {h:PH} {ρ:RM} {w w':World} (hw:WR E n own h ρ w) (k:Nat) (v':Value) (c':OC) (row:Option Nat)
 (b0:∀ b,row=some b->∃ c,(k,c)∈own/\ba (ρ k)=some b)
 (b1:w.heap.size<=w'.heap.size) (hos:w'.os=w.os) (b3:w'.output=w.output) (b2:∀ b,b<w.heap.size->some b≠row->w'.heap[b]?=w.heap[b]?)
 (hc:c'.ok h (oX ρ k v') v' w') (c2:∀ b,ba v'=some b->row=some b∨w.heap.size<=b) (hfx:v'=ρ k∨k ∉ n.fix) (hnu:v'=ρ k∨dy k own=true) (hpl:c'.plain=true:=by rfl):WR E n (ins k c' own) h (oX ρ k v') w' :=
 hw.stepF k v' c' row (fun b hb=>let ⟨c,h1,h2⟩:=b0 b hb;⟨c,h1,.inl h2⟩) b1 hos b3 b2 hc (fun b hb=>(c2 b (hb.AN hpl)).imp (fun h=>let ⟨c,h1,h2⟩:=b0 b h;⟨c,h1,.inl h2⟩) id) hfx hnu
def aggD:TypeDesc->Bool
 | .struct _|.array _ _=>true
 | _=>false
structure gN (P:Program) (t:TypeId) (n:Nat):Prop where
 und:∃ d,P.underlying t=some d/\aggD d=true
 size:∃ i,P.info? t=some i/\i.size=n
structure c8 (P:Program) (t:TypeId):Prop where
 und:∃ d,P.underlying t=some d/\aggD d=false
 size:∃ i,P.info? t=some i/\i.size=1
structure eX (P:Program) (t:TypeId) (f off:Nat) (ft:TypeId):Prop where
 und:∃ fs fd i,P.underlying t=some (.struct fs)/\fs[f]?=some fd/\fd.offset=off/\fd.type=ft/\P.info? ft=some i/\0<i.size
structure lD (P:Program) (t e:TypeId) (size bytes:Nat) (zs:List CP):Prop where
 und:P.underlying t=some (.slice e)
 info:∃ i z,P.info? e=some i/\i.size=size/\i.bytes=bytes/\i.zero=some z/\z.cells.size=size/\0<size/\Hn z.cells.toList=some zs
structure rG (P:Program) (t:TypeId) (zs:List CP):Prop where
 info:∃ i z,P.info? t=some i/\i.zero=some z/\Hn z.cells.toList=some zs
theorem mO {P:Program} {t:TypeId} {d:TypeDesc} (hd:P.underlying t=some d) (w:World):(isAgg t).run P w=.ok (aggD d) w:=by
 unfold isAgg
 rw[Sem.run_bind,run_underlying hd]
 cases d<;>rfl
theorem run_sizeOf {P:Program} {t:TypeId} {i:TypeInfo} (hi:P.info? t=some i) (w:World):(sizeOf t).run P w=.ok i.size w:=by
 simp[sizeOf,typeInfo,hi]
theorem Reads.list {h:PH} {b:Nat}:∀ {ps:List CP} {o:Nat},Reads h b o ps->∃ cs,aB h ps cs/\∀ j v,cs[j]?=some v->h b (o+j)=some v
 | [],_,_=>⟨[],.nil,fun j v hv=>by simp at hv⟩
 | p::ps,o,hr=>by
  obtain⟨u,hu,hpu⟩:=hr 0 p (by simp)
  obtain⟨cs,h1,h2⟩:=Reads.list (ps:=ps) (o:=o+1) (fun j c hc=>by
   obtain⟨u,hu,hr⟩:=hr (j+1) c (by simpa using hc)
   exact⟨u,by rw[Nat.add_assoc,Nat.add_comm 1 j];exact hu,hr⟩)
  refine⟨u::cs,.cons hpu h1,fun j v hv=>?_⟩
  cases j with
  | zero=>simp at hv;subst hv;exact hu
  | succ j=>have:=h2 j v (by simpa using hv);rw[Nat.add_assoc,Nat.add_comm 1 j] at this;exact this
theorem j3 {P:Program} {t:TypeId} {n:Nat} (ht:gN P t n) {w:World} {b o:Nat} {cs:List Value} (hl:cs.length=n) (hc:∀ j v,cs[j]?=some v->w.cell? ⟨b,o+j,none⟩=some v) :
 (loadVar t ⟨b,o,none⟩).run P w=.ok (.agg cs.toArray) w:=by
 obtain⟨d,hd,ha⟩:=ht.und
 obtain⟨i,hi,hn⟩:=ht.size
 have hh:∀ j v,cs[j]?=some v->w.cell? ((⟨b,o,none⟩:Addr).add j)=some v:=fun j v hv=>by rw[Addr.add_lit];exact hc j v hv
 have b0:=run_loadCells_list (P:=P) w ⟨b,o,none⟩ cs hh
 unfold loadVar
 rw[Sem.run_bind,mO hd,Result.andThen,ha]
 simp only[if_true]
 rw[Sem.run_bind,run_sizeOf hi,Result.andThen,hn,← hl,Sem.run_bind,b0]
 rfl
theorem j2 {P:Program} {t:TypeId} (ht:c8 P t) {w:World} {b o:Nat} {v:Value} (hc:w.cell? ⟨b,o,none⟩=some v):(loadVar t ⟨b,o,none⟩).run P w=.ok v w:=by
 obtain⟨d,hd,ha⟩:=ht.und
 unfold loadVar
 rw[Sem.run_bind,mO hd,Result.andThen,ha]
 simp[load,Sem.run,hc]
section
variable {P:Program} {TB:aH} {E:Env TB} {n:Sh} {s:St} {dst:Option Nat} {t ty yt:TypeId} {pos:String} {after:Array Edge} {g:Option (Nat×Bool)} {x y c:Operand}
theorem Jk {ps qs:List CP} {m:Nat} (ht:gN P t m) (hx:s.ev x=some (.b (.kG ps))) (hp:ps.take m=qs) (hq:qs.length=m) :
 aR P E n ⟨dst,.load t x,ty,pos,after,g⟩ s (s.put n dst (.b (.agg qs))) :=
 aR.val (o:=⟨dst,.load t x,ty,pos,after,g⟩) fun ac w h ρ hw hs=>by
  obtain⟨b,o,he,hr⟩:=(aE hs hx:BV.rel h ρ (.kG ps) _)
  have hr':Reads h b o qs:=fun j c hc=>hr j c (by
   rw[← hp] at hc
   rw[List.getElem?_take] at hc
   split at hc
   exact hc
   simp at hc)
  obtain⟨cs,h1,h2⟩:=hr'.list
  refine⟨.agg cs.toArray,?_,cs.toArray,rfl,by simpa using h1⟩
  have:=j3 ht (w:=w) (b:=b) (o:=o) (cs:=cs) (by rw[← h1.length,hq]) (fun j v hv=>hw.agree.cell (h2 j v hv) (h1.one v (List.mem_of_getElem? hv)))
  simp only[execOp,he,Instr.loadAt,Instr.sureAddr]
  simp[this]
theorem la {ps:List CP} {p:CP} (ht:c8 P t) (hx:s.ev x=some (.b (.kG ps))) (hp:ps[0]?=some p) :
 aR P E n ⟨dst,.load t x,ty,pos,after,g⟩ s (s.put n dst (.b (.one p))) :=
 aR.val (o:=⟨dst,.load t x,ty,pos,after,g⟩) fun ac w h ρ hw hs=>by
  obtain⟨b,o,he,hr⟩:=(aE hs hx:BV.rel h ρ (.kG ps) _)
  obtain⟨u,hu,hpu⟩:=hr 0 p hp
  have:=j2 ht (w:=w) (b:=b) (o:=o) (v:=u) (hw.agree.cell hu (p.one hpu))
  refine⟨u,?_,hpu⟩
  simp only[execOp,he,Instr.loadAt,Instr.sureAddr]
  simp[this]
theorem iL {h:PH} {ρ:RM} {own:List (Nat×OC)} {w:World} (hw:WR E n own h ρ w) {k:Nat} {T:TypeId} {ps:List CP} (hk:lk own k=some (.box T ps)) :
 ∃ b cur,ρ k=.pointer (some ⟨b,0,none⟩)/\w.heap[b]?=some (.cells cur T (0,0))/\aB h ps cur.toList :=
 (hw.owned k _ (bj hk)).1
theorem gY {w:World} {b:Nat} {cur:Array Value} {T:TypeId} {fr:Nat×Nat} (hb:w.heap[b]?=some (.cells cur T fr)) (o:Nat):w.cell? ⟨b,o,none⟩=cur[o]?:=by simp[World.cell?,hb]
theorem uu {k off:Nat} {T:TypeId} {ps qs:List CP} {m:Nat} (ht:gN P t m) (hx:s.ev x=some (.b (.ptr k off))) (hk:lk s.own k=some (.box T ps)) (hp:(ps.drop off).take m=qs) (hq:qs.length=m) :
 aR P E n ⟨dst,.load t x,ty,pos,after,g⟩ s (s.put n dst (.b (.agg qs))) :=
 aR.val (o:=⟨dst,.load t x,ty,pos,after,g⟩) fun ac w h ρ hw hs=>by
  obtain⟨b,he,hv⟩:=(aE hs hx:BV.rel h ρ (.ptr k off) _)
  obtain⟨b',cur,hb1,hb2,hb3⟩:=iL hw hk
  have:b'=b:=by rw[hb1] at he;simpa using he
  subst this
  have hc:aB h qs ((cur.toList.drop off).take m):=by rw[← hp];exact aO.take (aO.drop hb3 off) m
  refine⟨.agg ((cur.toList.drop off).take m).toArray,?_,_,rfl,by simpa using hc⟩
  have:=j3 ht (w:=w) (b:=b') (o:=off) (cs:=(cur.toList.drop off).take m) (by rw[← hc.length,hq]) (fun j v hv=>by
   rw[gY hb2]
   rw[List.getElem?_take] at hv
   split at hv
   simpa using hv
   simp at hv)
  simp only[execOp,hv,Instr.loadAt,Instr.sureAddr]
  simp[this]
theorem aJ {k off:Nat} {T:TypeId} {ps:List CP} {p:CP} (ht:c8 P t) (hx:s.ev x=some (.b (.ptr k off))) (hk:lk s.own k=some (.box T ps)) (hp:ps[off]?=some p) :
 aR P E n ⟨dst,.load t x,ty,pos,after,g⟩ s (s.put n dst (.b (.one p))) :=
 aR.val (o:=⟨dst,.load t x,ty,pos,after,g⟩) fun ac w h ρ hw hs=>by
  obtain⟨b,he,hv⟩:=(aE hs hx:BV.rel h ρ (.ptr k off) _)
  obtain⟨b',cur,hb1,hb2,hb3⟩:=iL hw hk
  have:b'=b:=by rw[hb1] at he;simpa using he
  subst this
  obtain⟨u,hu,hpu⟩:=hb3.get off p hp
  have:=j2 ht (w:=w) (b:=b') (o:=off) (v:=u) (by rw[gY hb2];simpa using hu)
  refine⟨u,?_,hpu⟩
  simp only[execOp,hv,Instr.loadAt,Instr.sureAddr]
  simp[this]
theorem tC {f off:Nat} {ft:TypeId} (ht:eX P t f off ft) (w:World) (b o:Nat):(Instr.fieldAt t (.pointer (some ⟨b,o,none⟩)) f).run P w=.ok (.pointer (some ⟨b,o+off,none⟩)) w:=by
 obtain⟨fs,fd,i,h1,h2,rfl,rfl,h5,h6⟩:=ht.und
 unfold Instr.fieldAt
 rw[Sem.run_bind,run_underlying h1,Result.andThen]
 simp only[h2]
 have hz:¬ i.size=0:=by omega
 simp[Instr.sureAddr,fieldPlace,sizeOf,typeInfo,h5,hz,Addr.add_lit]
theorem G1 {f off:Nat} {ft:TypeId} {ps qs:List CP} (ht:eX P t f off ft) (hx:s.ev x=some (.b (.kG ps))) (hq:ps.drop off=qs) :
 aR P E n ⟨dst,.fieldAddr t x f,ty,pos,after,g⟩ s (s.put n dst (.b (.kG qs))) :=
 aR.val (o:=⟨dst,.fieldAddr t x f,ty,pos,after,g⟩) fun ac w h ρ hw hs=>by
  obtain⟨b,o,he,hr⟩:=(aE hs hx:BV.rel h ρ (.kG ps) _)
  refine⟨.pointer (some ⟨b,o+off,none⟩),?_,b,o+off,rfl,hq▸hr.drop off⟩
  simp only[execOp,he]
  simp[tC ht]
theorem ay {f off k o o':Nat} {ft:TypeId} (ht:eX P t f off ft) (hx:s.ev x=some (.b (.ptr k o))) (ho:o+off=o') :
 aR P E n ⟨dst,.fieldAddr t x f,ty,pos,after,g⟩ s (s.put n dst (.b (.ptr k o'))) :=
 aR.val (o:=⟨dst,.fieldAddr t x f,ty,pos,after,g⟩) fun ac w h ρ hw hs=>by
  obtain⟨b,he,hv⟩:=(aE hs hx:BV.rel h ρ (.ptr k o) _)
  refine⟨.pointer (some ⟨b,o+off,none⟩),?_,b,he,by rw[ho]⟩
  simp only[execOp,hv]
  simp[tC ht]
theorem G0 {f off k o o':Nat} {ft:TypeId} (ht:eX P t f off ft) (hx:s.ev x=some (.b (.gO k o))) (ho:o+off=o') :
 aR P E n ⟨dst,.fieldAddr t x f,ty,pos,after,g⟩ s (s.put n dst (.b (.gO k o'))) :=
 aR.val (o:=⟨dst,.fieldAddr t x f,ty,pos,after,g⟩) fun ac w h ρ hw hs=>by
  obtain⟨b,m,c,he,hv⟩:=(aE hs hx:BV.rel h ρ (.gO k o) _)
  refine⟨.pointer (some ⟨b,o+off,none⟩),?_,b,m,c,he,by rw[ho]⟩
  simp only[execOp,hv]
  simp[tC ht]
theorem tG {e:TypeId} {size bytes:Nat} {zs:List CP} (ht:lD P t e size bytes zs) (w:World) (b o len cap:Nat) (k:IntKind) (i:Int) (h0:0<=i) (h1:i<len) :
 (Instr.indexAt t (.slice (some ⟨b,o,none⟩) len cap) (.int k i)).run P w=.ok (.pointer (some ⟨b,o+i.toNat*size,none⟩)) w:=by
 obtain⟨inf,z,hi,rfl,_⟩:=ht.info
 have hel:P.underlying t=some (.slice e):=ht.und
 simp[Instr.indexAt,run_underlying hel,asIntOf,h0,h1,sizeOf,typeInfo,hi,Addr.add_lit]
theorem rR {e:TypeId} {size bytes:Nat} {zs ps:List CP} {es:List (List CP)} {k:IntKind} {i:Int} (ht:lD P t e size bytes zs) (h0:0<=i) (hi:es[i.toNat]?=some ps)
 (hx:s.ev x=some (.b (.one (.sl size es)))) (hy:s.ev y=some (.b (.one (.int k i)))) :
 aR P E n ⟨dst,.indexAddr t x y,ty,pos,after,g⟩ s (s.put n dst (.b (.kG ps))) :=
 aR.val (o:=⟨dst,.indexAddr t x y,ty,pos,after,g⟩) fun ac w h ρ hw hs=>by
  obtain⟨hu,hz,hv⟩:=(aE hs hx:(CP.sl size es).rel h _)
  have hlt:=(List.getElem?_eq_some_iff.1 hi).1
  rcases hv with ⟨_,rfl⟩|⟨b,o,c,hv,hc1,hc2,hr⟩|⟨_,_,rfl⟩
  simp at hlt
  refine⟨.pointer (some ⟨b,o+i.toNat*size,none⟩),?_,b,_,rfl,hr.elem hu _ _ hi⟩
  simp only[execOp,hv,(bI hs hy).1]
  simp[tG ht w b o es.length c k i h0 (by omega)]
  simp at hlt
theorem pA {e T:TypeId} {j size b0 bytes o:Nat} {zs:List CP} {es:List (List CP)} {k:IntKind} {i:Int} (ht:lD P t e size bytes zs) (h0:0<=i) (h1:i<es.length)
 (hx:s.ev x=some (.b (.row j))) (hk:lk s.own j=some (.row T b0 es)) (hy:s.ev y=some (.b (.one (.int k i)))) (ho:i.toNat*size=o) :
 aR P E n ⟨dst,.indexAddr t x y,ty,pos,after,g⟩ s (s.put n dst (.b (.gO j o))) :=
 aR.val (o:=⟨dst,.indexAddr t x y,ty,pos,after,g⟩) fun ac w h ρ hw hs=>by
  have hv:ac.eval x=ρ j:=(aE hs hx:BV.rel h ρ (.row j) _)
  obtain⟨hu,hz,xs,⟨_,how⟩,hr⟩:=(hw.owned j _ (bj hk)).1
  rcases how with ⟨_,he⟩|⟨b,cap,cur,hρ,_,hb,hc1,hc2,hc3,hc4⟩
  omega
  refine⟨.pointer (some ⟨b,i.toNat*size,none⟩),?_,b,es.length,cap,hρ,by rw[ho]⟩
  simp only[execOp,hv,hρ,(bI hs hy).1]
  simp[tG ht w b 0 es.length cap k i h0 (by omega)]
theorem n7 {e:TypeId} {m size:Nat} {inf:TypeInfo} (hu:P.underlying t=some (.array m e)) (hi:P.info? e=some inf) (hs:inf.size=size) (w:World) (b o:Nat) (k:IntKind) (i:Int) (h0:0<=i) (h1:i<m) :
 (Instr.indexAt t (.pointer (some ⟨b,o,none⟩)) (.int k i)).run P w=.ok (.pointer (some ⟨b,o+i.toNat*size,none⟩)) w:=by
 subst hs
 simp[Instr.indexAt,run_underlying hu,asIntOf,Instr.sureAddr,h0,h1,sizeOf,typeInfo,hi,Addr.add_lit]
structure lI (P:Program) (t e:TypeId) (m size:Nat):Prop where
 und:P.underlying t=some (.array m e)
 info:∃ i,P.info? e=some i/\i.size=size
theorem mV {e:TypeId} {m size j o o':Nat} {k:IntKind} {i:Int} (ht:lI P t e m size) (h0:0<=i) (h1:i<m) (hx:s.ev x=some (.b (.ptr j o))) (hy:s.ev y=some (.b (.one (.int k i)))) (ho:o+i.toNat*size=o') :
 aR P E n ⟨dst,.indexAddr t x y,ty,pos,after,g⟩ s (s.put n dst (.b (.ptr j o'))) :=
 aR.val (o:=⟨dst,.indexAddr t x y,ty,pos,after,g⟩) fun ac w h ρ hw hs=>by
  obtain⟨b,he,hv⟩:=(aE hs hx:BV.rel h ρ (.ptr j o) _)
  obtain⟨inf,hi,hsz⟩:=ht.info
  refine⟨.pointer (some ⟨b,o+i.toNat*size,none⟩),?_,b,he,by rw[ho]⟩
  simp only[execOp,hv,(bI hs hy).1]
  simp[n7 ht.und hi hsz w b o k i h0 h1]
theorem aw {j o:Nat} (hx:s.ev x=some (.b (.ptr j o))):aR P E n ⟨dst,.nilCheck x,ty,pos,after,g⟩ s (s.put n dst (.b (.ptr j o))) :=
 aR.val (o:=⟨dst,.nilCheck x,ty,pos,after,g⟩) fun ac w h ρ hw hs=>by
  obtain⟨b,he,hv⟩:=(aE hs hx:BV.rel h ρ (.ptr j o) _)
  refine⟨.pointer (some ⟨b,o,none⟩),?_,b,he,rfl⟩
  simp only[execOp,hv];rfl
end
end Go.Sk
namespace Go.Sk
open Go Go.BigFrame
theorem ub (l:Str):(⟨⟨l⟩⟩:ByteArray).size=l.length:=rfl
section
variable {P:Program} {TB:aH} {E:Env TB} {n:Sh} {s:St} {dst:Option Nat} {t ty yt:TypeId} {pos:String} {after:Array Edge} {g:Option (Nat×Bool)} {x y c:Operand}
theorem len_le {h:PH} {size:Nat} {es:List (List CP)} {v:Value} (hv:(CP.sl size es).rel h v):es.length<=maxLen:=by
 rcases hv.2.2 with ⟨_,rfl⟩|⟨b,o,c,_,h1,h2,_⟩|⟨_,_,rfl⟩
 simp
 omega
 simp
theorem dk:maxLen=9223372036854775807:=by simp[maxLen]
theorem zS {m:Nat} (h:m<=maxLen):mf .i64 (m:Int):=by rw[dk] at h;exact Io (by omega) (by omega)
theorem LN {size:Nat} {es:List (List CP)} {e:TypeId} (ht:P.underlying t=some (.slice e)) (hx:s.ev x=some (.b (.one (.sl size es)))) :
 aR P E n ⟨dst,.call ⟨.builtin .len,#[x],#[t]⟩,ty,pos,after,g⟩ s (s.put n dst (I (es.length:Int))) :=
 aR.val (o:=⟨dst,.call ⟨.builtin .len,#[x],#[t]⟩,ty,pos,after,g⟩) fun ac w h ρ hw hs=>by
  have hv:=(aE hs hx:(CP.sl size es).rel h _)
  have hl:=len_le hv
  refine⟨.int .i64 es.length,?_,rfl,zS hl⟩
  rw[execOp_builtin,builtin_len]
  rcases hv.2.2 with ⟨b0,rfl⟩|⟨b,o,c,b0,_⟩|⟨a,b0,rfl⟩<;>simp[b0,Builtin.len_,run_underlying ht,goInt]
theorem gJ {z:Str} (ht:P.underlying t=some .string) (hx:s.ev x=some (.b (.one (.str z)))) :
 aR P E n ⟨dst,.call ⟨.builtin .len,#[x],#[t]⟩,ty,pos,after,g⟩ s (s.put n dst (I (z.length:Int))) :=
 aR.val (o:=⟨dst,.call ⟨.builtin .len,#[x],#[t]⟩,ty,pos,after,g⟩) fun ac w h ρ hw hs=>by
  obtain⟨hv,hl⟩:=lL hs hx
  refine⟨.int .i64 z.length,?_,rfl,zS hl⟩
  rw[execOp_builtin,builtin_len]
  simp[hv,Builtin.len_,run_underlying ht,goInt,ub]
theorem nq {TB:aH} {E:Env TB} {n:Sh} {h:PH} {ρ:RM} {own:List (Nat×OC)} {w:World} (hw:WR E n own h ρ w) {k:Nat} {T:TypeId} {size:Nat} {es:List (List CP)} (hk:lk own k=some (.row T size es)) :
 ca size es/\0<size/\((ρ k=.slice none 0 0/\es=[])∨∃ b cap cur,ρ k=.slice (some ⟨b,0,none⟩) es.length cap/\w.heap[b]?=some (.cells cur T (0,0))/\es.length<=cap/\cap<=maxLen/\cur.size=cap*size /\
  aB h es.flatten (cur.toList.take (es.length*size))):=by
 obtain⟨hu,hz,xs,⟨hl,how⟩,hr⟩:=(hw.owned k _ (bj hk)).1
 refine⟨hu,hz,?_⟩
 rcases how with ⟨h1,he⟩|⟨b,cap,cur,h1,_,h3,h4,h5,h6,h7⟩
 exact .inl ⟨h1,by cases es<;>simp_all⟩
 exact .inr ⟨b,cap,cur,h1,h3,h4,h5,h6,by rw[h7];exact hr⟩
theorem LM {k size:Nat} {T e:TypeId} {es:List (List CP)} (ht:P.underlying t=some (.slice e)) (hx:s.ev x=some (.b (.row k))) (hk:lk s.own k=some (.row T size es)) :
 aR P E n ⟨dst,.call ⟨.builtin .len,#[x],#[t]⟩,ty,pos,after,g⟩ s (s.put n dst (I (es.length:Int))) :=
 aR.val (o:=⟨dst,.call ⟨.builtin .len,#[x],#[t]⟩,ty,pos,after,g⟩) fun ac w h ρ hw hs=>by
  have hv:ac.eval x=ρ k:=(aE hs hx:BV.rel h ρ (.row k) _)
  obtain⟨_,_,hf⟩:=nq hw hk
  rw[execOp_builtin,builtin_len]
  rcases hf with ⟨h1,rfl⟩|⟨b,cap,cur,h1,_,h2,h3,_⟩
  exact⟨.int .i64 0,by simp[hv,h1,Builtin.len_,run_underlying ht,goInt],rfl,zS (by simp)⟩
  exact⟨.int .i64 es.length,by simp[hv,h1,Builtin.len_,run_underlying ht,goInt],rfl,zS (by omega)⟩
theorem cM {l:List BV} {i:Nat} {z:BV} (hx:s.ev x=some (.lC l)) (hi:l[i]?=some z):aR P E n ⟨dst,.extract x i,ty,pos,after,g⟩ s (s.put n dst (.b z)) :=
 aR.val (o:=⟨dst,.extract x i,ty,pos,after,g⟩) fun ac w h ρ hw hs=>by
  obtain⟨vs,hv,ha⟩:=(aE hs hx:SV.rel h ρ (.lC l) _)
  obtain⟨u,hu,hr⟩:=ha.get i z hi
  have:vs[i]?=some u:=by simpa using hu
  exact⟨u,by simp only[execOp,hv];simp[Instr.extract,this],hr⟩
theorem GZ {f off:Nat} {ft:TypeId} {ps:List CP} {p:CP} (ht:eX P t f off ft) (h1:c8 P ft) (hx:s.ev x=some (.b (.agg ps))) (hp:ps[off]?=some p) :
 aR P E n ⟨dst,.field t x f,ty,pos,after,g⟩ s (s.put n dst (.b (.one p))) :=
 aR.val (o:=⟨dst,.field t x f,ty,pos,after,g⟩) fun ac w h ρ hw hs=>by
  obtain⟨cs,hv,ha⟩:=(aE hs hx:BV.rel h ρ (.agg ps) _)
  obtain⟨fs,fd,i,e1,e2,rfl,rfl,e5,e6⟩:=ht.und
  obtain⟨d,hd,hag⟩:=h1.und
  obtain⟨u,hu,hr⟩:=ha.get _ p hp
  have hcu:cs[fd.offset]?=some u:=by simpa using hu
  refine⟨u,?_,hr⟩
  simp only[execOp,hv]
  have:(part fd.type cs fd.offset).run P w=.ok u w:=by
   unfold part
   rw[Sem.run_bind,mO hd,Result.andThen,hag]
   simp[hcu]
  simp[Instr.field,run_underlying e1,e2,asAgg,this]
theorem Jl {f off m:Nat} {ft:TypeId} {ps qs:List CP} (ht:eX P t f off ft) (h1:gN P ft m) (hx:s.ev x=some (.b (.agg ps))) (hp:(ps.drop off).take m=qs) :
 aR P E n ⟨dst,.field t x f,ty,pos,after,g⟩ s (s.put n dst (.b (.agg qs))) :=
 aR.val (o:=⟨dst,.field t x f,ty,pos,after,g⟩) fun ac w h ρ hw hs=>by
  obtain⟨cs,hv,ha⟩:=(aE hs hx:BV.rel h ρ (.agg ps) _)
  obtain⟨fs,fd,i,e1,e2,rfl,rfl,e5,e6⟩:=ht.und
  obtain⟨d,hd,hag⟩:=h1.und
  obtain⟨i',hi',hm⟩:=h1.size
  have hr:aB h qs ((cs.toList.drop fd.offset).take m):=by rw[← hp];exact aO.take (aO.drop ha _) m
  have hex:(cs.extract fd.offset (fd.offset+m)).toList=(cs.toList.drop fd.offset).take m:=by
   simp[List.take_drop]
  refine⟨.agg (cs.extract fd.offset (fd.offset+m)),?_,_,rfl,by rw[hex];exact hr⟩
  simp only[execOp,hv]
  have:(part fd.type cs fd.offset).run P w=.ok (.agg (cs.extract fd.offset (fd.offset+m))) w:=by
   unfold part
   rw[Sem.run_bind,mO hd,Result.andThen,hag]
   simp[sizeOf,typeInfo,hi',hm]
  simp[Instr.field,run_underlying e1,e2,asAgg,this]
theorem iv {z:Str} {k:IntKind} {i:Int} {b:UInt8} (ht:P.underlying t=some .string) (hx:s.ev x=some (.b (.one (.str z)))) (hy:s.ev y=some (.b (.one (.int k i)))) (h0:0<=i) (hi:z[i.toNat]?=some b) :
 aR P E n ⟨dst,.index t x y,ty,pos,after,g⟩ s (s.put n dst (.b (.one (.int .u8 b.toNat)))) :=
 aR.val (o:=⟨dst,.index t x y,ty,pos,after,g⟩) fun ac w h ρ hw hs=>by
  obtain⟨hv,hl⟩:=lL hs hx
  have hlt:=(List.getElem?_eq_some_iff.1 hi).1
  have hsz:(⟨⟨z⟩⟩:ByteArray)[i.toNat]?=some b:=by
   have:i.toNat<(⟨⟨z⟩⟩:ByteArray).size:=hlt
   rw[getElem?_pos (⟨⟨z⟩⟩:ByteArray) i.toNat this]
   exact congrArg some (List.getElem?_eq_some_iff.1 hi).2
  refine⟨.int .u8 b.toNat,?_,rfl,?_⟩
  simp only[execOp,hv,(bI hs hy).1]
  simp[Instr.index,asIntOf,run_underlying ht,h0,hsz]
  have:=b.toNat_lt
  simp[mf,IntKind.min,IntKind.max,IntKind.signed,IntKind.bits]
  omega
def aP {α:Type} (ps:List α) (off:Nat) (qs:List α):List α:=ps.take off++qs++ps.drop (off+qs.length)
theorem aO.aP {α β:Type} {r:α->β->Prop} {as:List α} {bs:List β} {qs:List α} {us:List β} (h:aO r as bs) (hq:aO r qs us) (off:Nat):aO r (Sk.aP as off qs) (Sk.aP bs off us):=by
 unfold Sk.aP
 rw[hq.length]
 exact ((h.take off).append hq).append (h.drop _)
theorem jX {m:Nat} {i:TypeInfo} (hi:P.info? t=some i) (hm:i.size=m) {w:World} {b o:Nat} {cur:Array Value} {T:TypeId} (hb:w.heap[b]?=some (.cells cur T (0,0))) {v:Value} (hl:v.cells.size=m)
 (ho:o+m<=cur.size) (h1:∀ u∈v.cells.toList,u.oneCell'=true) :
 (storeVar t ⟨b,o,none⟩ v).run P w=.ok () (w.setRow b (Sk.aP cur.toList o v.cells.toList).toArray):=by
 subst hm
 have:=run_storeCells_at P b o T v.cells.toList 0 cur w hb (by simp;omega) h1
 simp[storeVar,sizeOf,typeInfo,hi,hl,this,Sk.aP]
structure Lf (P:Program) (t:TypeId) (m:Nat):Prop where
 info:∃ i,P.info? t=some i/\i.size=m
theorem gN.sz {m:Nat} (h:gN P t m):Lf P t m:=⟨h.size⟩
theorem c8.sz (h:c8 P t):Lf P t 1:=⟨h.size⟩
theorem WR.KA {h:PH} {ρ:RM} {own:List (Nat×OC)} {w:World} (hw:WR E n own h ρ w) {k b:Nat} {T:TypeId} {ps ps':List CP} {cur:Array Value} {cs:List Value} (hk:lk own k=some (.box T ps)) (hρ:ρ k=.pointer (some ⟨b,0,none⟩))
 (hb:w.heap[b]?=some (.cells cur T (0,0))) (hr:aB h ps' cs):WR E n (ins k (.box T ps') own) h ρ (w.setRow b cs.toArray):=by
 have hst:=hw.step (w':=w.setRow b cs.toArray) k (ρ k) (.box T ps') (some b) (fun b' e=>by cases e;exact⟨_,bj hk,by rw[hρ];rfl⟩) (by simp) rfl rfl
  (fun b' _ hne=>setRow_other _ _ _ _ (fun e=>hne (by rw[e]))) ⟨b,cs.toArray,hρ,setRow_heap _ _ _ _ _ _ hb,by simpa using hr⟩ (fun b' b0=>by rw[hρ] at b0;simp[ba] at b0;exact .inl (by rw[b0])) (.inl rfl) (.inl rfl)
 have:oX ρ k (ρ k)=ρ:=by funext j;simp only[oX];split<;>simp_all
 rwa [this] at hst
theorem aR.store {o:Oper} {own':List (Nat×OC)} (hd:o.dst=none)
 (H:∀ (a:Act) (w:World) (h:PH) (ρ:RM),WR E n s.own h ρ w->bt h ρ s.slots a.tmps->∃ w',(execOp a.eval o).run P w=.ok .skip w'/\WR E n own' h ρ w'):aR P E n o s ⟨s.slots,own'⟩:=by
 intro a w ⟨hdf,hn,h,ρ,hw,hs⟩ next Q b0
 obtain⟨w',hv,hw'⟩:=H a w h ρ hw hs
 unfold Oper.wp
 rw[hv]
 refine b0 _ _ ?_
 rw[hd]
 exact⟨hdf,hn,h,ρ,hw',hs⟩
theorem ee {k off:Nat} {T:TypeId} {ps ps':List CP} {p:CP} (ht:c8 P t) (hx:s.ev x=some (.b (.ptr k off))) (hk:lk s.own k=some (.box T ps)) (hy:s.ev y=some (.b (.one p))) (hlt:off<ps.length) (hps:ps.set off p=ps') :
 aR P E n ⟨none,.store t x y,ty,pos,after,g⟩ s ⟨s.slots,ins k (.box T ps') s.own⟩ :=
 aR.store (o:=⟨none,.store t x y,ty,pos,after,g⟩) rfl fun ac w h ρ hw hs=>by
  obtain⟨b,he,hv⟩:=(aE hs hx:BV.rel h ρ (.ptr k off) _)
  obtain⟨b',cur,hb1,hb2,hb3⟩:=iL hw hk
  have:b'=b:=by rw[hb1] at he;simpa using he
  subst this
  have hp:p.rel h (ac.eval y):=aE hs hy
  have h1:=p.one hp
  obtain⟨i,hi,hm⟩:=ht.size
  have b0:(ac.eval y).cells=#[ac.eval y]:=by cases hq:ac.eval y<;>first|rfl|(rw[hq] at h1;simp[Value.oneCell'] at h1)
  have hlen:=hb3.length
  have b1:=jX (P:=P) (t:=t) hi hm hb2 (v:=ac.eval y) (o:=off) (by rw[b0];rfl) (by simp at hlen;omega) (by rw[b0];simpa using h1)
  refine⟨_,by simp only[execOp,hv,Instr.storeAt,Instr.sureAddr];simp[b1];rfl,?_⟩
  refine hw.KA hk hb1 hb2 ?_
  rw[← hps]
  have b2:Sk.aP cur.toList off (ac.eval y).cells.toList=cur.toList.set off (ac.eval y):=by
   rw[b0]
   have:off<cur.toList.length:=by rw[← hlen];exact hlt
   simp only[Sk.aP,List.length_cons,List.length_nil]
   rw[List.set_eq_take_append_cons_drop,if_pos this];simp
  rw[b2]
  exact aO.set hb3 off hp
theorem aX {k off m:Nat} {T:TypeId} {ps ps' qs:List CP} (ht:gN P t m) (hx:s.ev x=some (.b (.ptr k off))) (hk:lk s.own k=some (.box T ps)) (hy:s.ev y=some (.b (.agg qs))) (hq:qs.length=m) (hlt:off+m<=ps.length) (hps:Sk.aP ps off qs=ps') :
 aR P E n ⟨none,.store t x y,ty,pos,after,g⟩ s ⟨s.slots,ins k (.box T ps') s.own⟩ :=
 aR.store (o:=⟨none,.store t x y,ty,pos,after,g⟩) rfl fun ac w h ρ hw hs=>by
  obtain⟨b,he,hv⟩:=(aE hs hx:BV.rel h ρ (.ptr k off) _)
  obtain⟨b',cur,hb1,hb2,hb3⟩:=iL hw hk
  have:b'=b:=by rw[hb1] at he;simpa using he
  subst this
  obtain⟨cs,hcv,b1⟩:=(aE hs hy:BV.rel h ρ (.agg qs) _)
  obtain⟨i,hi,hm⟩:=ht.size
  have hlen:=hb3.length
  have b0:=b1.length
  have b2:=jX (P:=P) (t:=t) hi hm hb2 (v:=.agg cs) (o:=off) (by simp[Value.cells] at b0 ⊢;omega) (by simp at hlen;omega) (by simpa[Value.cells] using b1.one)
  refine⟨_,by simp only[execOp,hv,hcv,Instr.storeAt,Instr.sureAddr];simp[b2];rfl,?_⟩
  refine hw.KA hk hb1 hb2 ?_
  rw[← hps]
  exact aO.aP hb3 b1 off
end
end Go.Sk
namespace Go.Sk
open Go Go.BigFrame
section
variable {P:Program} {TB:aH} {E:Env TB} {n:Sh} {s:St} {dst:Option Nat} {t ty yt:TypeId} {pos:String} {after:Array Edge} {g:Option (Nat×Bool)} {x y c:Operand}
theorem aR.make {o:Oper} {k:Nat} {c':OC} {res:SV} (H:∀ (a:Act) (w:World) (h:PH) (ρ:RM),WR E n s.own h ρ w->bt h ρ s.slots a.tmps ->
 ∃ v' vk w' row,(execOp a.eval o).run P w=.ok (.value v') w'/\(∀ b,row=some b->∃ c,(k,c)∈s.own/\ba (ρ k)=some b)/\w.heap.size<=w'.heap.size/\w'.os=w.os/\w'.output=w.output /\
  (∀ b,b<w.heap.size->some b≠row->w'.heap[b]?=w.heap[b]?)/\c'.ok h (oX ρ k vk) vk w'/\(∀ b,ba vk=some b->row=some b∨w.heap.size<=b)/\res.rel h (oX ρ k vk) v') (hfx:n.fix.contains k=false) (hnu:dy k s.own=true:=by rfl) (hpl:c'.plain=true:=by rfl) :
 aR P E n o s ((⟨cu k s.slots,ins k c' s.own⟩:St).put n o.dst res):=by
 intro a w ⟨hdf,hn,h,ρ,hw,hs⟩ next Q b0
 obtain⟨v',vk,w',row,hv,h1,h2,h3,h4,h5,h6,h7,h8⟩:=H a w h ρ hw hs
 unfold Oper.wp
 rw[hv]
 exact b0 _ _ (R.put (s:=⟨cu k s.slots,ins k c' s.own⟩) hdf hn (hw.step k vk c' row h1 h2 h3 h4 h5 h6 h7 (.inr fun e=>by simp at hfx;exact hfx e) (.inr hnu) hpl) (hs.cu k vk) h8)
theorem cE {T k:Nat} {zs:List CP} (ht:rG P T zs) (hfx:n.fix.contains k=false) (hnu:dy k s.own=true:=by rfl):aR P E n ⟨dst,.alloc T,ty,pos,after,g⟩ s ((⟨cu k s.slots,ins k (.box T zs) s.own⟩:St).put n dst (.b (.ptr k 0))) :=
 aR.make (hfx:=hfx) (hnu:=hnu) (o:=⟨dst,.alloc T,ty,pos,after,g⟩) fun ac w h ρ hw hs=>by
  obtain⟨i,z,hi,hz,hzs⟩:=ht.info
  refine⟨.pointer (some ⟨w.heap.size,0,none⟩),.pointer (some ⟨w.heap.size,0,none⟩),w.alloc (.cells z.cells T),none,?_,fun b e=>by simp at e,by simp,rfl,rfl,fun b hb _=>heap_alloc_old w _ hb,⟨w.heap.size,z.cells,rfl,heap_alloc_new w _,oR h hzs⟩,
   fun b e=>by simp[ba] at e;subst e;exact .inr (Nat.le_refl _),w.heap.size,cL _ _ _,rfl⟩
  simp[execOp,Instr.alloc,zeroValue,typeInfo,hi,hz,newVar,newRow]
theorem xQ {T k:Nat} {ps:List CP} (hx:s.ev x=some (.b (.agg ps))) (hfx:n.fix.contains k=false) (hnu:dy k s.own=true:=by rfl):aR P E n ⟨dst,.box T x,ty,pos,after,g⟩ s ((⟨cu k s.slots,ins k (.box T ps) s.own⟩:St).put n dst (.b (.ptr k 0))) :=
 aR.make (hfx:=hfx) (hnu:=hnu) (o:=⟨dst,.box T x,ty,pos,after,g⟩) fun ac w h ρ hw hs=>by
  obtain⟨cs,hv,hr⟩:=(aE hs hx:BV.rel h ρ (.agg ps) _)
  refine⟨.pointer (some ⟨w.heap.size,0,none⟩),.pointer (some ⟨w.heap.size,0,none⟩),w.alloc (.cells cs T),none,?_,fun b e=>by simp at e,by simp,rfl,rfl,fun b hb _=>heap_alloc_old w _ hb,⟨w.heap.size,cs,rfl,heap_alloc_new w _,hr⟩,
   fun b e=>by simp[ba] at e;subst e;exact .inr (Nat.le_refl _),w.heap.size,cL _ _ _,rfl⟩
  simp only[execOp,hv]
  simp[Instr.box,newVar,newRow,Value.cells]
theorem op_box1 {T k:Nat} {p:CP} (hx:s.ev x=some (.b (.one p))) (hfx:n.fix.contains k=false) (hnu:dy k s.own=true:=by rfl):aR P E n ⟨dst,.box T x,ty,pos,after,g⟩ s ((⟨cu k s.slots,ins k (.box T [p]) s.own⟩:St).put n dst (.b (.ptr k 0))) :=
 aR.make (hfx:=hfx) (hnu:=hnu) (o:=⟨dst,.box T x,ty,pos,after,g⟩) fun ac w h ρ hw hs=>by
  have hr:p.rel h (ac.eval x):=aE hs hx
  have h1:=p.one hr
  have b0:(ac.eval x).cells=#[ac.eval x]:=by cases hq:ac.eval x<;>first|rfl|(rw[hq] at h1;simp[Value.oneCell'] at h1)
  refine⟨.pointer (some ⟨w.heap.size,0,none⟩),.pointer (some ⟨w.heap.size,0,none⟩),w.alloc (.cells #[ac.eval x] T),none,?_,fun b e=>by simp at e,by simp,rfl,rfl,fun b hb _=>heap_alloc_old w _ hb,⟨w.heap.size,#[ac.eval x],rfl,heap_alloc_new w _,.cons hr .nil⟩,
   fun b e=>by simp[ba] at e;subst e;exact .inr (Nat.le_refl _),w.heap.size,cL _ _ _,rfl⟩
  simp only[execOp]
  simp[Instr.box,newVar,newRow,b0]
def SV.cells:SV->Option (List CP)
 | .b (.one p)=>some [p]
 | .b (.agg ps)=>some ps
 | _=>none
theorem SV.JD {h:PH} {ρ:RM} {z:SV} {ps:List CP} {v:Value} (hz:z.cells=some ps) (hv:z.rel h ρ v):aB h ps v.cells.toList:=by
 cases z with
 | b z=>cases z with
  | one p=>
   simp[SV.cells] at hz;subst hz
   have h1:=p.one (hv:p.rel h v)
   have b0:v.cells=#[v]:=by cases v<;>first|rfl|simp[Value.oneCell'] at h1
   rw[b0];exact .cons hv .nil
  | agg qs=>simp[SV.cells] at hz;subst hz;obtain⟨cs,rfl,hr⟩:=hv;exact hr
  | _=>simp[SV.cells] at hz
 | _=>simp[SV.cells] at hz
def eV (s:St):List (Nat×Operand)->Option (List (Nat×List CP))
 | []=>some []
 | (i,x)::l=>(s.ev x).bind fun z=>z.cells.bind fun ps=>(eV s l).map fun r=>(i,ps)::r
def iV (place:Nat->Option (Nat×Nat)) (zs:List CP):List (Nat×List CP)->Option (List CP)
 | []=>some zs
 | (i,qs)::r=>(place i).bind fun q=>if qs.length=q.2/\q.1+qs.length<=zs.length then iV place (aP zs q.1 qs) r else none
theorem AX (off:Nat):∀ (l:List Value) (k:Nat) (cs:Array Value),off+k+l.length<=cs.size ->
 ((l.zipIdx k).foldl (fun (cs:Array Value) (p:Value×Nat)=>cs.setIfInBounds (off+p.2) p.1) cs).toList=aP cs.toList (off+k) l
 | [],k,cs,_=>by simp[aP]
 | v::l,k,cs,h=>by
  simp only[List.length_cons] at h
  rw[List.zipIdx_cons,List.foldl_cons,AX off l (k+1) _ (by simp;omega)]
  apply List.ext_getElem?
  intro i
  have hc:cs.toList.length=cs.size:=by simp
  simp only[aP,Array.toList_setIfInBounds]
  by_cases h1:i<off+k
  rw[List.append_assoc,List.append_assoc,List.getElem?_append_left (by simp;omega),List.getElem?_append_left (by simp;omega)]
  rw[List.getElem?_take,List.getElem?_take,List.getElem?_set]
  simp[h1,show i<off+(k+1) by omega,show ¬ off+k=i by omega]
  by_cases h2:i<off+k+(l.length+1)
  have e1:(List.take (off+k) cs.toList++v::l++List.drop (off+k+(v::l).length) cs.toList)[i]?=(v::l)[i-(off+k)]?:=by
   rw[List.append_assoc,List.getElem?_append_right (by simp;omega),List.getElem?_append_left (by simp;omega)]
   congr 1
   simp;omega
  rw[e1]
  by_cases h3:i=off+k
  subst h3
  rw[List.append_assoc,List.getElem?_append_left (by simp;omega),List.getElem?_take,List.getElem?_set]
  simp[show off+k<off+(k+1) by omega,show off+k<cs.size by omega]
  rw[List.append_assoc,List.getElem?_append_right (by simp;omega),List.getElem?_append_left (by simp;omega)]
  have e2:i-(off+k)=(i-(off+k)-1)+1:=by omega
  rw[e2,List.getElem?_cons_succ]
  congr 1
  simp;omega
  rw[List.append_assoc,List.getElem?_append_right (by simp;omega),List.getElem?_append_right (by simp;omega)]
  rw[List.append_assoc,List.getElem?_append_right (by simp;omega),List.getElem?_append_right (by simp;omega)]
  simp only[List.getElem?_drop,List.getElem?_set,List.length_take,List.length_set,List.length_cons,hc]
  rw[if_neg (by omega)]
  congr 1
  omega
theorem py {h:PH} {ρ:RM} {ac:Act} (hs:bt h ρ s.slots ac.tmps) (place:Nat->Option (Nat×Nat)):∀ (parts:List (Nat×Operand)) (cps:List (Nat×List CP)) (zs qs:List CP) (zc:Array Value),
 eV s parts=some cps->iV place zs cps=some qs->aB h zs zc.toList->∃ cs,Instr.fill place zc (parts.map fun p=>(p.1,ac.eval p.2))=some cs/\aB h qs cs.toList
 | [],cps,zs,qs,zc,he,hf,hz=>by
  simp[eV] at he;subst he
  simp[iV] at hf;subst hf
  exact⟨zc,rfl,hz⟩
 | (i,x)::l,cps,zs,qs,zc,he,hf,hz=>by
  unfold eV at he
  simp only[Option.bind_eq_some_iff,Option.map_eq_some_iff] at he
  obtain⟨z,hz1,ps,hps,r,hr,rfl⟩:=he
  unfold iV at hf
  simp only[Option.bind_eq_some_iff] at hf
  obtain⟨⟨off,size⟩,hpl,hf⟩:=hf
  split at hf
  rename_i hc
  obtain⟨hc1,hc2⟩:=hc
  have b0:=SV.JD hps (aE hs hz1)
  have hl:=b0.length
  have hzl:=hz.length
  simp only[Array.length_toList] at hl hzl
  dsimp only at hc1 hc2 hf
  have hsp:((ac.eval x).cells.zipIdx.foldl (fun cs (p:Value×Nat)=>cs.setIfInBounds (off+p.2) p.1) zc).toList=aP zc.toList off (ac.eval x).cells.toList:=by
   have:=AX off (ac.eval x).cells.toList 0 zc (by simp;omega)
   rw[Nat.add_zero] at this
   rw[← this,← Array.foldl_toList]
   congr 2
   simp
  obtain⟨cs,h1,h2⟩:=py hs place l r (aP zs off ps) qs _ hr hf (by rw[hsp];exact aO.aP hz b0 off)
  refine⟨cs,?_,h2⟩
  simp only[List.map_cons,Instr.fill,hpl]
  rw[if_neg (by simp;omega)]
  exact h1
  simp at hf
structure z6 (P:Program) (t:TypeId) (pl:List (Nat×Nat)) (zs:List CP):Prop where
 info:∃ it z fs,P.info? t=some it/\it.zero=some z/\Hn z.cells.toList=some zs/\P.underlying t=some (.struct fs)/\fs.toList.mapM (fun f=>(P.info? f.type).map fun i=>(f.offset,i.size))=some pl
theorem iI {pl:List (Nat×Nat)} {zs qs:List CP} {parts:Array (Nat×Operand)} {cps:List (Nat×List CP)} (ht:z6 P t pl zs) (hp:eV s parts.toList=some cps) (hf:iV (pl.toArray[·]?) zs cps=some qs) :
 aR P E n ⟨dst,.build t parts,ty,pos,after,g⟩ s (s.put n dst (.b (.agg qs))) :=
 aR.val (o:=⟨dst,.build t parts,ty,pos,after,g⟩) fun ac w h ρ hw hs=>by
  obtain⟨it,z,fs,h1,h2,h3,h4,h5⟩:=ht.info
  obtain⟨cs,hc1,hc2⟩:=py hs (pl.toArray[·]?) parts.toList cps zs qs z.cells hp hf (oR h h3)
  refine⟨.agg cs,?_,cs,rfl,hc2⟩
  have hb:P.built t (parts.map fun (i,x)=>(i,ac.eval x)).toList=some cs:=by
   simp only[Program.built,h1,h4,h2,h5]
   rw[← hc1]
   simp
  have:=run_build (P:=P) w t _ cs hb
  simp only[execOp]
  simp[this]
theorem Cq {h:PH} {zs:List CP} {zc:List Value} (hz:aB h zs zc) (hp:0<zs.length) (m:Nat) :
 aB h ((List.range m).map fun i=>zs.getD (i%zs.length) .any) ((List.range m).map fun i=>zc[i%zc.length]!):=by
 refine aO.Aj (by simp) fun i a b ha hb=>?_
 simp only[List.getElem?_map,Option.map_eq_some_iff] at ha hb
 obtain⟨j,hj,rfl⟩:=ha
 obtain⟨j',hj',rfl⟩:=hb
 rw[hj] at hj';cases hj'
 have hlt:j%zs.length<zs.length:=Nat.mod_lt _ hp
 obtain⟨u,hu,hr⟩:=hz.get (j%zs.length) zs[j%zs.length] (List.getElem?_eq_getElem hlt)
 rw[hz.length] at hu
 have e1:zs.getD (j%zs.length) .any=zs[j%zs.length]:=by simp[List.getD,List.getElem?_eq_getElem hlt]
 have e2:zc[j%zc.length]! = u:=by rw[List.getElem!_eq_getElem?_getD];simp[hu]
 rw[e1,e2];exact hr
theorem dq {e k len size bytes:Nat} {zs:List CP} {es:List (List CP)} {parts:Array (Nat×Operand)} {cps:List (Nat×List CP)} (ht:lD P t e size bytes zs) (hp:eV s parts.toList=some cps)
 (hf:iV (fun i=>some (i*size,size)) ((List.range (len*size)).map fun i=>zs.getD (i%size) .any) cps=some es.flatten) (hu:ca size es) (hl:es.length=len) (h0:0<len*size) (h24:len*size<=16777216) (hfx:n.fix.contains k=false) (hnu:dy k s.own=true:=by rfl) :
 aR P E n ⟨dst,.buildSlice t len parts,ty,pos,after,g⟩ s ((⟨cu k s.slots,ins k (.row e size es) s.own⟩:St).put n dst (.b (.row k))) :=
 aR.make (hfx:=hfx) (hnu:=hnu) (o:=⟨dst,.buildSlice t len parts,ty,pos,after,g⟩) fun ac w h ρ hw hs=>by
  obtain⟨i,z,h1,h2,h3,h4,h5,h6,h7⟩:=ht.info
  have hzr:=oR h h7
  have hzl:zs.length=size:=by rw[hzr.length];simpa using h5
  have b0:=Cq hzr (by omega) (len*size)
  rw[hzl] at b0
  have hzc:((Array.range (len*size)).map (z.cells[·%z.cells.size]!)).toList=(List.range (len*size)).map fun i=>z.cells.toList[i%z.cells.toList.length]!:=by
   rw[Array.toList_map,Array.toList_range]
   refine List.map_congr_left fun j _=>?_
   rw[List.getElem!_eq_getElem?_getD,Array.getElem!_eq_getD]
   simp[Array.getD_eq_getD_getElem?]
  obtain⟨cs,hc1,hc2⟩:=py hs (fun i=>some (i*size,size)) parts.toList cps _ es.flatten ((Array.range (len*size)).map (z.cells[·%z.cells.size]!)) hp hf (by rw[hzc];exact b0)
  have b1:cs.size=len*size:=by have:=hc2.length;rw[gp hu,hl] at this;simpa using this.symm
  refine⟨.slice (some ⟨w.heap.size,0,none⟩) len len,.slice (some ⟨w.heap.size,0,none⟩) len len,w.alloc (.cells cs e),none,?_,fun b e=>by simp at e,by simp,rfl,rfl,fun b hb _=>heap_alloc_old w _ hb,?_,
   fun b e=>by simp[ba] at e;subst e;exact .inr (Nat.le_refl _),(cL _ _ _).symm⟩
  have hne:¬ len*size=0:=by omega
  have hmap:(parts.map fun x=>(x.1,ac.eval x.2)).toList=parts.toList.map fun p=>(p.1,ac.eval p.2):=by simp
  simp only[execOp]
  have b2:(Instr.buildSlice t len (parts.map fun (i,x)=>(i,ac.eval x))).run P w=.ok (.slice (some ⟨w.heap.size,0,none⟩) len len) (w.alloc (.cells cs e)):=by
   unfold Instr.buildSlice
   rw[Sem.run_bind,run_underlying ht.und,Result.andThen]
   simp only[Sem.run_bind,run_sizeOf h1,h2,Result.andThen_ok]
   rw[if_neg (by omega),if_neg hne]
   simp[zeroValue,typeInfo,h1,h4,hc1,newRow]
  simp[b2]
  refine⟨hu,h6,cs.toList,⟨by simp[b1,hl],.inr ⟨w.heap.size,len,cs,by rw[hl],Nat.zero_le _,heap_alloc_new w _,by omega,?_,b1,?_⟩⟩,hc2⟩
  have:len<=len*size:=Nat.le_mul_of_pos_right _ h6
  rw[dk];omega
  rw[List.take_of_length_le]
  simp[b1,hl]
end
end Go.Sk
namespace Go.Sk
open Go Go.BigFrame
section
variable {P:Program} {TB:aH} {E:Env TB} {n:Sh} {s s':St} {dst:Option Nat} {t ty yt:TypeId} {pos:String} {after:Array Edge} {g:Option (Nat×Bool)} {x y c:Operand} {ops:Array Oper} {l:List Oper} {Q:bH} {cd:Code}
theorem WR.drop {h:PH} {ρ:RM} {own:List (Nat×OC)} {w:World} (hw:WR E n own h ρ w) (k:Nat):WR E n (del k own) h ρ w:=hw.sub fun _ hp=>(cj hp).1
theorem yX {v:Value} (h:(∀ a,v≠.pointer (some a))/\∀ b,v≠.map (some b)):v.ownBlock=ba v:=by
 cases v with
 | map b=>cases b with
  | none=>rfl
  | some b=>exact absurd rfl (h.2 b)
 | slice a n c=>cases a<;>rfl
 | pointer a=>cases a with
  | none=>rfl
  | some a=>exact absurd rfl (h.1 a)
 | _=>rfl
theorem Bi {h:PH} {ρ:RM} {v:Value} {w:World} {T:TypeId} {size:Nat} {es:List (List CP)} (hc:(OC.row T size es).ok h ρ v w):(∀ a,v≠.pointer (some a))/\∀ b,v≠.map (some b):=by
 obtain⟨_,_,xs,⟨_,how⟩,_⟩:=hc
 rcases how with ⟨rfl,_⟩|⟨_,_,_,rfl,_⟩<;>simp
structure Src (w:World) (v:Value) (h:PH) (size:Nat) (news:List (List CP)):Prop where
 uni:ca size news
 pos:0<size
 form:(v=.slice none 0 0/\news=[])∨∃ a c cs,v=.slice (some a) news.length c/\news.length<=maxLen/\aB h news.flatten cs/\(∀ j u,cs[j]?=some u->w.cell? (a.add j)=some u)
theorem Src.of_sl {h:PH} {ρ:RM} {own:List (Nat×OC)} {w:World} (hw:WR E n own h ρ w) {v:Value} {size:Nat} {es:List (List CP)} (hv:(CP.sl size es).rel h v):Src w v h size es:=by
 obtain⟨hu,hz,hv⟩:=hv
 refine⟨hu,hz,?_⟩
 rcases hv with hv|⟨b,o,c,hv,h1,h2,h3⟩|⟨a,hv,rfl⟩
 exact .inl hv
 obtain⟨cs,hc1,hc2⟩:=h3.list
 exact .inr ⟨⟨b,o,none⟩,c,cs,hv,by omega,hc1,fun j u hu=>by rw[Addr.add_lit];exact hw.agree.cell (hc2 j u hu) (hc1.one u (List.mem_of_getElem? hu))⟩
 exact .inr ⟨a,0,[],hv,by simp,.nil,fun j u hu=>by simp at hu⟩
theorem Src.of_row {h:PH} {ρ:RM} {own:List (Nat×OC)} {w:World} (hw:WR E n own h ρ w) {k:Nat} {T:TypeId} {size:Nat} {es:List (List CP)} (hk:lk own k=some (.row T size es)):Src w (ρ k) h size es:=by
 obtain⟨hu,hz,hf⟩:=nq hw hk
 refine⟨hu,hz,?_⟩
 rcases hf with hf|⟨b,cap,cur,h1,h2,h3,h4,h5,h6⟩
 exact .inl hf
 refine .inr ⟨⟨b,0,none⟩,cap,_,h1,by omega,h6,fun j u hu=>?_⟩
 rw[Addr.add_lit,Nat.zero_add,gY h2]
 rw[List.getElem?_take] at hu
 split at hu
 simpa using hu
 simp at hu
theorem xy {h:PH} {ρ:RM} {w:World} {v0:Value} {size bytes:Nat} {T e:TypeId} {zs:List CP} {es news:List (List CP)} {v:Value} (ht:lD P t e size bytes zs)
 (c5:(OC.row T size es).ok h ρ v0 w) (hT:T=e) (b3:Src w v h size news) (hb:(es.length+news.length)*bytes<=140737488355328) (hm:es.length+news.length<=maxLen) :
 ∃ v' w',(Builtin.append_ #[t,t] ty #[v0,v]).run P w=.ok v' w'/\w.heap.size<=w'.heap.size/\w'.os=w.os/\w'.output=w.output/\(∀ b,b<w.heap.size->some b≠ba (v0)->w'.heap[b]?=w.heap[b]?) /\
  (OC.row e size (es++news)).ok h ρ v' w'/\(∀ b,ba v'=some b->ba (v0)=some b∨w.heap.size<=b):=by
 subst hT
 obtain⟨i,z,h1,h2,h3,h4,h5,h6,h7⟩:=ht.info
 have hnp:=Bi c5
 obtain⟨hu,hz,xs,c3,hr⟩:=id c5
 rcases b3.form with ⟨rfl,rfl⟩|⟨ad,c,cs,rfl,hl,c4,hc2⟩
 refine⟨v0,w,run_append_owned_none w 0 t ty T i size ht.und h1 (v0) es.length xs c3,Nat.le_refl _,rfl,rfl,fun _ _ _=>rfl,by simpa using c5,fun b hb=>.inl hb⟩
 have hlen:cs.length=news.length*size:=by rw[← c4.length,gp b3.uni]
 have hzs:z.cells.size=size:=h5
 have b1:∀ j u,cs[j]?=some u->w.cell? (ad.add j)=some u:=hc2
 obtain⟨v',w',b0,c6,hg,c7⟩:=run_append_own (P:=P) w 0 t ty T i z size bytes ht.und h1 h4 h2 h3 hzs h6 (v0) es.length xs c3 ad news.length c cs hlen b1 c4.one hm hb (Nat.zero_le _)
 refine⟨v',w',b0,hg.size,hg.os,hg.output,fun b hb hne=>hg.block b hb (by rw[yX hnp];exact hne),⟨?_,h6,xs++cs,by simpa using c6,?_⟩,?_⟩
 intro ps hps
 rcases List.mem_append.1 hps with h|h
 exact hu ps h
 exact b3.uni ps h
 rw[List.flatten_append];exact aO.append hr c4
 rw[dk] at hm
 rcases c3.2 with ⟨hv,hn0⟩|⟨g,cap,cur,hv,_,hh,hn1,hn2,hn3,hn4⟩
 by_cases hm0:news.length=0
 have:=c7.2 ⟨hv,hm0⟩
 rw[this];intro b hb;simp[ba] at hb
 have c2:=run_append_nil (P:=P) w t ty T i z ht.und h1 h4 ad news.length c cs (by rw[h2];exact hlen) b1 (by omega) (by omega) (by rw[h3];rw[hn0,Nat.zero_add] at hb;omega)
 rw[hv,c2] at b0
 cases b0
 intro b hb;simp[ba] at hb;subst hb;exact .inr (Nat.le_refl _)
 by_cases b2:es.length+news.length<=cap
 have e0:es.length*i.size+cs.length<=cur.size:=by rw[hlen,hn3,h2,← Nat.add_mul];exact Nat.mul_le_mul_right _ b2
 have c2:=run_append_room (P:=P) w t ty T i ht.und h1 g es.length cap cur hh ad news.length c cs (by rw[h2];exact hlen) b1 c4.one b2 e0
 rw[hv,c2] at b0
 cases b0
 intro b hb;simp[ba] at hb;subst hb;rw[hv];exact .inl rfl
 have hold:∀ j u,xs[j]?=some u->w.cell? ((⟨g,0,none⟩:Addr).add j)=some u:=fun j u hu=>by
  rw[Addr.add_lit,Nat.zero_add,gY hh]
  rw[← hn4,List.getElem?_take] at hu
  split at hu
  simpa using hu
  simp at hu
 have c2:=run_append_grow (P:=P) w t ty T i z ht.und h1 h4 ⟨g,0,none⟩ es.length cap xs (by rw[h2];exact c3.1) hold ad news.length c cs (by rw[h2];exact hlen) b1 (by omega) (by omega)
  (growslice_fits (by omega) (by rw[h3];exact hb))
 rw[hv,c2] at b0
 cases b0
 intro b hb;simp[ba] at hb;subst hb;exact .inr (Nat.le_refl _)
theorem zj {h:PH} {ρ:RM} {w:World} (hw:WR E n s.own h ρ w) {k size bytes:Nat} {T e:TypeId} {zs:List CP} {es news:List (List CP)} {v:Value} (ht:lD P t e size bytes zs)
 (hk:lk s.own k=some (.row T size es)) (hT:T=e) (b0:Src w v h size news) (hb:(es.length+news.length)*bytes<=140737488355328) (hm:es.length+news.length<=maxLen) :
 ∃ v' w',(Builtin.append_ #[t,t] ty #[ρ k,v]).run P w=.ok v' w'/\w.heap.size<=w'.heap.size/\w'.os=w.os/\w'.output=w.output/\(∀ b,b<w.heap.size->some b≠ba (ρ k)->w'.heap[b]?=w.heap[b]?) /\
  (OC.row e size (es++news)).ok h ρ v' w'/\(∀ b,ba v'=some b->ba (ρ k)=some b∨w.heap.size<=b) :=
 xy ht (hw.owned k _ (bj hk)).1 hT b0 hb hm
theorem mP {k size bytes:Nat} {e:TypeId} {zs:List CP} {es news es':List (List CP)} (ht:lD P t e size bytes zs) (hb:(es.length+news.length)*bytes<=140737488355328) (hm:es.length+news.length<=9223372036854775807)
 (hx:s.ev x=some (.b (.row k))) (hk:lk s.own k=some (.row e size es)) (hy:s.ev y=some (.b (.one (.sl size news)))) (he:es++news=es') (hfx:n.fix.contains k=false) (hnu:dy k s.own=true:=by rfl) :
 aR P E n ⟨dst,.call ⟨.builtin .append,#[x,y],#[t,t]⟩,ty,pos,after,g⟩ s ((⟨cu k s.slots,ins k (.row e size es') s.own⟩:St).put n dst (.b (.row k))) :=
 aR.make (hfx:=hfx) (hnu:=hnu) (o:=⟨dst,.call ⟨.builtin .append,#[x,y],#[t,t]⟩,ty,pos,after,g⟩) fun ac w h ρ hw hs=>by
  have hv:ac.eval x=ρ k:=(aE hs hx:BV.rel h ρ (.row k) _)
  have hu:=(aE hs hy:(CP.sl size news).rel h _)
  obtain⟨v',w',b0,h1,h2,h3,h4,h5,h6⟩:=zj (ty:=ty) hw ht hk rfl (Src.of_sl hw hu) hb (by rw[dk];exact hm)
  subst he
  refine⟨v',v',w',ba (ρ k),?_,fun b hb=>⟨_,bj hk,hb⟩,h1,h2,h3,h4,h5,h6,(cL _ _ _).symm⟩
  rw[execOp_builtin,builtin_append]
  simp[hv,b0]
theorem ia {k j size bytes:Nat} {e:TypeId} {zs:List CP} {es news es':List (List CP)} (ht:lD P t e size bytes zs) (hb:(es.length+news.length)*bytes<=140737488355328) (hm:es.length+news.length<=9223372036854775807)
 (hx:s.ev x=some (.b (.row k))) (hk:lk s.own k=some (.row e size es)) (hy:s.ev y=some (.b (.row j))) (hj:lk s.own j=some (.row e size news)) (he:es++news=es') (hfx:n.fix.contains k=false) (hnu:dy k s.own=true:=by rfl) :
 aR P E n ⟨dst,.call ⟨.builtin .append,#[x,y],#[t,t]⟩,ty,pos,after,g⟩ s ((⟨cu k s.slots,ins k (.row e size es') s.own⟩:St).put n dst (.b (.row k))) :=
 aR.make (hfx:=hfx) (hnu:=hnu) (o:=⟨dst,.call ⟨.builtin .append,#[x,y],#[t,t]⟩,ty,pos,after,g⟩) fun ac w h ρ hw hs=>by
  have hv:ac.eval x=ρ k:=(aE hs hx:BV.rel h ρ (.row k) _)
  have hu:ac.eval y=ρ j:=(aE hs hy:BV.rel h ρ (.row j) _)
  obtain⟨v',w',b0,h1,h2,h3,h4,h5,h6⟩:=zj (ty:=ty) hw ht hk rfl (Src.of_row hw hj) hb (by rw[dk];exact hm)
  subst he
  refine⟨v',v',w',ba (ρ k),?_,fun b hb=>⟨_,bj hk,hb⟩,h1,h2,h3,h4,h5,h6,(cL _ _ _).symm⟩
  rw[execOp_builtin,builtin_append]
  simp[hv,hu,b0]
theorem ah.drop (k:Nat) (h:ah P E n cd ⟨cu k s.slots,del k s.own⟩ Q):ah P E n cd s Q:=fun a w hr=>h a w (by
 obtain⟨h1,h2,h,ρ,hw,hs⟩:=hr
 exact⟨h1,h2,h,ρ,hw.drop k,fun j x hx=>hs j x (gh hx).1⟩)
theorem aj.drop (k:Nat) (h:aj P E n ops l ⟨cu k s.slots,del k s.own⟩ Q):aj P E n ops l s Q:=fun a w hr=>h a w (by
 obtain⟨h1,h2,h,ρ,hw,hs⟩:=hr
 exact⟨h1,h2,h,ρ,hw.drop k,fun j x hx=>hs j x (gh hx).1⟩)
theorem R.ko {i k size:Nat} {T:TypeId} {a:Act} {w:World} (hr:R E n s a w) (hi:s.get i=some (.b (.one .nil))) (hz:0<size) (hfx:n.fix.contains k=false) (hnu:dy k s.own=true:=by rfl):R E n ⟨(i,.b (.row k))::del i (cu k s.slots),ins k (.row T size []) s.own⟩ a w:=by
 obtain⟨h1,h2,h,ρ,hw,hs⟩:=hr
 have hst:=hw.step (w':=w) k (.slice none 0 0) (.row T size []) none (fun b e=>by simp at e) (Nat.le_refl _) rfl rfl (fun _ _ _=>rfl)
  ⟨fun ps hps=>by simp at hps,hz,[],⟨by simp,.inl ⟨rfl,rfl⟩⟩,.nil⟩ (fun b hb=>by simp[ba] at hb) (.inr fun e=>by simp at hfx;exact hfx e) (.inr hnu)
 refine⟨h1,h2,h,_,hst,?_⟩
 have hd:=hs.cu k (.slice none 0 0)
 intro j x hx
 cases List.mem_cons.1 hx with
 | inl e=>
  obtain⟨rfl,rfl⟩:=Prod.mk.inj e
  obtain⟨v,hv,b0⟩:=hs _ _ (bj (show lk s.slots j=some _ from hi))
  exact⟨v,hv,by rw[show v=.slice none 0 0 from b0.1];exact (cL _ _ _).symm⟩
 | inr e=>exact hd j x (cj e).1
theorem ah.ko (i k size:Nat) (T:TypeId) (hi:s.get i=some (.b (.one .nil))) (hz:0<size) (hfx:n.fix.contains k=false) (h:ah P E n cd ⟨(i,.b (.row k))::del i (cu k s.slots),ins k (.row T size []) s.own⟩ Q) (hnu:dy k s.own=true:=by rfl):ah P E n cd s Q :=
 fun a w hr=>h a w (hr.ko hi hz hfx hnu)
theorem aj.ko (i k size:Nat) (T:TypeId) (hi:s.get i=some (.b (.one .nil))) (hz:0<size) (hfx:n.fix.contains k=false) (h:aj P E n ops l ⟨(i,.b (.row k))::del i (cu k s.slots),ins k (.row T size []) s.own⟩ Q) (hnu:dy k s.own=true:=by rfl):aj P E n ops l s Q :=
 fun a w hr=>h a w (hr.ko hi hz hfx hnu)
theorem R.cH {i size:Nat} {a:Act} {w:World} (hr:R E n s a w) (hi:s.get i=some (.b (.one .nil))) (hz:0<size):R E n ⟨(i,.b (.one (.sl size [])))::del i s.slots,s.own⟩ a w:=by
 obtain⟨h1,h2,h,ρ,hw,hs⟩:=hr
 refine⟨h1,h2,h,ρ,hw,?_⟩
 intro j x hx
 cases List.mem_cons.1 hx with
 | inl e=>
  obtain⟨rfl,rfl⟩:=Prod.mk.inj e
  obtain⟨v,hv,b0⟩:=hs _ _ (bj (show lk s.slots j=some _ from hi))
  exact⟨v,hv,fun ps hps=>by simp at hps,hz,.inl ⟨b0.1,rfl⟩⟩
 | inr e=>exact hs j x (cj e).1
theorem ah.cH (i size:Nat) (hi:s.get i=some (.b (.one .nil))) (hz:0<size) (h:ah P E n cd ⟨(i,.b (.one (.sl size [])))::del i s.slots,s.own⟩ Q):ah P E n cd s Q :=
 fun a w hr=>h a w (hr.cH hi hz)
theorem aj.cH (i size:Nat) (hi:s.get i=some (.b (.one .nil))) (hz:0<size) (h:aj P E n ops l ⟨(i,.b (.one (.sl size [])))::del i s.slots,s.own⟩ Q):aj P E n ops l s Q :=
 fun a w hr=>h a w (hr.cH hi hz)
def CV.du (k:Nat) (p:CP):CV->CV
 | .row j=>if k==j then .one p else .row j
 | z=>z
def BV.du (k:Nat) (p:CP):BV->BV
 | .row j=>if k==j then .one p else .row j
 | .cJ f fs cs=>.cJ f (fs.map (·.du k p)) (cs.map (·.du k p))
 | .xa cs=>.xa (cs.map (·.du k p))
 | z=>z
def SV.du (k:Nat) (p:CP):SV->SV
 | .b z=>.b (z.du k p)
 | .lC l=>.lC (l.map (·.du k p))
 | .kF l=>.kF (l.map (·.du k p))
 | .opt c z=>.opt c (z.du k p)
def qW (k:Nat) (p:CP):List (Nat×SV)->List (Nat×SV)
 | []=>[]
 | (j,x)::l=>(j,x.du k p)::qW k p l
theorem yj {k:Nat} {p:CP}:∀ {l:List (Nat×SV)} {j:Nat} {x:SV},(j,x)∈qW k p l->∃ y,(j,y)∈l/\x=y.du k p
 | (i,y)::l,j,x,h=>by
  unfold qW at h
  cases List.mem_cons.1 h with
  | inl e=>obtain⟨rfl,rfl⟩:=Prod.mk.inj e;exact⟨y,List.mem_cons_self,rfl⟩
  | inr e=>obtain⟨z,hz,hx⟩:=yj e;exact⟨z,List.mem_cons_of_mem _ hz,hx⟩
theorem CV.iH {h:PH} {ρ:RM} {k:Nat} {p:CP} (hp:p.rel h (ρ k)) {z:CV} {v:Value} (hz:z.rel h ρ v):(z.du k p).rel h ρ v:=by
 cases z with
 | row j=>
  cases b0:k==j with
  | true=>
   have e':k=j:=by simpa using b0
   subst e'
   have hv:v=ρ k:=hz
   simp only[CV.du,b0,if_true]
   rw[hv];exact hp
  | false=>
   simp only[CV.du,b0]
   exact hz
 | _=>exact hz
theorem CV.Hv {h:PH} {ρ:RM} {k:Nat} {p:CP} (hp:p.rel h (ρ k)):∀ {l:List CV} {vs:List Value},aO (fun (x:CV) v=>x.rel h ρ v) l vs->aO (fun (x:CV) v=>x.rel h ρ v) (l.map (·.du k p)) vs
 | _,_,.nil=>.nil
 | _,_,.cons h1 t=>.cons (CV.iH hp h1) (CV.Hv hp t)
theorem CV.persX {h:PH} {ρ:RM} {k:Nat} {p:CP} (hp:p.rel h (ρ k)):∀ {l:List CV} {vs:List Value},aO (fun (x:CV) v=>x.rel h ρ v/\v.oneCell'=true) l vs->aO (fun (x:CV) v=>x.rel h ρ v/\v.oneCell'=true) (l.map (·.du k p)) vs
 | _,_,.nil=>.nil
 | _,_,.cons h1 t=>.cons ⟨CV.iH hp h1.1,h1.2⟩ (CV.persX hp t)
theorem BV.iH {h:PH} {ρ:RM} {k:Nat} {p:CP} (hp:p.rel h (ρ k)) {z:BV} {v:Value} (hz:z.rel h ρ v):(z.du k p).rel h ρ v:=by
 cases z with
 | row j=>
  cases b0:k==j with
  | true=>
   have e':k=j:=by simpa using b0
   subst e'
   have hv:v=ρ k:=hz
   simp only[BV.du,b0,if_true]
   rw[hv];exact hp
  | false=>
   simp only[BV.du,b0]
   exact hz
 | cJ f fs cs=>obtain⟨a,b,e,h1,h2⟩:=hz;exact⟨a,b,e,CV.Hv hp h1,CV.Hv hp h2⟩
 | xa cs=>obtain⟨a,e,h1⟩:=hz;exact⟨a,e,CV.persX hp h1⟩
 | _=>exact hz
theorem SV.iH {h:PH} {ρ:RM} {k:Nat} {p:CP} (hp:p.rel h (ρ k)) {z:SV} {v:Value} (hz:z.rel h ρ v):(z.du k p).rel h ρ v:=by
 cases z with
 | b z=>exact BV.iH hp hz
 | opt c z=>exact⟨fun hc=>BV.iH hp (hz.1 hc),hz.2⟩
 | lC l=>
  obtain⟨vs,e,ha⟩:=hz
  refine⟨vs,e,?_⟩
  clear e
  generalize vs.toList=vl at ha
  induction ha with
  | nil=>exact .nil
  | cons h' _ ih=>exact .cons (BV.iH hp h') ih
 | kF l=>
  obtain⟨vs,e,ha⟩:=hz
  refine⟨vs,e,?_⟩
  clear e
  generalize vs.toList=vl at ha
  induction ha with
  | nil=>exact .nil
  | cons h' _ ih=>exact .cons ⟨BV.iH hp h'.1,h'.2⟩ ih
def OC.du (k:Nat) (p:CP):OC->OC
 | .bb T cs=>.bb T (cs.map (·.du k p))
 | .mp es=>.mp (es.map fun q=>(q.1,q.2.du k p))
 | c=>c
def pb (k:Nat) (p:CP) (l:List (Nat×OC)):List (Nat×OC):=l.map fun q=>(q.1,q.2.du k p)
theorem OC.pers_ok {h:PH} {ρ:RM} {k:Nat} {p:CP} (hp:p.rel h (ρ k)) {c:OC} {v:Value} {w:World} (hc:c.ok h ρ v w):(c.du k p).ok h ρ v w:=by
 cases c with
 | box T ps=>exact hc
 | row T size es=>exact hc
 | oM T size es=>exact hc
 | CZ T size es=>exact hc
 | sit q pos=>exact hc
 | mq m=>exact hc
 | rr=>exact hc
 | BQ=>exact hc
 | mp es=>
  obtain⟨b,ms,clk,e1,e2,ha,e3⟩:=hc
  refine⟨b,ms,clk,e1,e2,?_,e3⟩
  clear e2 e3
  unfold qd at ha ⊢
  generalize ms.toList=l at ha
  induction ha with
  | nil=>exact .nil
  | cons h1 t ih=>exact .cons ⟨h1.1,BV.iH hp h1.2⟩ ih
 | bb T cs=>
  obtain⟨b,cur,e1,e2,ha⟩:=hc
  refine⟨b,cur,e1,e2,?_⟩
  clear e2
  generalize cur.toList=l at ha
  induction ha with
  | nil=>exact .nil
  | cons h1 t ih=>exact .cons ⟨BV.iH hp h1.1,h1.2⟩ ih
theorem OC.yc {k:Nat} {p:CP} {c:OC} {v:Value} {w:World} {b:Nat}:(c.du k p).dK v w b↔c.dK v w b:=by cases c<;>exact Iff.rfl
theorem WR.pb {h:PH} {ρ:RM} {own:List (Nat×OC)} {w:World} {k:Nat} {p:CP} (hw:WR E n own h ρ w) (hp:p.rel h (ρ k)):WR E n (Sk.pb k p own) h ρ w :=
 ⟨hw.agree,hw.le,hw.fresh,hw.size,hw.same,hw.fixed,hw.os,hw.out,hw.nl,fun j c hj=>by
  obtain⟨⟨j0,y⟩,hm,he⟩:=List.mem_map.1 hj
  obtain⟨rfl,rfl⟩:=Prod.mk.inj he
  obtain⟨e1,e2,e3⟩:=hw.owned _ _ hm
  refine⟨OC.pers_ok hp e1,fun b hb=>e2 b (OC.yc.1 hb),fun j' c' hj'=>?_⟩
  obtain⟨⟨j1,y1⟩,hm1,he1⟩:=List.mem_map.1 hj'
  obtain⟨rfl,rfl⟩:=Prod.mk.inj he1
  exact fun hne b hb hb'=>e3 _ _ hm1 hne b (OC.yc.1 hb) (OC.yc.1 hb')⟩
def dn (h:PH) (g:Nat) (cs:List Value):PH:=fun b o=>if b=g then cs[o]? else h b o
theorem R.im {k size:Nat} {T:TypeId} {es:List (List CP)} {a:Act} {w:World} (hr:R E n s a w) (hk:lk s.own k=some (.row T size es)):R E n ⟨qW k (.sl size es) s.slots,pb k (.sl size es) (del k s.own)⟩ a w:=by
 obtain⟨h1,h2,h,ρ,hw,hs⟩:=hr
 obtain⟨hu,hz,hf⟩:=nq hw hk
 have b1:=hw.owned k _ (bj hk)
 rcases hf with ⟨hρ,rfl⟩|⟨g,cap,cur,hρ,hh,hn1,hn2,hn3,hn4⟩
 refine⟨h1,h2,h,ρ,(hw.drop k).pb ⟨hu,hz,.inl ⟨hρ,rfl⟩⟩,?_⟩
 intro j x hx
 obtain⟨y,hy,rfl⟩:=yj hx
 obtain⟨v,hv,b0⟩:=hs j y hy
 exact⟨v,hv,SV.iH (p:=.sl size []) ⟨hu,hz,.inl ⟨hρ,rfl⟩⟩ b0⟩
 have hg:=b1.2.1 g (.inl (by rw[hρ];rfl))
 let cs:=cur.toList.take (es.length*size)
 have hle:h.le (dn h g cs):=fun b o v hv=>by
  unfold dn
  split
  rename_i e;subst e;rw[hg.2 o] at hv;simp at hv
  exact hv
 have hsl:(CP.sl size es).rel (dn h g cs) (ρ k):=by
  refine⟨hu,hz,.inr (.inl ⟨g,0,cap,hρ,hn1,hn2,?_⟩)⟩
  intro j c hc
  obtain⟨u,hu',hr'⟩:=hn4.get j c hc
  exact⟨u,by simp only[dn,if_true,Nat.zero_add];exact hu',c.mono hle hr'⟩
 refine⟨h1,h2,dn h g cs,ρ,WR.pb (k:=k) (p:=.sl size es) (own:=del k s.own) ⟨?_,PH.le_trans hw.le hle,?_,hw.size,hw.same,hw.fixed,hw.os,hw.out,hw.nl,?_⟩ hsl,?_⟩
 intro b o v hv
 unfold dn at hv
 split at hv
 rename_i e;subst e
 refine rS hh ?_ (hn4.one v (List.mem_of_getElem? hv))
 simp only[cs,List.getElem?_take] at hv
 split at hv
 simpa using hv
 simp at hv
 exact hw.agree b o v hv
 intro b hb hnl
 rw[← hw.fresh b hb hnl]
 funext o
 unfold dn
 rw[if_neg fun e=>by
  subst e
  rcases hg.1 with h|h
  omega
  exact hnl h]
 intro j c hj
 obtain⟨hj1,hj2⟩:=cj hj
 obtain⟨e1,e2,e3⟩:=hw.owned j c hj1
 refine⟨e1.mono hle,fun b hb=>⟨(e2 b hb).1,fun o=>?_⟩,fun j' c' hj'=>e3 j' c' (cj hj').1⟩
 have hbg:b≠g:=fun e=>by
  subst e
  exact e3 k _ (bj hk) (fun e=>hj2 e.symm) b hb (.inl (by rw[hρ];rfl))
 unfold dn
 rw[if_neg hbg]
 exact (e2 b hb).2 o
 intro j x hx
 obtain⟨y,hy,rfl⟩:=yj hx
 obtain⟨v,hv,b0⟩:=hs j y hy
 exact⟨v,hv,SV.iH hsl (SV.mono hle (fun _ _=>rfl) b0)⟩
theorem ah.im (k:Nat) {size:Nat} {T:TypeId} {es:List (List CP)} (hk:lk s.own k=some (.row T size es)) (h:ah P E n cd ⟨qW k (.sl size es) s.slots,pb k (.sl size es) (del k s.own)⟩ Q):ah P E n cd s Q:=fun a w hr=>h a w (hr.im hk)
theorem aj.im (k:Nat) {size:Nat} {T:TypeId} {es:List (List CP)} (hk:lk s.own k=some (.row T size es)) (h:aj P E n ops l ⟨qW k (.sl size es) s.slots,pb k (.sl size es) (del k s.own)⟩ Q):aj P E n ops l s Q:=fun a w hr=>h a w (hr.im hk)
theorem Fin.im {e:Exit} (k:Nat) {size:Nat} {T:TypeId} {es:List (List CP)} (hk:lk s.own k=some (.row T size es)) (h:Fin E n e ⟨qW k (.sl size es) s.slots,pb k (.sl size es) (del k s.own)⟩ Q):Fin E n e s Q:=fun a w hr=>h a w (hr.im hk)
end
end Go.Sk
namespace Go.Sk
open Go Go.BigFrame
def C5 (own:List (Nat×OC)) (h:PH) (ρ:RM) (w:World):Prop :=
 ∀ k c,(k,c)∈own->c.ok h ρ (ρ k) w/\(∀ b,c.dK (ρ k) w b->ba (ρ k)=some b/\∀ o,h b o=none)/\∀ k' c',(k',c')∈own->k'≠k->∀ b,c.dK (ρ k) w b->¬ c'.dK (ρ k') w b
def ai (own:List (Nat×OC)):List Nat:=own.map (·.1)
def aq:List (Nat×OC)->List Nat
 | []=>[]
 | (k,c)::l=>if c.we then k::aq l else aq l
abbrev er:=List (Nat×OC)->SV->Prop
def jf {TB:aH} (E:Env TB) (n:Sh) (post:er) (e:Ending) (w':World):Prop :=
 ∃ v own' res h' ρ',e=.returned v/\post own' res/\WR E n own' h' ρ' w'/\res.rel h' ρ' v
def aI (P:Program) (TB:aH) (f:FuncId) (own:List (Nat×OC)) (args:List BV) (post:er):Prop :=
 ∀ (w:World) (h:PH) (ρ:RM) (vals:List Value) (tb:cC TB h w),pc h w->C5 own h ρ w->aO (fun (x:BV) v=>x.rel h ρ v) args vals ->
  Calls P f vals.toArray w (jf ⟨w,h,ρ,tb⟩ ⟨0,aq own,ai own,[]⟩ post)
def Is (own:List (Nat×OC)) (res:SV):er:=fun o r=>o=own/\r=res
theorem WR.sh {TB:aH} {E:Env TB} {n n':Sh} {own:List (Nat×OC)} {h:PH} {ρ:RM} {w:World} (hn:n.fix=n'.fix) (hl:n.lnd=n'.lnd) (hw:WR E n own h ρ w):WR E n' own h ρ w:=by
 cases n;cases n';cases hn;cases hl
 exact⟨hw.agree,hw.le,hw.fresh,hw.size,hw.same,hw.fixed,hw.os,hw.out,hw.nl,hw.owned⟩
def gm:Nat->List BV->List (Nat×SV)
 | _,[]=>[]
 | i,x::l=>(i,.b x)::gm (i+1) l
theorem iw:∀ {l:List BV} {i k:Nat} {x:SV},(k,x)∈gm i l->∃ j z,k=i+j/\l[j]?=some z/\x=.b z
 | [],i,k,x,h=>by simp[gm] at h
 | y::l,i,k,x,h=>by
  unfold gm at h
  cases List.mem_cons.1 h with
  | inl e=>obtain⟨rfl,rfl⟩:=Prod.mk.inj e;exact⟨0,y,rfl,rfl,rfl⟩
  | inr e=>obtain⟨j,z,rfl,hz,rfl⟩:=iw e;exact⟨j+1,z,by omega,by simpa using hz,rfl⟩
def bL (w w₂:World):Prop:=∀ b k u,w.cell? ⟨b,k,none⟩=some u->w₂.cell? ⟨b,k,none⟩=some u
theorem bL.refl (w:World):bL w w:=fun _ _ _ h=>h
def zI (P:Program) (fn:Func) {TB:aH} (E:Env TB) (n:Sh) (post:er):bH
 | .normal,a,w=>a.defers=n.dfs/\∃ v,(∀ w₂,bL w w₂->(results fn a.tmps).run P w₂=.ok v w₂)/\jf E n post (.returned v) w
 | .ret,a,w=>a.defers=n.dfs/\∃ v,(∀ w₂,bL w w₂->(results fn a.tmps).run P w₂=.ok v w₂)/\jf E n post (.returned v) w
 | _,_,_=>False
theorem zI.body {P:Program} {fn:Func} {TB:aH} {E:Env TB} {n:Sh} {post:er} (hd:n.dfs=[]):∀ e a w,zI P fn E n post e a w->bodyPost P fn (jf E n post) e a w
 | .normal,a,w,⟨h1,v,h2,h3⟩=>⟨h1.trans hd,v,h2 w (bL.refl w),h3⟩
 | .ret,a,w,⟨h1,v,h2,h3⟩=>⟨h1.trans hd,v,h2 w (bL.refl w),h3⟩
 | .exit _,_,_,h=>h.elim
 | .goto _,_,_,h=>h.elim
 | .panic _,_,_,h=>h.elim
 | .outgrown,_,_,h=>h.elim
theorem aI.intro {P:Program} {TB:aH} {f:FuncId} {fn:Func} {c:Code} {own:List (Nat×OC)} {args:List BV} {post:er} (m:Nat) (hf:P.funcs[f]?=some fn) (hm:fn.ntmps=m) (hb:fn.body=some c) (hl:args.length<=m)
 (b2:∀ E:Env TB,ah P E ⟨m,aq own,ai own,[]⟩ c ⟨gm 0 args,own⟩ (zI P fn E ⟨m,aq own,ai own,[]⟩ post)):aI P TB f own args post:=by
 intro w h ρ vals tb hag b0 b1
 have hlen:=b1.length
 refine (calls_of_wp (R:=jf ⟨w,h,ρ,tb⟩ ⟨m,aq own,ai own,[]⟩ post) hf hb (wp_mono (b2 ⟨w,h,ρ,tb⟩ _ w ⟨rfl,?_,h,ρ,⟨hag,PH.le_refl h,fun _ _ _=>rfl,Nat.le_refl _,fun _ _ _=>rfl,fun _ _=>rfl,rfl,rfl,?_,?_⟩,?_⟩) (zI.body rfl))).mono ?_
 simp[hm];omega
 rintro b ⟨k,hk,hb⟩ o
 obtain⟨⟨k',c⟩,hm',rfl⟩:=List.mem_map.1 hk
 exact ((b0 k' c hm').2.1 b (.inl hb)).2 o
 intro k c hc
 obtain⟨h1,h3,h4⟩:=b0 k c hc
 exact⟨h1,fun b hb=>⟨.inr ⟨k,List.mem_map.2 ⟨(k,c),hc,rfl⟩,(h3 b hb).1⟩,(h3 b hb).2⟩,h4⟩
 intro k x hx
 obtain⟨j,z,rfl,hz,rfl⟩:=iw hx
 obtain⟨v,hv,hr⟩:=b1.get j z hz
 refine⟨v,?_,hr⟩
 have hj:=(List.getElem?_eq_some_iff.1 hv).1
 rw[Nat.zero_add,Array.getElem?_append_left (by simpa using hj)]
 simpa using hv
 rintro e w' ⟨v,own',res,h',ρ',e1,e2,e3,e4⟩
 exact⟨v,own',res,h',ρ',e1,e2,WR.sh (n:=⟨m,aq own,ai own,[]⟩) (n':=⟨0,aq own,ai own,[]⟩) rfl rfl e3,e4⟩
section
variable {P:Program} {TB:aH} {E:Env TB} {n:Sh} {s s':St} {dst:Option Nat} {t ty yt:TypeId} {pos:String} {after:Array Edge} {g:Option (Nat×Bool)} {x y c:Operand} {ops:Array Oper} {l:List Oper} {Q:bH} {cd:Code}
def jO (tmps:Array Value):ResultVar->Sem Value
 | .tmp t=>pure (tmps.getD t undef)
 | .cell b t=>do loadVar t (← asAddr (tmps.getD b undef))
theorem mU (fn:Func) (tmps:Array Value):results fn tmps=(do let vs ← fn.results.mapM (jO tmps);pure (if h:vs.size=1 then vs[0] else .tuple vs)):=by
 have:(fun x=>match x with
  | ResultVar.tmp t=>pure (tmps.getD t undef)
  | ResultVar.cell a t=>do loadVar t (← asAddr (tmps.getD a undef)))=jO tmps:=by funext x;cases x<;>rfl
 unfold results
 rw[← this]
 rfl
inductive p9 (P:Program) (s:St):ResultVar->BV->Prop
 | tmp {t:Nat} {z:BV} (h:s.get t=some (.b z)):p9 P s (.tmp t) z
 | agg {t k off m:Nat} {T T':TypeId} {ps qs:List CP} (ht:gN P T m) (h:s.get t=some (.b (.ptr k off))) (hk:lk s.own k=some (.box T' ps)) (hp:(ps.drop off).take m=qs) (hq:qs.length=m):p9 P s (.cell t T) (.agg qs)
 | one {t k off:Nat} {T T':TypeId} {ps:List CP} {p:CP} (ht:c8 P T) (h:s.get t=some (.b (.ptr k off))) (hk:lk s.own k=some (.box T' ps)) (hp:ps[off]?=some p):p9 P s (.cell t T) (.one p)
def wb:List BV->SV
 | [z]=>.b z
 | l=>.lC l
theorem p9.run {rv:ResultVar} {z:BV} (hr:p9 P s rv z) {a:Act} {w:World} {h:PH} {ρ:RM} (hw:WR E n s.own h ρ w) (hs:bt h ρ s.slots a.tmps) :
 ∃ v,(∀ w₂,bL w w₂->(jO a.tmps rv).run P w₂=.ok v w₂)/\z.rel h ρ v:=by
 cases hr with
 | tmp h'=>
  obtain⟨v,hv,b1⟩:=hs _ _ (bj (show lk s.slots _=some _ from h'))
  exact⟨v,fun w₂ _=>by simp[jO,Array.getD_eq_getD_getElem?,hv],b1⟩
 | @agg t' k off m T T' ps qs ht h' hk hp hq=>
  obtain⟨v,hv,b,he,b2⟩:=hs _ _ (bj (show lk s.slots _=some _ from h'))
  obtain⟨b',cur,b3,c2,c3⟩:=iL hw hk
  have:b'=b:=by rw[b3] at he;simpa using he
  subst this
  have hc:aB h qs ((cur.toList.drop off).take m):=by rw[← hp];exact aO.take (aO.drop c3 off) m
  have b0:=fun w₂ (hle:bL w w₂)=>j3 ht (w:=w₂) (b:=b') (o:=off) (cs:=(cur.toList.drop off).take m) (by rw[← hc.length,hq]) (fun j v hv=>by
   refine hle _ _ _ ?_
   rw[gY c2]
   rw[List.getElem?_take] at hv
   split at hv
   simpa using hv
   simp at hv)
  have hg:a.tmps.getD t' undef=.pointer (some ⟨b',off,none⟩):=by simp[Array.getD_eq_getD_getElem?,hv,b2]
  refine⟨.agg ((cur.toList.drop off).take m).toArray,fun w₂ hle=>?_,_,rfl,by simpa using hc⟩
  simp only[jO,hg]
  simp[asAddr,b0 w₂ hle]
 | @one t' k off T T' ps p ht h' hk hp=>
  obtain⟨v,hv,b,he,b2⟩:=hs _ _ (bj (show lk s.slots _=some _ from h'))
  obtain⟨b',cur,b3,c2,c3⟩:=iL hw hk
  have:b'=b:=by rw[b3] at he;simpa using he
  subst this
  obtain⟨u,hu,hpu⟩:=c3.get off p hp
  have b0:=fun w₂ (hle:bL w w₂)=>j2 ht (w:=w₂) (b:=b') (o:=off) (v:=u) (hle _ _ _ (by rw[gY c2];simpa using hu))
  have hg:a.tmps.getD t' undef=.pointer (some ⟨b',off,none⟩):=by simp[Array.getD_eq_getD_getElem?,hv,b2]
  refine⟨u,fun w₂ hle=>?_,hpu⟩
  simp only[jO,hg]
  simp[asAddr,b0 w₂ hle]
theorem qh {fn:Func} {zs:List BV} (hr:aO (p9 P s) fn.results.toList zs) {a:Act} {w:World} {h:PH} {ρ:RM} (hw:WR E n s.own h ρ w) (hs:bt h ρ s.slots a.tmps) :
 ∃ v,(∀ w₂,bL w w₂->(results fn a.tmps).run P w₂=.ok v w₂)/\(wb zs).rel h ρ v:=by
 have key:∀ (rs:List ResultVar) (zs:List BV),aO (p9 P s) rs zs->∃ vs,(∀ w₂,bL w w₂->(rs.mapM (jO a.tmps)).run P w₂=.ok vs w₂)/\aO (fun (x:BV) u=>x.rel h ρ u) zs vs:=by
  intro rs zs hh
  induction hh with
  | nil=>exact⟨[],fun _ _=>by simp,.nil⟩
  | cons h' _ ih=>
   obtain⟨v,hv,b1⟩:=h'.run hw hs
   obtain⟨vs,b2,b0⟩:=ih
   refine⟨v::vs,fun w₂ hle=>?_,.cons b1 b0⟩
   rw[List.mapM_cons,Sem.run_bind,hv w₂ hle,Result.andThen,Sem.run_bind,b2 w₂ hle]
   rfl
 obtain⟨vs,b2,b0⟩:=key _ _ hr
 have hm:∀ w₂,bL w w₂->(fn.results.mapM (jO a.tmps)).run P w₂=.ok vs.toArray w₂:=fun w₂ hle=>by
  rw[Array.mapM_eq_mapM_toList]
  simp[b2 w₂ hle]
 cases b0 with
 | nil=>exact⟨.tuple #[],fun w₂ hle=>by rw[mU,Sem.run_bind,hm w₂ hle,Result.andThen];simp,_,rfl,.nil⟩
 | @cons z v zs' vs' h1 h2=>
  cases h2 with
  | nil=>exact⟨v,fun w₂ hle=>by rw[mU,Sem.run_bind,hm w₂ hle,Result.andThen];simp,h1⟩
  | @cons z2 v2 zs2 vs2 h3 h4=>
   exact⟨.tuple (v::v2::vs2).toArray,fun w₂ hle=>by rw[mU,Sem.run_bind,hm w₂ hle,Result.andThen];simp,_,rfl,by simpa using .cons h1 (.cons h3 h4)⟩
theorem Fin.result {fn:Func} {post:er} {e:Exit} {rs:List ResultVar} (zs:List BV) (he:e=.ret∨e=.normal) (hrs:fn.results.toList=rs) (hr:aO (p9 P s) rs zs) (hp:post s.own (wb zs)):Fin E n e s (zI P fn E n post):=by
 intro a w ⟨h1,h2,h,ρ,hw,hs⟩
 obtain⟨v,hv,b0⟩:=qh (fn:=fn) (hrs▸hr) hw hs
 have:a.defers=n.dfs/\∃ v,(∀ w₂,bL w w₂->(results fn a.tmps).run P w₂=.ok v w₂)/\jf E n post (.returned v) w:=⟨h1,v,hv,v,s.own,_,h,ρ,rfl,hp,hw,b0⟩
 rcases he with rfl|rfl<;>exact this
def evB (s:St) (x:Operand):Option BV :=
 match s.ev x with
 | some (.b z)=>some z
 | _=>none
def ig (s:St):List Operand->Option (List BV)
 | []=>some []
 | x::l=>(evB s x).bind fun z=>(ig s l).map fun r=>z::r
theorem mY {h:PH} {ρ:RM} {a:Act} (hs:bt h ρ s.slots a.tmps):∀ {l:List Operand} {zs:List BV},ig s l=some zs->aO (fun (x:BV) v=>x.rel h ρ v) zs (l.map a.eval)
 | [],zs,e=>by simp[ig] at e;subst e;exact .nil
 | x::l,zs,e=>by
  unfold ig at e
  simp only[Option.bind_eq_some_iff,Option.map_eq_some_iff] at e
  obtain⟨z,hz,r,hr,rfl⟩:=e
  refine .cons ?_ (mY hs hr)
  unfold evB at hz
  split at hz
  rename_i z' hz'
  simp at hz;subst hz
  exact aE hs hz'
  simp at hz
def evBB (s:St) (x:Operand):Option BV :=
 match s.ev x with
 | some (.b (.row k))=>match lk s.own k with
  | some (.row _ size es)=>some (.one (.sl size es))
  | _=>none
 | some (.b z)=>some z
 | _=>none
def ue (s:St):List Operand->Option (List BV)
 | []=>some []
 | x::l=>(evBB s x).bind fun z=>(ue s l).map fun r=>z::r
def full (w:World):PH:=fun b o=>look w b o
theorem Ii {h:PH} {w:World} (ha:pc h w):h.le (full w):=fun b o v hv=>ha b o v hv
theorem cC.full {TB:aH} {h:PH} {w:World} (ht:cC TB h w) (ha:pc h w):cC TB (full w) w:=fun g cs hm=>⟨(ht g cs hm).1,fun o v hv=>ha _ _ _ ((ht g cs hm).2.1 o v hv),(ht g cs hm).2.2⟩
theorem LD {h:PH} {ρ:RM} {own:List (Nat×OC)} {w:World} (hw:WR E n own h ρ w) {k:Nat} {T:TypeId} {size:Nat} {es:List (List CP)} (hk:lk own k=some (.row T size es)):(CP.sl size es).rel (full w) (ρ k):=by
 obtain⟨hu,hz,hf⟩:=nq hw hk
 refine⟨hu,hz,?_⟩
 rcases hf with hf|⟨b,cap,cur,h1,h2,h3,h4,h5,h6⟩
 exact .inl hf
 refine .inr (.inl ⟨b,0,cap,h1,h3,h4,fun j c hc=>?_⟩)
 obtain⟨u,hu,hr⟩:=h6.get j c hc
 refine⟨u,?_,c.mono (Ii hw.agree) hr⟩
 rw[List.getElem?_take] at hu
 unfold full
 rw[Nat.zero_add]
 refine rS h2 ?_ (c.one hr)
 split at hu
 simpa using hu
 simp at hu
theorem za {h:PH} {ρ:RM} {a:Act} {w:World} (hw:WR E n s.own h ρ w) (hs:bt h ρ s.slots a.tmps):∀ {l:List Operand} {zs:List BV},ue s l=some zs->aO (fun (x:BV) v=>x.rel (full w) ρ v) zs (l.map a.eval)
 | [],zs,e=>by simp[ue] at e;subst e;exact .nil
 | x::l,zs,e=>by
  unfold ue at e
  simp only[Option.bind_eq_some_iff,Option.map_eq_some_iff] at e
  obtain⟨z,hz,r,hr,rfl⟩:=e
  refine .cons ?_ (za hw hs hr)
  unfold evBB at hz
  split at hz
  rename_i k hk
  split at hz
  rename_i T size es hko
  simp at hz;subst hz
  have hv:a.eval x=ρ k:=(aE hs hk:BV.rel h ρ (.row k) _)
  rw[hv];exact LD hw hko
  simp at hz
  rename_i z' _ hz'
  simp at hz;subst hz
  exact BV.mono (Ii hw.agree) (fun _ _=>rfl) (aE hs hz')
  simp at hz
def CP.flat (p:CP):Prop:=∀ h h' v,p.rel h v->p.rel h' v
def BV.flat:BV->Prop
 | .one p=>p.flat
 | .agg ps=>∀ p∈ps,p.flat
 | _=>False
def SV.flat:SV->Prop
 | .b z=>z.flat
 | .lC l=>∀ z∈l,z.flat
 | .opt _ z=>z.flat
 | .kF _=>False
theorem CP.CK {b:Bool}:(CP.bool b).flat:=fun _ _ _ h=>h
theorem CP.Mk {z:Str}:(CP.str z).flat:=fun _ _ _ h=>h
theorem BV.tp {z:BV} (hz:z.flat) {h h':PH} {ρ ρ':RM} {v:Value} (hv:z.rel h ρ v):z.rel h' ρ' v:=by
 cases z with
 | one p=>exact hz _ _ _ hv
 | agg ps=>
  obtain⟨cs,e,ha⟩:=hv
  refine⟨cs,e,?_⟩
  have hz':∀ p∈ps,p.flat:=hz
  clear e hz
  generalize cs.toList=l at ha
  induction ha with
  | nil=>exact .nil
  | cons h1 _ ih=>exact .cons (hz' _ (by simp) _ _ _ h1) (ih fun p hp=>hz' p (by simp[hp]))
 | _=>exact hz.elim
theorem SV.tp {z:SV} (hz:z.flat) {h h':PH} {ρ ρ':RM} {v:Value} (hv:z.rel h ρ v):z.rel h' ρ' v:=by
 cases z with
 | b z=>exact BV.tp hz hv
 | opt c z=>exact⟨fun hc=>BV.tp hz (hv.1 hc),hv.2⟩
 | kF l=>exact hz.elim
 | lC l=>
  obtain⟨vs,e,ha⟩:=hv
  refine⟨vs,e,?_⟩
  have hz':∀ p∈l,p.flat:=hz
  clear e hz
  generalize vs.toList=q at ha
  induction ha with
  | nil=>exact .nil
  | cons h1 _ ih=>exact .cons (BV.tp (hz' _ (by simp)) h1) (ih fun p hp=>hz' p (by simp[hp]))
structure dM (P:Program) (f:FuncId):Prop where
 run:∀ (args:Array Value) (w:World),(callFunc f args).run P w=.ok (.enter f args) w
theorem q6 {f:FuncId} {xs:Array Operand} {ats:Array TypeId} (hf:dM P f) (a:Act) (w:World):(execOp a.eval ⟨dst,.call ⟨.value (.func f),xs,ats⟩,ty,pos,after,g⟩).run P w=.ok (.enter f (xs.toList.map a.eval).toArray) w:=by
 rw[show execOp a.eval ⟨dst,.call ⟨.value (.func f),xs,ats⟩,ty,pos,after,g⟩=callFunc f (#[]++xs.map a.eval++#[]) from rfl,hf.run]
 congr 2
 apply Array.ext'
 simp
theorem r6 {f:FuncId} {xs:Array Operand} {ats:Array TypeId} (hf:dM P f) (a:Act) (w:World) (hx:a.eval x=.func (.func f) #[] #[]):(execOp a.eval ⟨dst,.call ⟨.value x,xs,ats⟩,ty,pos,after,g⟩).run P w=.ok (.enter f (xs.toList.map a.eval).toArray) w:=by
 have:execOp a.eval ⟨dst,.call ⟨.value x,xs,ats⟩,ty,pos,after,g⟩=(do let d ← Deferred.ofValue (a.eval x) (xs.map a.eval);invoke d.target d.args):=rfl
 rw[this,hx]
 have h2:(do let d ← Deferred.ofValue (.func (.func f) #[] #[]) (xs.map a.eval);invoke d.target d.args:Sem Next)=callFunc f (#[]++xs.map a.eval++#[]):=rfl
 rw[h2,hf.run]
 congr 2
 apply Array.ext'
 simp
def bN:List (Nat×OC)->List (Nat×OC)->List (Nat×OC)
 | [],own=>own
 | p::l,own=>bN l (ins p.1 p.2 own)
theorem mW:∀ {l own:List (Nat×OC)} {j:Nat} {x:OC},(j,x)∈bN l own->(j,x)∈l∨((j,x)∈own/\j ∉ ai l)
 | [],own,j,x,h=>.inr ⟨h,by simp[ai]⟩
 | p::l,own,j,x,h=>by
  rcases mW (l:=l) h with h|⟨h,hn⟩
  exact .inl (List.mem_cons_of_mem _ h)
  rcases iW h with ⟨rfl,rfl⟩|⟨h1,h2⟩
  exact .inl List.mem_cons_self
  exact .inr ⟨h2,by simp only[ai,List.map_cons,List.mem_cons,not_or];exact⟨h1,hn⟩⟩
def dL:List (Nat×OC)->List (Nat×OC)->List (Nat×OC)
 | [],own=>own
 | p::l,own=>dL l (del p.1 own)
theorem pB:∀ {l own:List (Nat×OC)} {p:Nat×OC},p∈dL l own->p∈own/\p.1 ∉ ai l
 | [],own,p,h=>⟨h,by simp[ai]⟩
 | q::l,own,p,h=>by
  obtain⟨h1,h2⟩:=pB (l:=l) h
  obtain⟨h3,h4⟩:=cj h1
  exact⟨h3,by simp only[ai,List.map_cons,List.mem_cons,not_or];exact⟨h4,h2⟩⟩
def lK (k:Nat):List (Nat×OC)->Bool
 | []=>false
 | (j,_)::l=>k==j||lK k l
theorem dO {k:Nat}:∀ {l:List (Nat×OC)},lK k l=true↔k∈ai l
 | []=>by simp[lK,ai]
 | (j,c)::l=>by
  have:=dO (k:=k) (l:=l)
  simp only[lK,ai,List.map_cons,List.mem_cons,Bool.or_eq_true,this]
  simp
def Dc (k:Nat) (own:List (Nat×OC)):Bool:=(aq own).contains k
theorem rV {k:Nat} {l:List (Nat×OC)}:Dc k l=true↔k∈aq l:=by simp[Dc]
def jQ (own_a:List (Nat×OC)):List (Nat×OC)->List (Nat×SV)->List (Nat×SV)
 | [],sl=>sl
 | p::l,sl=>jQ own_a l (if Dc p.1 own_a then sl else cu p.1 sl)
theorem nu {own_a:List (Nat×OC)}:∀ {l:List (Nat×OC)} {sl:List (Nat×SV)} {q:Nat×SV},q∈jQ own_a l sl->q∈sl/\∀ k,k∈ai l->k ∉ aq own_a->q.2.bf k=false
 | [],sl,q,h=>⟨h,fun k hk=>by simp[ai] at hk⟩
 | p::l,sl,q,h=>by
  obtain⟨h1,h2⟩:=nu (l:=l) h
  split at h1
  rename_i hk
  refine⟨h1,fun k b0 hn=>?_⟩
  simp only[ai,List.map_cons,List.mem_cons] at b0
  rcases b0 with rfl|b0
  exact absurd (rV.1 hk) hn
  exact h2 k b0 hn
  obtain⟨h3,h4⟩:=gh h1
  refine⟨h3,fun k b0 hn=>?_⟩
  simp only[ai,List.map_cons,List.mem_cons] at b0
  rcases b0 with rfl|b0
  exact h4
  exact h2 k b0 hn
def hZ (n:Sh) (own_a:List (Nat×OC)):List (Nat×OC)->Bool
 | []=>true
 | p::l=>(Dc p.1 own_a || !n.fix.contains p.1)&&hZ n own_a l
theorem Bp {own_a:List (Nat×OC)}:∀ {l:List (Nat×OC)},hZ n own_a l=true->∀ k,k∈ai l->k∈aq own_a∨k ∉ n.fix
 | [],_,k,hk=>by simp[ai] at hk
 | p::l,h,k,hk=>by
  simp only[hZ,Bool.and_eq_true,Bool.or_eq_true,rV] at h
  simp only[ai,List.map_cons,List.mem_cons] at hk
  rcases hk with rfl|hk
  exact h.1.imp id (fun e=>by simpa using e)
  exact Bp h.2 k hk
def comb (own':List (Nat×OC)) (ρ' ρ:RM):RM:=fun k=>if lK k own' then ρ' k else ρ k
theorem jR {own':List (Nat×OC)} {ρ' ρ:RM} {k:Nat} (h:k∈ai own'):comb own' ρ' ρ k=ρ' k:=by simp[comb,dO.2 h]
theorem kK {own':List (Nat×OC)} {ρ' ρ:RM} {k:Nat} (h:k ∉ ai own'):comb own' ρ' ρ k=ρ k:=by
 have:lK k own'=false:=by
  cases e:lK k own' with
  | false=>rfl
  | true=>exact absurd (dO.1 e) h
 simp[comb,this]
def CV.bn (own:List (Nat×OC)):CV->Bool
 | .ptr k _|.row k=>lK k own
 | _=>true
theorem CV.cB {own:List (Nat×OC)} {z:CV} (h:z.bn own=true) {k:Nat} (hk:z.bf k=true):k∈ai own:=by
 cases z with
 | ptr j _=>have e:j=k:=by simpa[CV.bf] using hk
            subst e;exact dO.1 h
 | row j=>have e:j=k:=by simpa[CV.bf] using hk
          subst e;exact dO.1 h
 | _=>simp[CV.bf] at hk
def BV.bn (own:List (Nat×OC)):BV->Bool
 | .ptr k _|.row k|.gO k _|.part k _ _ _ _|.Em k _ _ _=>lK k own
 | .cJ _ fs cs=>fs.all (·.bn own)&&cs.all (·.bn own)
 | .xa cs=>cs.all (·.bn own)
 | _=>true
theorem BV.cB {own:List (Nat×OC)} {z:BV} (h:z.bn own=true) {k:Nat} (hk:z.bf k=true):k∈ai own:=by
 cases z with
 | ptr j _=>have e:j=k:=by simpa[BV.bf] using hk
            subst e;exact dO.1 h
 | row j=>have e:j=k:=by simpa[BV.bf] using hk
          subst e;exact dO.1 h
 | gO j _=>have e:j=k:=by simpa[BV.bf] using hk
           subst e;exact dO.1 h
 | part j _ _ _ _=>have e:j=k:=by simpa[BV.bf] using hk
                   subst e;exact dO.1 h
 | Em j _ _ _=>have e:j=k:=by simpa[BV.bf] using hk
               subst e;exact dO.1 h
 | xa cs=>
  simp only[BV.bn,List.all_eq_true] at h
  simp only[BV.bf,List.any_eq_true] at hk
  obtain⟨z,hz,hk⟩:=hk
  exact CV.cB (h z hz) hk
 | cJ f fs cs=>
  simp only[BV.bn,Bool.and_eq_true,List.all_eq_true] at h
  simp only[BV.bf,Bool.or_eq_true,List.any_eq_true] at hk
  rcases hk with ⟨z,hz,hk⟩|⟨z,hz,hk⟩
  exact CV.cB (h.1 z hz) hk
  exact CV.cB (h.2 z hz) hk
 | _=>simp[BV.bf] at hk
def OC.bn (own:List (Nat×OC)):OC->Bool
 | .bb _ cs=>cs.all (·.bn own)
 | .mp es=>es.all (·.2.bn own)
 | .BQ j _ _ _=>lK j own
 | _=>true
theorem OC.cB {own:List (Nat×OC)} {c:OC} (h:c.bn own=true) {k:Nat} (hk:c.bf k=true):k∈ai own:=by
 cases c with
 | bb T cs=>
  simp only[OC.bf,List.any_eq_true] at hk
  obtain⟨z,hz,hk⟩:=hk
  simp only[OC.bn,List.all_eq_true] at h
  exact BV.cB (h z hz) hk
 | mp es=>
  simp only[OC.bf,List.any_eq_true] at hk
  obtain⟨z,hz,hk⟩:=hk
  simp only[OC.bn,List.all_eq_true] at h
  exact BV.cB (h z hz) hk
 | BQ j m rest cur=>have e:j=k:=by simpa[OC.bf] using hk
                    subst e;exact dO.1 h
 | _=>simp[OC.bf] at hk
def iG (own own_a own':List (Nat×OC)):Bool:=(own'.all fun p=>p.2.bn own')&&((dL own_a own).all fun p=>(ai own').all fun k=>(aq own_a).contains k || !p.2.bf k)
theorem WR.call {h h':PH} {ρ ρ':RM} {own own_a own':List (Nat×OC)} {w w':World} {tb:cC TB h w} (hw:WR E n own h ρ w) (ha:∀ k c,(k,c)∈own_a->(k,c)∈own) (hc:WR ⟨w,h,ρ,tb⟩ ⟨0,aq own_a,ai own_a,[]⟩ own' h' ρ' w')
 (hk:hZ n own_a own'=true) (e6:iG own own_a own'=true):WR E n (bN own' (dL own_a own)) h' (comb own' ρ' ρ) w':=by
 have hkn:=Bp hk
 simp only[iG,Bool.and_eq_true,List.all_eq_true,Bool.or_eq_true,Bool.not_eq_true'] at e6
 have c6:∀ k c,(k,c)∈own'->∀ j,c.bf j=true->comb own' ρ' ρ j=ρ' j:=fun k c c4 j hj=>jR (OC.cB (e6.1 _ c4) hj)
 have c7:∀ k c,(k,c)∈dL own_a own->∀ j,c.bf j=true->comb own' ρ' ρ j=ρ j:=fun k c c4 j hj=>by
  by_cases b2:j∈ai own'
  rw[jR b2]
  rcases e6.2 _ c4 j b2 with h1|h1
  exact hc.fixed j (by simpa using h1)
  rw[h1] at hj;simp at hj
  exact kK b2
 have b3:∀ b,ry ⟨w,h,ρ,tb⟩ ⟨0,aq own_a,ai own_a,[]⟩ b->∃ k c,(k,c)∈own_a/\ba (ρ k)=some b:=fun b ⟨k,hk,hb⟩=>by
  obtain⟨⟨k',c⟩,hm,rfl⟩:=List.mem_map.1 hk
  exact⟨k',c,hm,hb⟩
 have b1:∀ j x,(j,x)∈dL own_a own->∀ b,x.dK (ρ j) w b->b<w.heap.size/\¬ ry ⟨w,h,ρ,tb⟩ ⟨0,aq own_a,ai own_a,[]⟩ b:=fun j x hj b hb=>by
  obtain⟨h1,h2⟩:=pB hj
  have ho:=hw.owned j x h1
  refine⟨ho.1.lt hb,fun hl=>?_⟩
  obtain⟨k,c,c4,e0⟩:=b3 b hl
  exact ho.2.2 k c (ha k c c4) (fun e=>h2 (by subst e;exact List.mem_map.2 ⟨_,c4,rfl⟩)) b hb (.inl e0)
 have c3:∀ j x,(j,x)∈dL own_a own->∀ b,x.dK (ρ j) w b->w'.heap[b]?=w.heap[b]?:=fun j x hj b hb=>hc.same b (b1 j x hj b hb).1 (b1 j x hj b hb).2
 refine⟨hc.agree,PH.le_trans hw.le hc.le,?_,Nat.le_trans hw.size hc.size,?_,?_,hc.os.trans hw.os,hc.out.trans hw.out,hw.nl,?_⟩
 intro b hb hl
 rw[hc.fresh b (Nat.lt_of_lt_of_le hb hw.size) fun e7=>?_]
 exact hw.fresh b hb hl
 obtain⟨k,c,c4,e0⟩:=b3 b e7
 rcases ((hw.owned k c (ha k c c4)).2.1 b (.inl e0)).1 with h1|h1
 omega
 exact hl h1
 intro b hb hl
 rw[hc.same b (Nat.lt_of_lt_of_le hb hw.size) fun e7=>?_]
 exact hw.same b hb hl
 obtain⟨k,c,c4,e0⟩:=b3 b e7
 rcases ((hw.owned k c (ha k c c4)).2.1 b (.inl e0)).1 with h1|h1
 omega
 exact hl h1
 intro k e8
 by_cases b2:k∈ai own'
 rw[jR b2]
 rcases hkn k b2 with h1|h1
 rw[hc.fixed k h1];exact hw.fixed k e8
 exact absurd e8 h1
 rw[kK b2];exact hw.fixed k e8
 intro k c c4
 rcases mW c4 with b2|⟨b2,e9⟩
 have j0:k∈ai own':=List.mem_map.2 ⟨_,b2,rfl⟩
 rw[jR j0]
 obtain⟨e1,e2,e3⟩:=hc.owned k c b2
 have e4:∀ b,c.dK (ρ' k) w' b->w.heap.size<=b∨∃ k2 c2,(k2,c2)∈own_a/\ba (ρ k2)=some b:=fun b hb=>by
  rcases (e2 b hb).1 with h1|h1
  exact .inl h1
  obtain⟨k2,c2,h3,h4⟩:=b3 b h1
  exact .inr ⟨k2,c2,h3,h4⟩
 refine⟨e1.JO (c6 k c b2),fun b hb=>⟨?_,(e2 b hb).2⟩,?_⟩
 rcases e4 b hb with h1|⟨k2,c2,h3,h4⟩
 exact .inl (Nat.le_trans hw.size h1)
 rcases ((hw.owned k2 c2 (ha k2 c2 h3)).2.1 b (.inl h4)).1 with h6|h6
 exact .inl h6
 exact .inr h6
 intro j x hj j1 b hb
 rcases mW hj with b0|⟨b0,k0⟩
 rw[jR (List.mem_map.2 ⟨_,b0,rfl⟩)]
 exact e3 j x b0 j1 b hb
 rw[kK k0]
 intro e5
 have hr:=b1 j x b0 b (OC.dK.congr (fun b hb=>c3 j x b0 b (.inl hb)) e5)
 rcases (e2 b hb).1 with h1|h1
 exact absurd hr.1 (Nat.not_lt.2 h1)
 exact hr.2 h1
 rw[kK e9]
 obtain⟨e1,e2,e3⟩:=hw.owned k c (pB b2).1
 have c5:∀ b,c.dK (ρ k) w' b->c.dK (ρ k) w b:=fun b=>OC.dK.congr fun b hb=>c3 k c b2 b (.inl hb)
 refine⟨((e1.congr (c3 k c b2)).mono hc.le).JO (c7 k c b2),fun b hb=>⟨(e2 b (c5 b hb)).1,fun o=>?_⟩,?_⟩
 rw[hc.fresh b (b1 k c b2 b (c5 b hb)).1 (b1 k c b2 b (c5 b hb)).2];exact (e2 b (c5 b hb)).2 o
 intro j x hj j1 b hb
 rcases mW hj with b0|⟨b0,k0⟩
 rw[jR (List.mem_map.2 ⟨_,b0,rfl⟩)]
 intro e5
 have hr:=b1 k c b2 b (c5 b hb)
 rcases ((hc.owned j x b0).2.1 b e5).1 with h1|h1
 exact absurd hr.1 (Nat.not_lt.2 h1)
 exact hr.2 h1
 rw[kK k0]
 exact fun e5=>e3 j x (pB b0).1 j1 b (c5 b hb) (OC.dK.congr (fun b hb=>c3 j x b0 b (.inl hb)) e5)
theorem uc {h:PH} {ρ:RM} {own own_a:List (Nat×OC)} {w:World} (hw:WR E n own h ρ w) (ha:∀ k c,(k,c)∈own_a->(k,c)∈own) (hp:∀ k c,(k,c)∈own_a->c.plain=true):C5 own_a h ρ w:=fun k c hk=>by
 obtain⟨e1,e2,e3⟩:=hw.owned k c (ha k c hk)
 exact⟨e1,fun b hb=>⟨hb.AN (hp k c hk),(e2 b hb).2⟩,fun k' c' hk'=>e3 k' c' (ha k' c' hk')⟩
def SV.bn (own:List (Nat×OC)):SV->Bool
 | .b z=>z.bn own
 | .lC l=>l.all (·.bn own)
 | .kF l=>l.all (·.bn own)
 | .opt _ z=>z.bn own
theorem SV.cB {own:List (Nat×OC)} {z:SV} (h:z.bn own=true) {k:Nat} (hk:z.bf k=true):k∈ai own:=by
 cases z with
 | b z=>exact BV.cB h hk
 | opt c z=>exact BV.cB h hk
 | lC l=>
  simp only[SV.bf,List.any_eq_true] at hk
  obtain⟨z,hz,hk⟩:=hk
  simp only[SV.bn,List.all_eq_true] at h
  exact BV.cB (h z hz) hk
 | kF l=>
  simp only[SV.bf,List.any_eq_true] at hk
  obtain⟨z,hz,hk⟩:=hk
  simp only[SV.bn,List.all_eq_true] at h
  exact BV.cB (h z hz) hk
def St.aft (n:Sh) (s:St) (own_a own':List (Nat×OC)) (dst:Option Nat) (res:SV):St:=(⟨jQ own_a own' s.slots,bN own' (dL own_a s.own)⟩:St).put n dst res
def OC.lend (c:OC):Option OC:=match c.plain with
 | true=>some c
 | false=>none
def lkP (own:List (Nat×OC)) (k:Nat):Option OC:=(lk own k).bind OC.lend
theorem Fa {own:List (Nat×OC)} {k:Nat} {c:OC} (h:lkP own k=some c):lk own k=some c/\c.plain=true:=by
 unfold lkP at h
 cases e:lk own k with
 | none=>simp[e] at h
 | some x=>
  simp only[e,Option.bind_some,OC.lend] at h
  split at h
  next hp=>cases h;exact⟨rfl,hp⟩
  cases h
def gf (own:List (Nat×OC)):List (Nat×OC)->Prop
 | []=>True
 | p::l=>lkP own p.1=some p.2/\gf own l
theorem lq {own:List (Nat×OC)}:∀ {l:List (Nat×OC)},gf own l->∀ k c,(k,c)∈l->(k,c)∈own
 | [],_,k,c,h=>by simp at h
 | p::l,hl,k,c,h=>by
  cases List.mem_cons.1 h with
  | inl e=>subst e;exact bj (Fa hl.1).1
  | inr e=>exact lq hl.2 k c e
theorem j5 {own:List (Nat×OC)}:∀ {l:List (Nat×OC)},gf own l->∀ k c,(k,c)∈l->c.plain=true
 | [],_,k,c,h=>by simp at h
 | p::l,hl,k,c,h=>by
  cases List.mem_cons.1 h with
  | inl e=>subst e;exact (Fa hl.1).2
  | inr e=>exact j5 hl.2 k c e
theorem uA {o:Oper} {f:FuncId} {own_a:List (Nat×OC)} {args:List BV} {xs:List Operand} {post:er} (b0:aI P TB f own_a args post) (b2:∀ (a:Act) (w:World),R E n s a w->(execOp a.eval o).run P w=.ok (.enter f (xs.map a.eval).toArray) w)
 (ha:ig s xs=some args) (hl:gf s.own own_a) {a:Act} {w:World} (hr:R E n s a w) {next:Act->World->Prop} {Q:bH}
 (b1:∀ own' res,post own' res->hZ n own_a own'=true/\iG s.own own_a own'=true/\res.bn own'=true/\∀ a' w',R E n (s.aft n own_a own' o.dst res) a' w'->next a' w'):o.wp P a w next Q:=by
 have hr0:=b2 a w hr
 obtain⟨hdf,hn,h,ρ,hw,hs⟩:=hr
 unfold Oper.wp
 rw[hr0]
 show Calls P f _ w _
 have hla:=lq hl
 refine (b0 w h ρ _ hw.ax hw.agree (uc hw hla (j5 hl)) (mY hs ha)).mono ?_
 rintro e w' ⟨v,own',res,h',ρ',rfl,hp,hc,b3⟩
 obtain⟨hok,hcl,hki,hnx⟩:=b1 own' res hp
 have hwc:=hw.call hla hc hok hcl
 refine hnx _ _ (R.put (s:=⟨jQ own_a own' s.slots,bN own' (dL own_a s.own)⟩) hdf hn hwc ?_ ?_)
 intro k x hx
 obtain⟨h1,h2⟩:=nu hx
 obtain⟨u,hu,c2⟩:=hs k x h1
 refine⟨u,hu,SV.mono hc.le (fun j hj=>?_) c2⟩
 by_cases c3:j∈ai own'
 rw[jR c3]
 by_cases hia:j∈aq own_a
 exact hc.fixed j hia
 have:=h2 j c3 hia;simp[this] at hj
 exact kK c3
 exact SV.mono (PH.le_refl _) (fun j hj=>jR (SV.cB hki hj)) b3
theorem aj.call {f:FuncId} {own_a:List (Nat×OC)} {args:List BV} {xs:Array Operand} {ats:Array TypeId} {post:er} (b0:aI P TB f own_a args post) (hf:dM P f) (ha:ig s xs.toList=some args) (hl:gf s.own own_a)
 (h2:∀ own' res,post own' res->hZ n own_a own'=true/\iG s.own own_a own'=true/\res.bn own'=true/\aj P E n ops l (s.aft n own_a own' dst res) Q):aj P E n ops (⟨dst,.call ⟨.value (.func f),xs,ats⟩,ty,pos,after,none⟩::l) s Q:=by
 intro a w hr
 unfold zk
 have:∀ tmps,Region.wanted ⟨dst,.call ⟨.value (.func f),xs,ats⟩,ty,pos,after,none⟩ (yielded ops tmps)=true:=fun _=>rfl
 simp only[this,if_true]
 exact uA b0 (fun a w _=>q6 hf a w) ha hl hr fun own' res hp=>⟨(h2 own' res hp).1,(h2 own' res hp).2.1,(h2 own' res hp).2.2.1,fun a' w' hr'=>(h2 own' res hp).2.2.2 a' w' hr'⟩
theorem dN {f:FuncId} {own_a own':List (Nat×OC)} {args:List BV} {xs:Array Operand} {ats:Array TypeId} {res:SV} (b0:aI P TB f own_a args (Is own' res)) (hf:dM P f) (ha:ig s xs.toList=some args) (hl:gf s.own own_a)
 (hok:hZ n own_a own'=true) (hki:res.bn own'=true) (hcl:iG s.own own_a own'=true:=by rfl):aR P E n ⟨dst,.call ⟨.value (.func f),xs,ats⟩,ty,pos,after,g⟩ s (s.aft n own_a own' dst res) :=
 fun _ _ hr _ _ b1=>uA b0 (fun a w _=>q6 hf a w) ha hl hr fun _ _ hp=>by
  obtain⟨rfl,rfl⟩:=hp
  exact⟨hok,hcl,hki,b1⟩
theorem LO {f:FuncId} {own_a own':List (Nat×OC)} {args:List BV} {xs:Array Operand} {ats:Array TypeId} {res:SV} (b0:aI P TB f own_a args (Is own' res)) (hf:dM P f) (hx:s.ev x=some (.b (.one (.raw (.func (.func f) #[] #[]))))) (ha:ig s xs.toList=some args) (hl:gf s.own own_a)
 (hok:hZ n own_a own'=true) (hki:res.bn own'=true) (hcl:iG s.own own_a own'=true:=by rfl):aR P E n ⟨dst,.call ⟨.value x,xs,ats⟩,ty,pos,after,g⟩ s (s.aft n own_a own' dst res) :=
 fun _ _ hr _ _ b1=>uA b0 (fun a w hr=>r6 hf a w (by obtain⟨_,_,h,ρ,hw,hs⟩:=hr;exact (aE hs hx:(CP.raw _).rel h _).1)) ha hl hr fun _ _ hp=>by
  obtain⟨rfl,rfl⟩:=hp
  exact⟨hok,hcl,hki,b1⟩
theorem aj.HH {f:FuncId} {own_a:List (Nat×OC)} {args:List BV} {xs:Array Operand} {ats:Array TypeId} {post:er} (b0:aI P TB f own_a args post) (hf:dM P f) (hx:s.ev x=some (.b (.one (.raw (.func (.func f) #[] #[]))))) (ha:ig s xs.toList=some args) (hl:gf s.own own_a)
 (h2:∀ own' res,post own' res->hZ n own_a own'=true/\iG s.own own_a own'=true/\res.bn own'=true/\aj P E n ops l (s.aft n own_a own' dst res) Q):aj P E n ops (⟨dst,.call ⟨.value x,xs,ats⟩,ty,pos,after,none⟩::l) s Q:=by
 intro a w hr
 unfold zk
 have:∀ tmps,Region.wanted ⟨dst,.call ⟨.value x,xs,ats⟩,ty,pos,after,none⟩ (yielded ops tmps)=true:=fun _=>rfl
 simp only[this,if_true]
 exact uA b0 (fun a w hr=>r6 hf a w (by obtain⟨_,_,h,ρ,hw,hs⟩:=hr;exact (aE hs hx:(CP.raw _).rel h _).1)) ha hl hr fun own' res hp=>⟨(h2 own' res hp).1,(h2 own' res hp).2.1,(h2 own' res hp).2.2.1,fun a' w' hr'=>(h2 own' res hp).2.2.2 a' w' hr'⟩
theorem Hi {o:Oper} {f:FuncId} {args:List BV} {xs:List Operand} {post:er} (b2:aI P TB f [] args post) (c2:∀ (a:Act) (w:World),R E n s a w->(execOp a.eval o).run P w=.ok (.enter f (xs.map a.eval).toArray) w)
 (ha:ue s xs=some args) {a:Act} {w:World} (hr:R E n s a w) {next:Act->World->Prop} {Q:bH}
 (b3:∀ own' res,post own' res->res.flat/\∀ a' w',R E n (s.put n o.dst res) a' w'->next a' w'):o.wp P a w next Q:=by
 have hr0:=c2 a w hr
 obtain⟨hdf,hn,h,ρ,hw,hs⟩:=hr
 unfold Oper.wp
 rw[hr0]
 show Calls P f _ w _
 refine (b2 w (full w) ρ _ (hw.ax.full hw.agree) (fun _ _ _ hv=>hv) (fun k c hk=>by simp at hk) (za hw hs ha)).mono ?_
 rintro e w' ⟨v,own',res,h',ρ',rfl,hp,hc,c3⟩
 obtain⟨hfl,hnx⟩:=b3 own' res hp
 have b0:∀ b,b<w.heap.size->w'.heap[b]?=w.heap[b]?:=fun b hb=>hc.same b hb fun ⟨k,hk,_⟩=>by simp[ai] at hk
 have hwc:WR E n s.own h ρ w':=by
  refine⟨?_,hw.le,hw.fresh,Nat.le_trans hw.size hc.size,?_,hw.fixed,hc.os.trans hw.os,hc.out.trans hw.out,hw.nl,?_⟩
  intro b o v hv
  have b1:=hw.agree b o v hv
  rw[mX (b0 b (iq b1))];exact b1
  intro b hb hl
  rw[b0 b (Nat.lt_of_lt_of_le hb hw.size)];exact hw.same b hb hl
  intro k c hk
  obtain⟨e1,e2,e3⟩:=hw.owned k c hk
  have hf:∀ j x,(j,x)∈s.own->∀ b,x.dK (ρ j) w' b->x.dK (ρ j) w b:=fun j x hj b=>OC.dK.congr fun b hb=>b0 b ((hw.owned j x hj).1.lt (.inl hb))
  exact⟨e1.congr fun b hb=>b0 b (e1.lt hb),fun b hb=>e2 b (hf k c hk b hb),fun j x hj hjk b hb hb'=>e3 j x hj hjk b (hf k c hk b hb) (hf j x hj b hb')⟩
 exact hnx _ _ (R.put (s:=s) hdf hn hwc hs (SV.tp hfl c3))
theorem AL {f:FuncId} {own':List (Nat×OC)} {args:List BV} {xs:Array Operand} {ats:Array TypeId} {res:SV} (b0:aI P TB f [] args (Is own' res)) (hf:dM P f) (ha:ue s xs.toList=some args) (hfl:res.flat) :
 aR P E n ⟨dst,.call ⟨.value (.func f),xs,ats⟩,ty,pos,after,g⟩ s (s.put n dst res) :=
 fun _ _ hr _ _ b1=>Hi b0 (fun a w _=>q6 hf a w) ha hr fun _ _ hp=>by
  obtain⟨rfl,rfl⟩:=hp
  exact⟨hfl,b1⟩
end
end Go.Sk
namespace Go.Sk
open Go Go.BigFrame
section
variable {P:Program} {TB:aH} {E:Env TB} {n:Sh} {s s':St} {ops:Array Oper} {l:List Oper} {Q:bH} {o:Oper}
def cb (P:Program) {TB:aH} (E:Env TB) (n:Sh) (ops:Array Oper) (o:Oper) (s s':St):Prop :=
 ∀ a w,R E n s a w->∀ (K:Act->World->Prop) (Q:bH),(∀ a' w',R E n s' a' w'->K a' w')->if Region.wanted o (yielded ops a.tmps) then o.wp P a w K Q else K (a.put o.dst undef) w
theorem cb.plain (hg:o.guard=none) (h:aR P E n o s s'):cb P E n ops o s s':=by
 intro a w hr K Q hk
 have:Region.wanted o (yielded ops a.tmps)=true:=by simp[Region.wanted,hg]
 simp only[this,if_true]
 exact h a w hr K Q hk
theorem cb.guard {j t:Nat} {want gd:Bool} {z:BV} (b1:Bool) (m:Nat) (ks:List Nat) (hG:nh s t want gd) (hgd:gd=b1) (hg:o.guard=some (j,want)) (hj:(ops[j]?).bind (·.dst)=some t)
 (hc:b1=true->fa m ks s.slots) (h1:b1=true->aR P E n o (s.pY m ks) ((s.pY m ks).put n o.dst (.b z))):cb P E n ops o s (s.put n o.dst (.opt b1 z)):=by
 subst hgd
 intro a w hr K Q hk
 have b0:=hG.wanted hg hj hr
 cases hb:gd with
 | true=>
  rw[hb] at b0
  simp only[b0,if_true]
  exact h1 hb a w (hr.pY (hc hb)) _ _ fun a' w' hr'=>hk a' w' (vt hb (hc hb) hr')
 | false=>
  rw[hb] at b0
  simp only[b0,Bool.false_eq_true,if_false]
  refine hk _ _ ?_
  rw[hb]
  obtain⟨hdf,hn,h,ρ,hw,hsl⟩:=hr
  exact R.put (s:=s) hdf hn hw hsl ⟨fun e=>by simp at e,fun _=>rfl⟩
def aZ (p:Nat->Bool):Nat->List Oper->List SV->List (Nat×SV)
 | i,o::l,x::Fs=>match o.dst with
  | some d=>if p i then (d,x)::aZ p (i+1) l Fs else aZ p (i+1) l Fs
  | none=>aZ p (i+1) l Fs
 | _,_,_=>[]
theorem bT {p:Nat->Bool}:∀ {l:List Oper} {Fs:List SV} {i:Nat} {q:Nat×SV},q∈aZ p i l Fs↔∃ j o,l[j]?=some o/\o.dst=some q.1/\Fs[j]?=some q.2/\p (i+j)=true
 | [],Fs,i,q=>by simp[aZ]
 | o::l,[],i,q=>by simp[aZ]
 | o::l,x::Fs,i,q=>by
  have ih:=bT (p:=p) (l:=l) (Fs:=Fs) (i:=i+1) (q:=q)
  have step:(∃ j o',(o::l)[j]?=some o'/\o'.dst=some q.1/\(x::Fs)[j]?=some q.2/\p (i+j)=true)↔(o.dst=some q.1/\x=q.2/\p i=true)∨∃ j o',l[j]?=some o'/\o'.dst=some q.1/\Fs[j]?=some q.2/\p (i+1+j)=true:=by
   constructor
   rintro⟨j,o',h1,h2,h3,h4⟩
   cases j with
   | zero=>simp at h1 h3;subst h1;exact .inl ⟨h2,h3,h4⟩
   | succ j=>exact .inr ⟨j,o',by simpa using h1,h2,by simpa using h3,by rw[Nat.add_assoc,Nat.add_comm 1 j];exact h4⟩
   rintro (⟨h1,h2,h3⟩|⟨j,o',h1,h2,h3,h4⟩)
   exact⟨0,o,by simp,h1,by simp[h2],h3⟩
   exact⟨j+1,o',by simpa using h1,h2,by simpa using h3,by rw[Nat.add_assoc,Nat.add_comm 1 j] at h4;exact h4⟩
  have b0:aZ p i (o::l) (x::Fs)=(match o.dst with
   | some d=>if p i then (d,x)::aZ p (i+1) l Fs else aZ p (i+1) l Fs
   | none=>aZ p (i+1) l Fs):=rfl
  rw[step,← ih,b0]
  cases hd:o.dst with
  | none=>simp
  | some d=>
   dsimp only
   split
   rename_i hp
   rw[List.mem_cons]
   constructor
   rintro (rfl|h)
   exact .inl ⟨rfl,rfl,hp⟩
   exact .inr h
   rintro (⟨h1,h2,_⟩|h)
   left;cases q;simp at h1 h2;simp[h1,h2]
   exact .inr h
   rename_i hp
   constructor
   exact .inr
   rintro (⟨_,_,h3⟩|h)
   exact absurd h3 hp
   exact h
def fb (l:List Oper) (Fs:List SV):List Edge->List (Nat×SV)
 | []=>[]
 | e::es=>if Region.binds .any e then
  match l[e.on]?,Fs[e.on]? with
  | some o,some x=>(match o.dst with|some d=>(d,x)::fb l Fs es|none=>fb l Fs es)
  | _,_=>fb l Fs es
  else fb l Fs es
theorem rY {l:List Oper} {Fs:List SV}:∀ {es:List Edge} {q:Nat×SV},q∈fb l Fs es->∃ e,e∈es/\Region.binds .any e=true/\∃ o,l[e.on]?=some o/\o.dst=some q.1/\Fs[e.on]?=some q.2
 | [],q,h=>by simp[fb] at h
 | e::es,q,h=>by
  have b0:q∈fb l Fs es->∃ e',e'∈e::es/\Region.binds .any e'=true/\∃ o,l[e'.on]?=some o/\o.dst=some q.1/\Fs[e'.on]?=some q.2:=fun h=>by
   obtain⟨e',h1,h2⟩:=rY h
   exact⟨e',List.mem_cons_of_mem _ h1,h2⟩
  unfold fb at h
  split at h
  rename_i hb
  split at h
  rename_i o x ho hx
  split at h
  rename_i d hd
  cases List.mem_cons.1 h with
  | inl e'=>subst e';exact⟨e,List.mem_cons_self,hb,o,ho,hd,hx⟩
  | inr e'=>exact b0 e'
  exact b0 h
  exact b0 h
  exact b0 h
def iX:Nat->List Oper->Bool
 | _,[]=>true
 | i,o::l=>o.after.toList.all (fun e=>!Region.binds .any e||e.on<i)&&iX (i+1) l
def km:List Oper->List Nat
 | []=>[]
 | o::l=>match o.dst with|some d=>d::km l|none=>km l
def gW:List Nat->Bool
 | []=>true
 | a::l=>!l.contains a&&gW l
theorem r5:∀ {l:List Oper} {i:Nat},iX i l=true->∀ (j:Nat) (o:Oper),l[j]?=some o->∀ e∈o.after,Region.binds .any e=true->e.on<i+j
 | [],i,h,j,o',ho,e,he,hb=>by simp at ho
 | o::l,i,h,j,o',ho,e,he,hb=>by
  simp only[iX,Bool.and_eq_true,List.all_eq_true] at h
  cases j with
  | zero=>
   simp at ho;subst ho
   have:=h.1 e (by simpa using he)
   simp[hb] at this
   omega
  | succ j=>have:=r5 h.2 j o' (by simpa using ho) e he hb;omega
theorem ns:∀ {l:List Oper} {j:Nat} {o:Oper} {d:Nat},l[j]?=some o->o.dst=some d->d∈km l
 | [],j,o,d,h,hd=>by simp at h
 | o'::l,0,o,d,h,hd=>by simp at h;subst h;simp[km,hd]
 | o'::l,j+1,o,d,h,hd=>by
  have:=ns (l:=l) (j:=j) (by simpa using h) hd
  unfold km
  split
  exact List.mem_cons_of_mem _ this
  exact this
theorem wW:∀ {l:List Oper},gW (km l)=true->∀ {j j':Nat} {o o':Oper} {d:Nat},l[j]?=some o->l[j']?=some o'->o.dst=some d->o'.dst=some d->j=j'
 | [],hn,j,j',o,o',d,h,h',hd,b1=>by simp at h
 | o0::l,hn,j,j',o,o',d,h,h',hd,b1=>by
  have hn2:gW (km l)=true:=by
   unfold km at hn
   split at hn
   simp only[gW,Bool.and_eq_true] at hn;exact hn.2
   exact hn
  have b0:∀ d,o0.dst=some d->d ∉ km l:=fun d hd0=>by
   unfold km at hn
   rw[hd0] at hn
   simp only[gW,Bool.and_eq_true,Bool.not_eq_true',List.contains_eq_mem,decide_eq_false_iff_not] at hn
   exact hn.1
  cases j with
  | zero=>
   cases j' with
   | zero=>rfl
   | succ j'=>
    simp at h;subst h
    exact absurd (ns (by simpa using h') b1) (b0 d hd)
  | succ j=>
   cases j' with
   | zero=>
    simp at h';subst h'
    exact absurd (ns (by simpa using h) hd) (b0 d b1)
   | succ j'=>exact congrArg (·+1) (wW hn2 (j:=j) (j':=j') (o:=o) (o':=o') (d:=d) (by simpa using h) (by simpa using h') hd b1)
theorem R.drawn {a:Act} {w:World} (hr:R E n s a w):R E n s a { w with drawn:=w.drawn+1 }:=by
 obtain⟨h1,h2,h,ρ,hw,hs⟩:=hr
 refine⟨h1,h2,h,ρ,⟨hw.agree,hw.le,hw.fresh,hw.size,hw.same,hw.fixed,hw.os,hw.out,hw.nl,?_⟩,hs⟩
 intro k c hk
 obtain⟨e1,e2,e3⟩:=hw.owned k c hk
 exact⟨e1.congr fun _ _=>rfl,e2,e3⟩
end
end Go.Sk
namespace Go.Sk
open Go Go.BigFrame
def eK (k:IntKind) (x:Int):List CP:=[.int k x]
def eB (x:Bool):List CP:=[.bool x]
def eS (x:Str):List CP:=[.str x]
def eL {α:Type} (size:Nat) (e:α->List CP) (xs:List α):List CP:=[.sl size (xs.map e)]
def idx {α:Type} [Inhabited α] (xs:List α) (i:Int):α:=xs.getD i.toNat default
theorem idx_eq {α:Type} [Inhabited α] {xs:List α} {i:Int} (h0:0<=i) (h1:i<xs.length):xs[i.toNat]?=some (idx xs i):=by
 have:i.toNat<xs.length:=by omega
 simp[idx,List.getD,List.getElem?_eq_getElem this]
theorem map_set {α:Type} (xs:List α) (e:α->List CP) (i:Nat) (x:α):(xs.map e).set i (e x)=(xs.set i x).map e:=by rw[List.map_set]
theorem jN {α:Type} {xs:List α} {e:α->List CP} {size:Nat} (h:∀ x,(e x).length=size):ca size (xs.map e):=fun ps hp=>by
 obtain⟨x,_,rfl⟩:=List.mem_map.1 hp
 exact h x
theorem inR_u8 {z:Int} (h1:0<=z) (h2:z<=255):mf .u8 z:=by simp[mf,IntKind.min,IntKind.max,IntKind.signed,IntKind.bits];omega
section
variable {P:Program} {TB:aH} {E:Env TB} {n:Sh} {s s':St} {dst:Option Nat} {t ty yt:TypeId} {pos:String} {after:Array Edge} {g:Option (Nat×Bool)} {x y c:Operand} {ops:Array Oper} {l:List Oper} {Q:bH} {cd:Code}
theorem uv {size:Nat} {es:List (List CP)} {e:TypeId} {m:Nat} (ht:P.underlying t=some (.slice e)) (hx:s.ev x=some (.b (.one (.sl size es)))) (hm:es.length=m) :
 aR P E n ⟨dst,.call ⟨.builtin .len,#[x],#[t]⟩,ty,pos,after,g⟩ s (s.put n dst (I (m:Int))):=hm▸LN ht hx
theorem ye {k size:Nat} {T e:TypeId} {es:List (List CP)} {m:Nat} (ht:P.underlying t=some (.slice e)) (hx:s.ev x=some (.b (.row k))) (hk:lk s.own k=some (.row T size es)) (hm:es.length=m) :
 aR P E n ⟨dst,.call ⟨.builtin .len,#[x],#[t]⟩,ty,pos,after,g⟩ s (s.put n dst (I (m:Int))):=hm▸LM ht hx hk
theorem op_rem {k:IntKind} {a b:Int} (h:b≠0) (hx:s.ev x=some (.b (.one (.int k a)))) (hy:s.ev y=some (.b (.one (.int k b)))):aR P E n ⟨dst,.binOp .rem t x y yt,ty,pos,after,g⟩ s (s.put n dst (.b (.one (.int k (a.tmod b))))) :=
 aR.val (o:=⟨dst,.binOp .rem t x y yt,ty,pos,after,g⟩) fun ac w h' ρ hw hs=>by
  have hra:=(bI hs hx).2
  refine⟨.int k (a.tmod b),?_,rfl,?_⟩
  simp only[execOp,(bI hs hx).1,(bI hs hy).1]
  simp[eqGuard,binOp,Op.intDiv,h]
  have h1:(a.tmod b).natAbs<=a.natAbs:=by rw[Int.natAbs_tmod];exact Nat.mod_le _ _
  unfold mf at hra ⊢
  have h2:0<=a->0<=a.tmod b:=fun h=>Int.tmod_nonneg b h
  have h3:a<=0->a.tmod b<=0:=fun h=>by
   have:=Int.tmod_nonneg b (a:=-a) (by omega)
   rw[Int.neg_tmod] at this;omega
  have h4:(a.tmod b).natAbs<=a.natAbs:=h1
  have h5:k.min<=0:=by cases k<;>simp[IntKind.min,IntKind.signed,IntKind.bits]
  have h6:0<=k.max:=by cases k<;>simp[IntKind.max,IntKind.signed,IntKind.bits]
  omega
theorem G4 {u v:Str} (h:u.length+v.length<=9223372036854775807) (hx:s.ev x=some (.b (.one (.str u)))) (hy:s.ev y=some (.b (.one (.str v)))):aR P E n ⟨dst,.binOp .add t x y yt,ty,pos,after,g⟩ s (s.put n dst (.b (.one (.str (u++v))))) :=
 aR.val (o:=⟨dst,.binOp .add t x y yt,ty,pos,after,g⟩) fun ac w h' ρ hw hs=>by
  refine⟨.string ⟨⟨u++v⟩⟩,?_,rfl,by rw[dk];simpa using h⟩
  simp only[execOp,(lL hs hx).1,(lL hs hy).1]
  have b0:=run_string_add_sum (P:=P) w ⟨⟨u⟩⟩ ⟨⟨v⟩⟩ h
  have b1:(⟨⟨u⟩⟩:ByteArray)++⟨⟨v⟩⟩=⟨⟨u++v⟩⟩:=ByteArray.mk_append_mk u v
  simp[eqGuard,binOp,b0,b1]
theorem wL {h:PH} {ρ:RM} {own:List (Nat×OC)} {w:World} (hw:WR E n own h ρ w) {k:Nat} {T:TypeId} {size:Nat} {es:List (List CP)} (hk:lk own k=some (.row T size es)) {b m q:Nat} (hρ:ρ k=.slice (some ⟨b,0,none⟩) m q) :
 ca size es/\0<size/\∃ cap cur,ρ k=.slice (some ⟨b,0,none⟩) es.length cap/\w.heap[b]?=some (.cells cur T (0,0))/\es.length<=cap/\cap<=maxLen/\cur.size=cap*size/\aB h es.flatten (cur.toList.take (es.length*size)):=by
 obtain⟨hu,hz,hf⟩:=nq hw hk
 refine⟨hu,hz,?_⟩
 rcases hf with ⟨h1,_⟩|⟨b',cap,cur,h1,h2⟩
 rw[hρ] at h1;simp at h1
 have:b'=b:=by rw[hρ] at h1;simp at h1;exact h1.1.symm
 subst this
 exact⟨cap,cur,h1,h2⟩
theorem EX {h:PH} {size:Nat} {es:List (List CP)} {cur:Array Value} (hu:ca size es) (hr:aB h es.flatten (cur.toList.take (es.length*size))) {i:Nat} {ps:List CP} (hi:es[i]?=some ps) (f:Nat) :
 aB h (ps.drop f) ((cur.toList.drop (i*size+f)).take (ps.length-f)):=by
 have hil:=(List.getElem?_eq_some_iff.1 hi).1
 have hpl:ps.length=size:=hu ps (List.mem_of_getElem? hi)
 have hlen:=hr.length
 rw[gp hu] at hlen
 simp only[List.length_take,Array.length_toList] at hlen
 have hsz:es.length*size<=cur.size:=by omega
 have hle:(i+1)*size<=es.length*size:=Nat.mul_le_mul_right _ hil
 rw[Nat.add_mul] at hle
 refine aO.Aj (by simp;omega) fun j p u hp hv=>?_
 rw[List.getElem?_drop] at hp
 have hj:=(List.getElem?_eq_some_iff.1 hp).1
 obtain⟨u',hu',b0⟩:=hr.get (i*size+(f+j)) p (by rw[jo hu i ps hi (f+j) (by omega)];exact hp)
 rw[List.getElem?_take,if_pos (by omega)] at hu'
 rw[List.getElem?_take,if_pos (by omega),List.getElem?_drop,Nat.add_assoc] at hv
 rw[hu'] at hv;cases hv
 exact b0
theorem Jj {k o i f m size:Nat} {T:TypeId} {es:List (List CP)} {ps qs:List CP} (ht:gN P t m) (hx:s.ev x=some (.b (.gO k o))) (hk:lk s.own k=some (.row T size es)) (ho:o=i*size+f) (hi:es[i]?=some ps) (hp:(ps.drop f).take m=qs) (hq:qs.length=m) :
 aR P E n ⟨dst,.load t x,ty,pos,after,g⟩ s (s.put n dst (.b (.agg qs))) :=
 aR.val (o:=⟨dst,.load t x,ty,pos,after,g⟩) fun ac w h ρ hw hs=>by
  obtain⟨b,mm,q,he,hv⟩:=(aE hs hx:BV.rel h ρ (.gO k o) _)
  obtain⟨hu,hz,cap,cur,h1,h2,h3,h4,h5,h6⟩:=wL hw hk he
  have hc0:=aO.take (EX hu h6 hi f) m
  have hc:aB h qs (((cur.toList.drop (i*size+f)).take (ps.length-f)).take m):=hp▸hc0
  refine⟨.agg (((cur.toList.drop (i*size+f)).take (ps.length-f)).take m).toArray,?_,_,rfl,by simpa using hc⟩
  have:=j3 ht (w:=w) (b:=b) (o:=o) (cs:=((cur.toList.drop (i*size+f)).take (ps.length-f)).take m) (by rw[← hc.length,hq]) (fun j v hv=>by
   rw[gY h2,ho]
   rw[List.getElem?_take] at hv
   split at hv
   rw[List.getElem?_take] at hv
   split at hv
   simpa using hv
   simp at hv
   simp at hv)
  simp only[execOp,hv,Instr.loadAt,Instr.sureAddr]
  simp[this]
theorem vJ {k o i f size:Nat} {T:TypeId} {es:List (List CP)} {ps:List CP} {p:CP} (ht:c8 P t) (hx:s.ev x=some (.b (.gO k o))) (hk:lk s.own k=some (.row T size es)) (ho:o=i*size+f) (hi:es[i]?=some ps) (hp:ps[f]?=some p) :
 aR P E n ⟨dst,.load t x,ty,pos,after,g⟩ s (s.put n dst (.b (.one p))) :=
 aR.val (o:=⟨dst,.load t x,ty,pos,after,g⟩) fun ac w h ρ hw hs=>by
  obtain⟨b,mm,q,he,hv⟩:=(aE hs hx:BV.rel h ρ (.gO k o) _)
  obtain⟨hu,hz,cap,cur,h1,h2,h3,h4,h5,h6⟩:=wL hw hk he
  have hc:=EX hu h6 hi f
  obtain⟨u,b1,hpu⟩:=hc.get 0 p (by rw[List.getElem?_drop,Nat.add_zero];exact hp)
  rw[List.getElem?_take] at b1
  have b0:w.cell? ⟨b,o,none⟩=some u:=by
   rw[gY h2,ho]
   split at b1
   simpa using b1
   simp at b1
  have:=j2 ht (w:=w) b0
  refine⟨u,?_,hpu⟩
  simp only[execOp,hv,Instr.loadAt,Instr.sureAddr]
  simp[this]
theorem yU {size:Nat} {qs:List CP} (hq:qs.length=size):∀ {es:List (List CP)},ca size es->∀ (i:Nat),i<es.length->aP es.flatten (i*size) qs=(es.set i qs).flatten
 | [],_,i,h=>by simp at h
 | p::es,hu,0,_=>by
  have hp:p.length=size:=hu p (by simp)
  simp only[aP,Nat.zero_mul,List.take_zero,List.nil_append,Nat.zero_add,List.set_cons_zero,List.flatten_cons,hq]
  rw[← hp,List.drop_left]
 | p::es,hu,i+1,h=>by
  have hp:p.length=size:=hu p (by simp)
  have ih:=yU hq (es:=es) (fun q hq=>hu q (by simp[hq])) i (by simpa using h)
  have e:(i+1)*size=p.length+i*size:=by rw[Nat.add_mul,hp];omega
  simp only[aP,List.flatten_cons,List.set_cons_succ] at ih ⊢
  rw[← ih,e,Nat.add_assoc,List.take_length_add_append,List.drop_length_add_append]
  simp[List.append_assoc]
theorem BC {h:PH} {ρ:RM} {w:World} (hw:WR E n s.own h ρ w) {k i m size:Nat} {T:TypeId} {es:List (List CP)} {qs:List CP} {u:Value} {b mm q:Nat} {inf:TypeInfo} (hi:P.info? t=some inf) (hm:inf.size=m) (hk:lk s.own k=some (.row T size es))
 (he:ρ k=.slice (some ⟨b,0,none⟩) mm q) (hms:m=size) (hlt:i<es.length) (b1:aB h qs u.cells.toList) (hq:qs.length=size) :
 ∃ w',(storeVar t ⟨b,i*size,none⟩ u).run P w=.ok () w'/\WR E n (ins k (.row T size (es.set i qs)) s.own) h ρ w':=by
 obtain⟨hu,hz,cap,cur,h1,h2,h3,h4,h5,h6⟩:=wL hw hk he
 have hl:=b1.length
 simp only[Array.length_toList] at hl
 have hle:(i+1)*size<=es.length*size:=Nat.mul_le_mul_right _ hlt
 rw[Nat.add_mul] at hle
 have hcap:es.length*size<=cap*size:=Nat.mul_le_mul_right _ h3
 have b2:=jX (P:=P) (t:=t) hi hm h2 (v:=u) (o:=i*size) (by omega) (by omega) b1.one
 refine⟨_,b2,?_⟩
 have b0:(aP cur.toList (i*size) u.cells.toList).length=cur.size:=by simp[aP];omega
 have hst:=hw.step (w':=w.setRow b (aP cur.toList (i*size) u.cells.toList).toArray) k (ρ k) (.row T size (es.set i qs)) (some b) (fun b' e=>by cases e;exact⟨_,bj hk,by rw[he];rfl⟩) (by simp) rfl rfl
  (fun b' _ hne=>setRow_other _ _ _ _ (fun e=>hne (by rw[e]))) ?_ (fun b' b3=>by rw[he] at b3;simp[ba] at b3;exact .inl (by rw[b3])) (.inl rfl) (.inl rfl)
 have:oX ρ k (ρ k)=ρ:=by funext j;simp only[oX];split<;>simp_all
 rwa [this] at hst
 have hu':ca size (es.set i qs):=fun ps hps=>by
  rcases List.mem_or_eq_of_mem_set hps with h|h
  exact hu ps h
  rw[h];exact hq
 refine⟨hu',hz,_,⟨?_,.inr ⟨b,cap,(aP cur.toList (i*size) u.cells.toList).toArray,by rw[h1,List.length_set],Nat.zero_le _,setRow_heap _ _ _ _ _ _ h2,by rw[List.length_set];exact h3,h4,by simp[b0,h5],rfl⟩⟩,?_⟩
 simp only[List.length_take,List.length_set,b0];omega
 rw[List.length_set,← yU hq hu i hlt]
 have e1:(aP cur.toList (i*size) u.cells.toList).take (es.length*size)=aP (cur.toList.take (es.length*size)) (i*size) u.cells.toList:=by
  simp only[aP,Array.length_toList]
  rw[List.take_append,List.take_append]
  simp only[List.length_take,List.length_append,Array.length_toList]
  rw[List.take_take,List.take_take,List.take_of_length_le (l:=u.cells.toList) (by simp;omega),List.drop_take]
  congr 1
  congr 2
  omega
  congr 1
  omega
 rw[e1]
 exact aO.aP h6 b1 _
theorem yY {k o i size:Nat} {T:TypeId} {es es':List (List CP)} {p:CP} (ht:c8 P t) (hx:s.ev x=some (.b (.gO k o))) (hk:lk s.own k=some (.row T size es)) (hy:s.ev y=some (.b (.one p))) (ho:o=i*size) (hlt:i<es.length) (he:es.set i [p]=es')
 (hms:1=size:=by rfl) :
 aR P E n ⟨none,.store t x y,ty,pos,after,g⟩ s ⟨s.slots,ins k (.row T size es') s.own⟩ :=
 aR.store (o:=⟨none,.store t x y,ty,pos,after,g⟩) rfl fun ac w h ρ hw hs=>by
  obtain⟨b,mm,q,hρ,hv⟩:=(aE hs hx:BV.rel h ρ (.gO k o) _)
  have hp:p.rel h (ac.eval y):=aE hs hy
  have h1:=p.one hp
  have b0:(ac.eval y).cells=#[ac.eval y]:=by cases hq:ac.eval y<;>first|rfl|(rw[hq] at h1;simp[Value.oneCell'] at h1)
  obtain⟨i',hi,hm⟩:=ht.size
  obtain⟨w',b1,hwr⟩:=BC hw (u:=ac.eval y) (qs:=[p]) hi hm hk hρ hms hlt (by rw[b0];exact .cons hp .nil) hms
  subst he
  refine⟨w',?_,hwr⟩
  simp only[execOp,hv,Instr.storeAt,Instr.sureAddr,ho]
  simp[b1]
def BV.JO (k k0:Nat):BV->BV
 | .row j=>if j==k then .row k0 else .row j
 | z=>z
def wv (k:Nat):BV->Bool
 | .row j=>j==k
 | .one _|.agg _=>true
 | _=>false
theorem OC.Lh {c:OC} (h:c.we=false) {k:Nat}:c.bf k=false:=by
 cases c<;>first|rfl|simp[OC.we] at h
theorem Fin.fi {fn:Func} {post:er} {e:Exit} {rs:List ResultVar} (zs:List BV) (he:e=.ret∨e=.normal) (hrs:fn.results.toList=rs) (hr:aO (p9 P s) rs zs) (hp:post [] (wb zs)):Fin E n e s (zI P fn E n post):=by
 intro a w ⟨h1,h2,h,ρ,hw,hs⟩
 obtain⟨v,hv,b0⟩:=qh (fn:=fn) (hrs▸hr) hw hs
 have:a.defers=n.dfs/\∃ v,(∀ w₂,bL w w₂->(results fn a.tmps).run P w₂=.ok v w₂)/\jf E n post (.returned v) w:=⟨h1,v,hv,v,[],_,h,ρ,rfl,hp,hw.sub (by simp),b0⟩
 rcases he with rfl|rfl<;>exact this
theorem Fin.kX {fn:Func} {post:er} {e:Exit} {rs:List ResultVar} {c:OC} (k k0:Nat) (zs:List BV) (he:e=.ret∨e=.normal) (hrs:fn.results.toList=rs) (hr:aO (p9 P s) rs zs) (hk:lk s.own k=some c) (hf:n.fix=[]) (hb:c.we=false) (hz:zs.all (wv k)=true)
 (hp:post [(k0,c)] (wb (zs.map (BV.JO k k0)))):Fin E n e s (zI P fn E n post):=by
 intro a w ⟨h1,h2,h,ρ,hw,hs⟩
 obtain⟨v,hv,b1⟩:=qh (fn:=fn) (hrs▸hr) hw hs
 have hwr:WR E n [(k0,c)] h (fun _=>ρ k) w:=by
  refine⟨hw.agree,hw.le,hw.fresh,hw.size,hw.same,fun j hj=>by rw[hf] at hj;simp at hj,hw.os,hw.out,hw.nl,?_⟩
  intro j c' hj
  simp only[List.mem_singleton,Prod.mk.injEq] at hj
  obtain⟨rfl,rfl⟩:=hj
  obtain⟨e1,e2,_⟩:=hw.owned k _ (bj hk)
  refine⟨e1.JO fun i hi=>by rw[OC.Lh hb] at hi;simp at hi,e2,fun j' c' hj' hne=>?_⟩
  simp only[List.mem_singleton,Prod.mk.injEq] at hj'
  exact absurd hj'.1 hne
 have b2:∀ {z:BV} {u:Value},wv k z=true->z.rel h ρ u->(z.JO k k0).rel h (fun _=>ρ k) u:=fun {z u} hz hu=>by
  cases z with
  | row j=>
   have e:j=k:=by simpa[wv] using hz
   subst e
   simp only[BV.JO,beq_self_eq_true,if_true]
   exact hu
  | one p=>exact hu
  | agg ps=>exact hu
  | _=>simp[wv] at hz
 have b3:(wb (zs.map (BV.JO k k0))).rel h (fun _=>ρ k) v:=by
  have b0:∀ {zs:List BV} {us:List Value},zs.all (wv k)=true->aO (fun (x:BV) u=>x.rel h ρ u) zs us->aO (fun (x:BV) u=>x.rel h (fun _=>ρ k) u) (zs.map (BV.JO k k0)) us:=fun {zs us} hz ha=>by
   induction ha with
   | nil=>exact .nil
   | cons h1 _ ih=>
    simp only[List.all_cons,Bool.and_eq_true] at hz
    exact .cons (b2 hz.1 h1) (ih hz.2)
  match zs,hz,b1 with
  | [],hz,⟨vs,e,ha⟩=>exact⟨vs,e,b0 hz ha⟩
  | [z],hz,b1=>exact b2 (by simpa using hz) b1
  | z1::z2::r,hz,⟨vs,e,ha⟩=>exact⟨vs,e,b0 hz ha⟩
 have:a.defers=n.dfs/\∃ v,(∀ w₂,bL w w₂->(results fn a.tmps).run P w₂=.ok v w₂)/\jf E n post (.returned v) w:=⟨h1,v,hv,v,[(k0,c)],_,h,_,rfl,hp,hwr,b3⟩
 rcases he with rfl|rfl<;>exact this
theorem Fin.ko {e:Exit} (i k size:Nat) (T:TypeId) (hi:s.get i=some (.b (.one .nil))) (hz:0<size) (hfx:n.fix.contains k=false) (h:Fin E n e ⟨(i,.b (.row k))::del i (cu k s.slots),ins k (.row T size []) s.own⟩ Q) (hnu:dy k s.own=true:=by rfl):Fin E n e s Q :=
 fun a w hr=>h a w (hr.ko hi hz hfx hnu)
theorem Fin.cH {e:Exit} (i size:Nat) (hi:s.get i=some (.b (.one .nil))) (hz:0<size) (h:Fin E n e ⟨(i,.b (.one (.sl size [])))::del i s.slots,s.own⟩ Q):Fin E n e s Q :=
 fun a w hr=>h a w (hr.cH hi hz)
end
end Go.Sk
namespace Go.Sk
open Go
section
variable {P:Program} {TB:aH} {E:Env TB} {n:Sh} {s:St} {dst:Option Nat} {ty:TypeId} {pos:String} {after:Array Edge} {g:Option (Nat×Bool)} {x:Operand}
theorem CD {own:List (Nat×OC)}:iG own [] []=true:=by simp[iG,ai]
theorem cy {f:FuncId} {args:List BV} {xs:Array Operand} {ats:Array TypeId} {res:SV} (b0:aI P TB f [] args (Is [] res)) (hf:dM P f) (ha:ig s xs.toList=some args) (hki:res.bn []=true) :
 aR P E n ⟨dst,.call ⟨.value (.func f),xs,ats⟩,ty,pos,after,g⟩ s (s.put n dst res):=dN (own_a:=[]) (own':=[]) b0 hf ha trivial rfl hki CD
theorem Jm {f:FuncId} {args:List BV} {xs:Array Operand} {ats:Array TypeId} {res:SV} (b0:aI P TB f [] args (Is [] res)) (hf:dM P f) (hx:s.ev x=some (.b (.one (.raw (.func (.func f) #[] #[]))))) (ha:ig s xs.toList=some args) (hki:res.bn []=true) :
 aR P E n ⟨dst,.call ⟨.value x,xs,ats⟩,ty,pos,after,g⟩ s (s.put n dst res):=LO (own_a:=[]) (own':=[]) b0 hf hx ha trivial rfl hki CD
end
end Go.Sk
namespace Go.Sk
open Go Go.BigFrame
section
variable {P:Program} {TB:aH} {E:Env TB} {n:Sh} {s s':St} {dst:Option Nat} {t ty yt:TypeId} {pos:String} {after:Array Edge} {g:Option (Nat×Bool)} {x y c:Operand} {ops:Array Oper} {l:List Oper} {Q:bH} {cd:Code}
theorem BZ {e:TypeId} (ht:P.underlying t=some (.slice e)) (w:World) (a:Option Addr) (m q:Nat):(Op.equal t (.slice a m q) (.slice none 0 0)).run P w=.ok a.isNone w:=run_equal_slice_nil w t e a m q ht
theorem Hf {o:Oper} {e:TypeId} {op:BinOp} (ht:P.underlying t=some (.slice e)) (ho:o=⟨dst,.binOp op t x (.const (.slice none 0 0)) yt,ty,pos,after,none⟩) (hop:op=.eql∨op=.neq)
 {emp:Prop} (b0:∀ (a:Act) (w:World) (h:PH) (ρ:RM),WR E n s.own h ρ w->bt h ρ s.slots a.tmps->∃ ad m q,a.eval x=.slice ad m q/\(ad=none->emp))
 (h2:∀ b:Bool,(b=true->emp)->aj P E n ops l (s.put n dst (B (if op=.eql then b else !b))) Q):aj P E n ops (o::l) s Q:=by
 intro a w hr
 subst ho
 unfold zk
 have:∀ tmps,Region.wanted ⟨dst,.binOp op t x (.const (.slice none 0 0)) yt,ty,pos,after,none⟩ (yielded ops tmps)=true:=fun _=>rfl
 simp only[this,if_true]
 obtain⟨hdf,hn,h,ρ,hw,hs⟩:=id hr
 obtain⟨ad,m,q,hv,b1⟩:=b0 a w h ρ hw hs
 have b2:(execOp a.eval ⟨dst,.binOp op t x (.const (.slice none 0 0)) yt,ty,pos,after,none⟩).run P w=.ok (.value (.bool (if op=.eql then ad.isNone else !ad.isNone))) w:=by
  have b3:a.eval (.const (.slice none 0 0))=.slice none 0 0:=rfl
  simp only[execOp,hv,b3]
  have hq:=BZ ht w ad m q
  rcases hop with rfl|rfl<;>simp[eqGuard,binOp,hq]
 unfold Oper.wp
 rw[b2]
 exact h2 ad.isNone (fun e=>b1 (by cases ad<;>simp_all)) _ _ (R.put (s:=s) hdf hn hw hs rfl)
theorem aj.uf {size:Nat} {es:List (List CP)} {e:TypeId} (ht:P.underlying t=some (.slice e)) (hx:s.ev x=some (.b (.one (.sl size es)))) (h2:∀ b:Bool,(b=true->es=[])->aj P E n ops l (s.put n dst (B b)) Q) :
 aj P E n ops (⟨dst,.binOp .eql t x (.const (.slice none 0 0)) yt,ty,pos,after,none⟩::l) s Q :=
 Hf (op:=.eql) (emp:=es=[]) ht rfl (.inl rfl) (fun a w h ρ hw hs=>by
  obtain⟨hu,hz,hv⟩:=(aE hs hx:(CP.sl size es).rel h _)
  rcases hv with ⟨hv,he⟩|⟨b,o,c,hv,_⟩|⟨_,hv,_⟩
  exact⟨_,_,_,hv,fun _=>he⟩
  exact⟨_,_,_,hv,fun e=>by simp at e⟩
  exact⟨_,_,_,hv,fun e=>by simp at e⟩) h2
theorem o2 {e k size bytes:Nat} {zs:List CP} (ht:lD P t e size bytes zs) (hfx:n.fix.contains k=false) (hnu:dy k s.own=true:=by rfl) :
 aR P E n ⟨dst,.buildSlice t 0 #[],ty,pos,after,g⟩ s ((⟨cu k s.slots,ins k (.row e size []) s.own⟩:St).put n dst (.b (.row k))) :=
 aR.make (hfx:=hfx) (hnu:=hnu) (o:=⟨dst,.buildSlice t 0 #[],ty,pos,after,g⟩) fun ac w h ρ hw hs=>by
  obtain⟨i,z,h1,h2,h3,h4,h5,h6,h7⟩:=ht.info
  refine⟨.slice (some ⟨w.heap.size,0,none⟩) 0 0,.slice (some ⟨w.heap.size,0,none⟩) 0 0,w.alloc (.cells #[] e),none,?_,fun b e=>by simp at e,by simp,rfl,rfl,fun b hb _=>heap_alloc_old w _ hb,?_,
   fun b e=>by simp[ba] at e;subst e;exact .inr (Nat.le_refl _),(cL _ _ _).symm⟩
  have b0:(Instr.buildSlice t 0 #[]).run P w=.ok (.slice (some ⟨w.heap.size,0,none⟩) 0 0) (w.alloc (.cells #[] e)):=by
   unfold Instr.buildSlice
   rw[Sem.run_bind,run_underlying ht.und,Result.andThen]
   simp only[Sem.run_bind,run_sizeOf h1,Result.andThen_ok,Nat.zero_mul]
   have hz0:((Array.range 0).map fun _=>(default:Value))=#[]:=by simp
   simp[Instr.fill,newRow,hz0]
  simp only[execOp]
  simp[b0]
  exact⟨fun ps hps=>by simp at hps,h6,[],⟨by simp,.inr ⟨w.heap.size,0,#[],by simp,Nat.zero_le _,heap_alloc_new w _,by simp,by simp[maxLen],by simp,by simp⟩⟩,.nil⟩
structure jh (P:Program) (t:TypeId) (ps qs:List CP) (r:Bool):Prop where
 guard:P.eqGuardType P.depth t=false
 run:∀ (h:PH) (cs ds:Array Value) (w:World),aB h ps cs.toList->aB h qs ds.toList->(Op.equalIn 10000 t (.agg cs) (.agg ds)).run P w=.ok r w
theorem Bn {ps qs:List CP} {r:Bool} (he:jh P t ps qs r) (hx:s.ev x=some (.b (.agg ps))) (hy:s.ev y=some (.b (.agg qs))):aR P E n ⟨dst,.binOp .eql t x y yt,ty,pos,after,g⟩ s (s.put n dst (B r)) :=
 aR.val (o:=⟨dst,.binOp .eql t x y yt,ty,pos,after,g⟩) fun ac w h ρ hw hs=>by
  obtain⟨cs,hv,hr⟩:=(aE hs hx:BV.rel h ρ (.agg ps) _)
  obtain⟨ds,hv2,hr2⟩:=(aE hs hy:BV.rel h ρ (.agg qs) _)
  refine⟨.bool r,?_,rfl⟩
  simp only[execOp,hv,hv2]
  simp[run_eqGuard_agg w _ _ _ _ _ _ he.guard,run_eql_struct,he.run h cs ds w hr hr2]
theorem Bm {ps qs:List CP} {r r':Bool} (he:jh P t ps qs r) (hx:s.ev x=some (.b (.agg ps))) (hy:s.ev y=some (.b (.agg qs))) (hr':(!r)=r'):aR P E n ⟨dst,.binOp .neq t x y yt,ty,pos,after,g⟩ s (s.put n dst (B r')) :=
 aR.val (o:=⟨dst,.binOp .neq t x y yt,ty,pos,after,g⟩) fun ac w h ρ hw hs=>by
  obtain⟨cs,hv,hr⟩:=(aE hs hx:BV.rel h ρ (.agg ps) _)
  obtain⟨ds,hv2,hr2⟩:=(aE hs hy:BV.rel h ρ (.agg qs) _)
  refine⟨.bool r',?_,rfl⟩
  simp only[execOp,hv,hv2]
  simp[run_eqGuard_agg w _ _ _ _ _ _ he.guard,run_neq_struct,he.run h cs ds w hr hr2,hr']
structure vD (P:Program) (t:TypeId) (p q:CP) (r:Bool):Prop where
 one:c8 P t
 run:∀ (h:PH) (u v:Value) (w:World),p.rel h u->q.rel h v->(Op.equalIn 9999 t u v).run P w=.ok r w
theorem vD.int {k k':IntKind} {a b:Int} (h1:c8 P t) (hu:P.underlying t=some (.int k')):vD P t (.int k a) (.int k b) (decide (a=b)) :=
 ⟨h1,fun h u v w hp hq=>by rw[hp.1,hq.1,run_equalIn_int w 9998 t k k' a b hu,wx]⟩
theorem vD.str {a b:Str} (h1:c8 P t) (hu:P.underlying t=some .string):vD P t (.str a) (.str b) (decide (a=b)) :=
 ⟨h1,fun h u v w hp hq=>by rw[hp.1,hq.1,run_equalIn_string w 9998 t _ _ hu,zK]⟩
theorem vD.bool {a b:Bool} (h1:c8 P t) (hu:P.underlying t=some .bool):vD P t (.bool a) (.bool b) (a==b) :=
 ⟨h1,fun h u v w hp hq=>by rw[show u=.bool a from hp,show v=.bool b from hq,run_equalIn_bool' w 9998 t a b hu]⟩
def DX (P:Program) (ps qs:List CP):List Field->List Bool->Prop
 | [],[]=>True
 | f::fs,r::rs=>f.name ≠ "_"/\(∃ p q,ps[f.offset]?=some p/\qs[f.offset]?=some q/\vD P f.type p q r)/\DX P ps qs fs rs
 | _,_=>False
theorem xm {h:PH} {ps qs:List CP} {cs ds:Array Value} (hp:aB h ps cs.toList) (hq:aB h qs ds.toList) (w:World):∀ {fs:List Field} {rs:List Bool},DX P ps qs fs rs->(Op.eqFields 9999 cs ds fs).run P w=.ok (rs.all id) w
 | [],[],_=>rfl
 | [],_::_,h=>h.elim
 | _::_,[],h=>h.elim
 | f::fs,r::rs,⟨h1,⟨p,q,hp',hq',he⟩,h3⟩=>by
  have ih:=xm hp hq w h3
  obtain⟨u,hu,hur⟩:=hp.get _ p hp'
  obtain⟨v,hv,hvr⟩:=hq.get _ q hq'
  obtain⟨d,hd,hag⟩:=he.one.und
  have b0:∀ {A:Array Value} {z:Value},A.toList[f.offset]?=some z->(part f.type A f.offset).run P w=.ok z w:=fun {A z} hz=>by
   unfold part
   rw[Sem.run_bind,mO hd,Result.andThen,hag]
   have:A[f.offset]?=some z:=by simpa using hz
   simp[this]
  unfold Op.eqFields
  rw[if_pos h1]
  rw[Sem.run_bind,b0 hu,Result.andThen,Sem.run_bind,b0 hv,Result.andThen,Sem.run_bind,he.run h u v w hur hvr,Result.andThen]
  cases r
  simp
  simpa using ih
theorem jh.of {ps qs:List CP} {fs:Array Field} {rs:List Bool} {r:Bool} (hg:P.eqGuardType P.depth t=false) (hh:P.stoodInHeld t=false) (hu:P.underlying t=some (.struct fs)) (hc:DX P ps qs fs.toList rs) (hr:rs.all id=r):jh P t ps qs r:=by
 have hf:P.fieldsOf t=fs:=by simp[Program.fieldsOf,hu]
 exact⟨hg,fun h cs ds w hp hq=>by
  rw[run_equalIn_struct w 9999 t cs ds (by rw[hf];exact hu) hh,hf,xm hp hq w hc,hr]⟩
def vz (l:List Oper) (listed:List Bool):List Nat:=Region.ready .any l.toArray listed.toArray
def qg (step:Nat->Prop):List Nat->Prop
 | []=>True
 | i::is=>step i/\qg step is
theorem qg.mem {step:Nat->Prop}:∀ {is:List Nat},qg step is->∀ i,i∈is->step i
 | [],_,i,hi=>by simp at hi
 | j::is,h,i,hi=>by
  cases List.mem_cons.1 hi with
  | inl e=>subst e;exact h.1
  | inr e=>exact qg.mem h.2 i e
def chain (P:Program) {TB:aH} (E:Env TB) (n:Sh) (l:List Oper) (Q:bH):Nat->List Bool->St->Prop
 | 0,listed,s=>vz l listed=[]/\Fin E n .normal s Q
 | f+1,listed,s=>vz l listed≠[]/\∀ i,i∈vz l listed->∃ o s',l[i]?=some o/\cb P E n l.toArray o s s'/\chain P E n l Q f (listed.set i true) s'
theorem chain.done {listed:List Bool} (hr:vz l listed=[]) (h:Fin E n .normal s Q):chain P E n l Q 0 listed s:=⟨hr,h⟩
theorem chain.next {f:Nat} {listed:List Bool} (is:List Nat) (hr:vz l listed=is) (hne:is≠[]) (h:qg (fun i=>∃ o s',l[i]?=some o/\cb P E n l.toArray o s s'/\chain P E n l Q f (listed.set i true) s') is):chain P E n l Q (f+1) listed s :=
 ⟨by rw[hr];exact hne,fun i hi=>qg.mem h i (hr▸hi)⟩
abbrev Tab:=List (List Bool×List Nat×St)
def lkT:Tab->List Bool->Option St
 | [],_=>none
 | (b,_,s)::r,c=>if b==c then some s else lkT r c
def HJ (P:Program) {TB:aH} (E:Env TB) (n:Sh) (l:List Oper) (tab:Tab):Tab->Prop
 | []=>True
 | (b,is,s)::r=>(vz l b=is/\(is.isEmpty==b.all id)=true)/\qg (fun i=>∃ o s',l[i]?=some o/\lkT tab (b.set i true)=some s'/\cb P E n l.toArray o s s') is/\HJ P E n l tab r
theorem HJ.get {tab:Tab}:∀ {r:Tab},HJ P E n l tab r->∀ b s,lkT r b=some s->∃ is,vz l b=is/\(is.isEmpty==b.all id)=true/\qg (fun i=>∃ o s',l[i]?=some o/\lkT tab (b.set i true)=some s'/\cb P E n l.toArray o s s') is
 | [],_,b,s,h=>by simp[lkT] at h
 | (c,is,s0)::r,h,b,s,hb=>by
  unfold lkT at hb
  split at hb
  rename_i hc
  have hc':c=b:=by simpa using hc
  subst hc'
  cases hb
  exact⟨is,h.1.1,h.1.2,h.2.1⟩
  exact HJ.get h.2.2 b s hb
end
end Go.Sk
namespace Go.Sk
open Go Go.BigFrame
section
variable {P:Program} {TB:aH} {E:Env TB} {n:Sh} {s s':St} {dst:Option Nat} {t ty yt:TypeId} {pos:String} {after:Array Edge} {g:Option (Nat×Bool)} {x y c:Operand} {ops:Array Oper} {l:List Oper} {Q:bH} {cd:Code}
end
end Go.Sk
namespace Go.Sk
open Go
end Go.Sk
namespace Go.Sk
open Go Go.BigFrame
section
variable {P:Program} {TB:aH} {E:Env TB} {n:Sh} {s s':St} {dst:Option Nat} {t ty yt:TypeId} {pos:String} {after:Array Edge} {g:Option (Nat×Bool)} {x y c:Operand} {ops:Array Oper} {l:List Oper} {Q:bH} {cd:Code}
theorem WR.allocP {h:PH} {ρ:RM} {own:List (Nat×OC)} {w:World} (hw:WR E n own h ρ w) (cs:Array Value) (T:TypeId) (b2:∀ v∈cs.toList,v.oneCell'=true):h.le (dn h w.heap.size cs.toList)/\WR E n own (dn h w.heap.size cs.toList) ρ (w.alloc (.cells cs T)):=by
 have b0:∀ o,h w.heap.size o=none:=fun o=>by
  cases e:h w.heap.size o with
  | none=>rfl
  | some u=>have:=iq (hw.agree _ o u e);omega
 have hle:h.le (dn h w.heap.size cs.toList):=fun b o v hv=>by
  unfold dn
  split
  rename_i e;subst e;rw[b0 o] at hv;simp at hv
  exact hv
 have hold:∀ b,b<w.heap.size->(w.alloc (.cells cs T)).heap[b]?=w.heap[b]?:=fun b hb=>heap_alloc_old w _ hb
 refine⟨hle,?_,PH.le_trans hw.le hle,?_,by have:=hw.size;simp;omega,?_,hw.fixed,hw.os,hw.out,hw.nl,?_⟩
 intro b o v hv
 unfold dn at hv
 split at hv
 rename_i e;subst e
 exact rS (heap_alloc_new w _) (by simpa using hv) (b2 v (List.mem_of_getElem? hv))
 have hc:=hw.agree b o v hv
 rw[mX (hold b (iq hc))];exact hc
 intro b hb hnl
 rw[← hw.fresh b hb hnl]
 funext o
 unfold dn
 rw[if_neg (by have:=hw.size;omega)]
 intro b hb hl
 rw[hold b (Nat.lt_of_lt_of_le hb hw.size)];exact hw.same b hb hl
 intro j c hj
 obtain⟨e1,e2,e3⟩:=hw.owned j c hj
 have b1:∀ i x,(i,x)∈own->∀ b,x.dK (ρ i) _ b->x.dK (ρ i) w b:=fun i x hi b=>OC.dK.congr fun b hb=>hold b ((hw.owned i x hi).1.lt (.inl hb))
 refine⟨(e1.congr fun b hb=>hold b (e1.lt hb)).mono hle,fun b hb=>⟨(e2 b (b1 j c hj b hb)).1,fun o=>?_⟩,fun i x hi hij b hb hb'=>e3 i x hi hij b (b1 j c hj b hb) (b1 i x hi b hb')⟩
 have:=e1.lt (b1 j c hj b hb)
 unfold dn
 rw[if_neg (by omega)]
 exact (e2 b (b1 j c hj b hb)).2 o
theorem tI {e len size bytes:Nat} {zs:List CP} {es:List (List CP)} {parts:Array (Nat×Operand)} {cps:List (Nat×List CP)} (ht:lD P t e size bytes zs) (hp:eV s parts.toList=some cps)
 (hf:iV (fun i=>some (i*size,size)) ((List.range (len*size)).map fun i=>zs.getD (i%size) .any) cps=some es.flatten) (hu:ca size es) (hl:es.length=len) (h0:0<len*size) (h24:len*size<=16777216) :
 aR P E n ⟨dst,.buildSlice t len parts,ty,pos,after,g⟩ s (s.put n dst (.b (.one (.sl size es)))):=by
 intro a w ⟨hdf,hn,h,ρ,hw,hs⟩ next Q b1
 obtain⟨i,z,h1,h2,h3,h4,h5,h6,h7⟩:=ht.info
 have hzr:=oR h h7
 have hzl:zs.length=size:=by rw[hzr.length];simpa using h5
 have b0:=Cq hzr (by omega) (len*size)
 rw[hzl] at b0
 have hzc:((Array.range (len*size)).map (z.cells[·%z.cells.size]!)).toList=(List.range (len*size)).map fun i=>z.cells.toList[i%z.cells.toList.length]!:=by
  rw[Array.toList_map,Array.toList_range]
  refine List.map_congr_left fun j _=>?_
  rw[List.getElem!_eq_getElem?_getD,Array.getElem!_eq_getD]
  simp[Array.getD_eq_getD_getElem?]
 obtain⟨cs,hc1,hc2⟩:=py hs (fun i=>some (i*size,size)) parts.toList cps _ es.flatten ((Array.range (len*size)).map (z.cells[·%z.cells.size]!)) hp hf (by rw[hzc];exact b0)
 have hne:¬ len*size=0:=by omega
 have b3:(Instr.buildSlice t len (parts.map fun (i,x)=>(i,a.eval x))).run P w=.ok (.slice (some ⟨w.heap.size,0,none⟩) len len) (w.alloc (.cells cs e)):=by
  have hmap:(parts.map fun x=>(x.1,a.eval x.2)).toList=parts.toList.map fun p=>(p.1,a.eval p.2):=by simp
  unfold Instr.buildSlice
  rw[Sem.run_bind,run_underlying ht.und,Result.andThen]
  simp only[Sem.run_bind,run_sizeOf h1,h2,Result.andThen_ok]
  rw[if_neg (by omega),if_neg hne]
  simp[zeroValue,typeInfo,h1,h4,hc1,newRow]
 have b2:(execOp a.eval ⟨dst,.buildSlice t len parts,ty,pos,after,g⟩).run P w=.ok (.value (.slice (some ⟨w.heap.size,0,none⟩) len len)) (w.alloc (.cells cs e)):=by
  simp only[execOp]
  simp[b3]
 unfold Oper.wp
 rw[b2]
 obtain⟨hle,hwp⟩:=hw.allocP cs e (aB.one hc2)
 refine b1 _ _ (R.put (s:=s) hdf hn hwp (hs.mono hle) ?_)
 refine⟨hu,h6,.inr (.inl ⟨w.heap.size,0,len,by rw[hl],by omega,?_,fun j c hc=>?_⟩)⟩
 have:len<=len*size:=Nat.le_mul_of_pos_right _ h6
 rw[dk];omega
 obtain⟨u,hu',hr⟩:=hc2.get j c hc
 exact⟨u,by simp only[dn,if_true,Nat.zero_add];exact hu',c.mono hle hr⟩
theorem aI.du {f:FuncId} {args:List BV} {T:TypeId} {size:Nat} {es:List (List CP)} (h:aI P TB f [] args (Is [(0,.row T size es)] (.b (.row 0)))):aI P TB f [] args (Is [] (.b (.one (.sl size es)))):=by
 intro w hh ρ vals tb hag hl b0
 refine (h w hh ρ vals tb hag hl b0).mono ?_
 rintro e w' ⟨v,own',res,h',ρ',rfl,⟨rfl,rfl⟩,hw,b1⟩
 have hR:R ⟨w,hh,ρ,tb⟩ ⟨1,aq [],ai [],[]⟩ ⟨[(0,.b (.row 0))],[(0,.row T size es)]⟩ ⟨#[v],[]⟩ w':=⟨rfl,rfl,h',ρ',WR.sh (n:=⟨0,aq [],ai [],[]⟩) (n':=⟨1,aq [],ai [],[]⟩) rfl rfl hw,fun k x hx=>by
  simp only[List.mem_singleton,Prod.mk.injEq] at hx
  obtain⟨rfl,rfl⟩:=hx
  exact⟨v,by simp,b1⟩⟩
 obtain⟨_,_,h'',ρ'',b2,b3⟩:=hR.im (k:=0) rfl
 obtain⟨u,hu,hur⟩:=b3 0 (.b (.one (.sl size es))) (by simp[qW,SV.du,BV.du])
 have huv:u=v:=by simpa using hu.symm
 subst huv
 exact⟨u,[],_,h'',ρ'',rfl,⟨rfl,rfl⟩,WR.sh (n:=⟨1,aq [],ai [],[]⟩) (n':=⟨0,aq [],ai [],[]⟩) rfl rfl (b2.sub (own':=[]) (by simp)),hur⟩
end
end Go.Sk
namespace Go.Sk
open Go Go.BigFrame
section
variable {P:Program} {TB:aH} {E:Env TB} {n:Sh} {s:St} {dst:Option Nat} {t ty yt:TypeId} {pos:String} {after:Array Edge} {g:Option (Nat×Bool)} {x y c:Operand} {k:IntKind} {a b:Int} {ats:Array TypeId}
theorem op_min (hx:s.ev x=some (.b (.one (.int k a)))) (hy:s.ev y=some (.b (.one (.int k b)))) :
 aR P E n ⟨dst,.call ⟨.builtin .min,#[x,y],ats⟩,ty,pos,after,g⟩ s (s.put n dst (.b (.one (.int k (min a b))))) :=
 aR.val (o:=⟨dst,.call ⟨.builtin .min,#[x,y],ats⟩,ty,pos,after,g⟩) fun ac w h ρ hw hs=>by
  have h1:=bI hs hx
  have h2:=bI hs hy
  refine⟨.int k (min a b),?_,rfl,?_⟩
  rw[execOp_builtin]
  show Sem.run _ _ _=_
  simp only[builtin,Builtin.min_,List.map_toArray,List.map_cons,List.map_nil,h1.1,h2.1,List.foldlM_cons,List.foldlM_nil,Builtin.min2]
  have:(if b<a then b else a)=min a b:=by rw[Int.min_def];split<;>split<;>omega
  rw[this];rfl
  rw[Int.min_def];split
  exact h1.2
  exact h2.2
theorem op_max (hx:s.ev x=some (.b (.one (.int k a)))) (hy:s.ev y=some (.b (.one (.int k b)))) :
 aR P E n ⟨dst,.call ⟨.builtin .max,#[x,y],ats⟩,ty,pos,after,g⟩ s (s.put n dst (.b (.one (.int k (max a b))))) :=
 aR.val (o:=⟨dst,.call ⟨.builtin .max,#[x,y],ats⟩,ty,pos,after,g⟩) fun ac w h ρ hw hs=>by
  have h1:=bI hs hx
  have h2:=bI hs hy
  refine⟨.int k (max a b),?_,rfl,?_⟩
  rw[execOp_builtin]
  show Sem.run _ _ _=_
  simp only[builtin,Builtin.max_,List.map_toArray,List.map_cons,List.map_nil,h1.1,h2.1,List.foldlM_cons,List.foldlM_nil,Builtin.max2]
  have:(if b > a then b else a)=max a b:=by rw[Int.max_def];split<;>split<;>omega
  rw[this];rfl
  rw[Int.max_def];split
  exact h2.2
  exact h1.2
end
end Go.Sk
namespace Go.Sk
open Go Go.ChangeShapes Go.WideShapes Go.ChangeAt Go.RowKit Go.Deep
theorem Hj (W:World):pc (full W) W:=fun _ _ _ h=>h
structure ji (P:Program) (t:TypeId) {α:Type} (e:α->List CP):Prop where
 len:∀ a,(e a).length=P.cellsOf t
 op:∀ {H:Type} {enc:TypeId×Value->H} {W:World} {sp:Nat->Bool} {held:Bool} {fuel:Nat} {cs:List Value} {x:DataW H×List MemPlace},(∀ b,sp b=true)->DataW.trod enc P W 0 sp held fuel t cs=some x->∃ a,aB (full W) (e a) cs
theorem CI {k:IntKind} {n:Int} (h:(Lit.int k n).wf=true):mf k n:=by
 simp only[Lit.wf,Bool.and_eq_true,decide_eq_true_eq] at h
 exact h
theorem ji.int {P:Program} {t:TypeId} {k:IntKind} (ht:P.underlying t=some (.int k)) (hc:P.cellsOf t=1):ji P t (fun x:Int=>[.int k x]) where
 len _:=by simp[hc]
 op _ h:=by
  obtain⟨n,rfl,_,hw⟩:=DataW.trod_int ht h
  exact⟨n,.cons ⟨rfl,CI hw⟩ .nil⟩
theorem ji.bool {P:Program} {t:TypeId} (ht:P.underlying t=some .bool) (hc:P.cellsOf t=1):ji P t eB where
 len _:=by simp[hc,eB]
 op _ h:=by
  obtain⟨n,rfl,_⟩:=DataW.trod_bool ht h
  exact⟨n,.cons rfl .nil⟩
theorem ji.str {P:Program} {t:TypeId} (ht:P.underlying t=some .string) (hc:P.cellsOf t=1):ji P t eS where
 len _:=by simp[hc,eS]
 op _ h:=by
  obtain⟨s,rfl,_,hs⟩:=DataW.trod_string ht h
  refine⟨s.data.toList,.cons ⟨?_,?_⟩ .nil⟩
  cases s with|mk d=>cases d;rfl
  simpa using hs
inductive tf (P:Program) (fs:Array Field) (T:Nat):Nat->Nat->{β:Type}->(β->List CP)->Prop where
 | nil {i:Nat} (hi:fs.size<=i):tf P fs T i T (fun _:Unit=>[])
 | cons {i o:Nat} {α β:Type} {e:α->List CP} {es:β->List CP} {f:Field} (hf:fs[i]?=some f) (ho:f.offset=o) (hr:ji P f.type e) (h:tf P fs T (i+1) (o+P.cellsOf f.type) es):tf P fs T i o (fun x:α×β=>e x.1++es x.2)
theorem tf.len {P:Program} {fs:Array Field} {T i o:Nat} {β:Type} {es:β->List CP} (h:tf P fs T i o es):∀ b,o+(es b).length=T:=by
 induction h with
 | nil hi=>intro b;simp
 | cons hf ho hr h ih=>intro b;have:=ih b.2;have h2:=hr.len b.1;simp only[List.length_append];omega
theorem tf.op {P:Program} {fs:Array Field} {T i o:Nat} {β:Type} {es:β->List CP} (h:tf P fs T i o es) {H:Type} {enc:TypeId×Value->H} {W:World} {sp:Nat->Bool} {held:Bool} {n:Nat} {cs:List Value} {xs:List (DataW H×List MemPlace)} (hsp:∀ b,sp b=true) (hl:cs.length=T)
 (hx:xs.length=fs.size) (hv:∀ (j:Nat) (f:Field),fs[j]?=some f->DataW.trod enc P W 0 sp held n f.type ((cs.drop f.offset).take (P.cellsOf f.type))=xs[j]?):∃ b,aB (full W) (es b) (cs.drop o):=by
 induction h with
 | nil hi=>exact⟨(),by rw[List.drop_of_length_le (by omega)];exact .nil⟩
 | @cons i o α β e es f hf ho hr h ih=>
  obtain⟨b,hb⟩:=ih
  have hi:i<xs.length:=by
   rw[hx]
   exact (Array.getElem?_eq_some_iff.1 hf).1
  have h1:=hv i f hf
  rw[List.getElem?_eq_getElem hi] at h1
  obtain⟨a,ha⟩:=hr.op hsp h1
  refine⟨(a,b),?_⟩
  have e1:cs.drop o=(cs.drop o).take (P.cellsOf f.type)++cs.drop (o+P.cellsOf f.type):=by
   rw[← List.drop_drop,List.take_append_drop]
  rw[e1]
  subst ho
  exact aO.append ha hb
theorem ji.struct {P:Program} {t:TypeId} {fs:Array Field} {α β:Type} {e:α->List CP} {es:β->List CP} (g:β->α) (ht:P.underlying t=some (.struct fs)) (h:tf P fs (P.cellsOf t) 0 0 es) (hl:∀ a,(e a).length=P.cellsOf t) (he:∀ b,e (g b)=es b):ji P t e where
 len:=hl
 op hsp hh:=by
  obtain⟨xs,n,_,_,hcl,hxl,hv⟩:=DataW.trod_struct ht hh
  obtain⟨b,hb⟩:=h.op hsp hcl hxl hv
  exact⟨g b,by rw[he];exact hb⟩
theorem gZ (b o n:Nat):(⟨b,o,none⟩:Addr).add n=⟨b,o+n,none⟩:=by
 unfold Addr.add
 split
 simp_all
 rfl
theorem pK {P:Program} {W:World} {base:Nat} {t e:TypeId} {v:Value} (ht:P.underlying t=some (.slice e)) (hv:Value.okWide P W .any base t v) :
 v=.slice none 0 0∨∃ b o len cap,v=.slice (some ⟨b,o,none⟩) len cap:=by
 simp only[Value.okWide,ht,Cell.okWide] at hv
 cases v<;>simp_all [Cell.ok]
 rename_i a len cap
 cases a with
 | none=>
  left
  cases len with
  | zero=>cases cap with
   | zero=>simp
   | succ _=>simp at hv
  | succ _=>simp at hv
 | some a=>
  right
  cases a with
  | mk b o s=>
   simp only[World.has] at hv
   exact⟨b,o,by simpa using hv.2.2.2.1⟩
theorem kN {α:Type} {p:Nat->α->Prop}:∀ (n:Nat),(∀ i,i<n->∃ a,p i a)->∃ l:List α,l.length=n/\∀ (i:Nat) a,l[i]?=some a->p i a
 | 0,_=>⟨[],rfl,fun i a h=>by simp at h⟩
 | n+1,h=>by
  obtain⟨l,hl,hp⟩:=kN n fun i hi=>h i (by omega)
  obtain⟨a,ha⟩:=h n (by omega)
  refine⟨l++[a],by simp[hl],fun i b hb=>?_⟩
  by_cases hi:i<n
  rw[List.getElem?_append_left (by omega)] at hb;exact hp i b hb
  have hi2:i<(l++[a]).length:=(List.getElem?_eq_some_iff.1 hb).1
  have e:i=n:=by simp[hl] at hi2;omega
  subst e
  rw[List.getElem?_append_right (by omega)] at hb
  simp[hl] at hb
  subst hb;exact ha
def lenIs {H:Type} (d:DataW H) (n:Nat):Prop:=(d=.nil/\n=0)∨∃ els spare,d=.slice els spare/\els.length=n
theorem open_sl {P:Program} {H:Type} {enc:TypeId×Value->H} {W:World} {base:Nat} {sp:Nat->Bool} {held:Bool} {t el:TypeId} {α:Type} {e:α->List CP} {v:Value} {d:DataW H} {ps:List MemPlace} (ht:P.underlying t=some (.slice el)) (hr:ji P el e) {size:Nat} (hs:P.cellsOf el=size) (b0:0<size)
 (b1:Value.okWide P W .any base t v) (h:DataW.Trod enc P W 0 sp held t v d ps) (hsp:∀ b,sp b=true:=by intro _;rfl):∃ l:List α,(CP.sl size (l.map e)).rel (full W) v/\lenIs d l.length:=by
 obtain⟨fuel,hf⟩:=h
 subst hs
 have hu:∀ l:List α,ca (P.cellsOf el) (l.map e):=fun l=>jN fun x=>hr.len x
 have hc:v.cells.toList=[v]:=by
  rcases pK ht b1 with rfl|⟨b,o,len,cap,rfl⟩<;>rfl
 rw[hc] at hf
 rcases open_slice ht hf with ⟨h1,hx0⟩|⟨a,len,cap,m,n,D,Pl,h1,hb,hl,hm,hmm,hx,hi⟩
 simp at h1
 exact⟨[],⟨hu [],b0,.inl ⟨h1,rfl⟩⟩,.inl ⟨congrArg Prod.fst hx0,rfl⟩⟩
 simp at h1
 subst h1
 have hlm:len<=m:=by rw[hmm];split<;>omega
 obtain⟨l,c3,hp⟩:=kN (p:=fun i a'=>aB (full W) (e a') ((W.cells? 0 (a.add (i*P.cellsOf el)) (P.cellsOf el)).getD [])) len fun i hil=>by
  obtain⟨cs',h2,h3⟩:=hi i (by omega)
  obtain⟨a',ha'⟩:=hr.op hsp h3
  exact⟨a',by rw[h2];exact ha'⟩
 rcases pK ht b1 with h0|⟨b,o,len',cap',h0⟩
 simp at h0
 simp only[Value.slice.injEq,Option.some.injEq] at h0
 obtain⟨rfl,rfl,rfl⟩:=h0
 refine⟨l,⟨hu l,b0,.inr (.inl ⟨b,o,cap,by simp[c3],by simp[c3];omega,hm,?_⟩)⟩,.inr ⟨_,_,congrArg Prod.fst hx,by simp[c3]⟩⟩
 intro j c hj
 have hjl:j<(l.map e).flatten.length:=(List.getElem?_eq_some_iff.1 hj).1
 rw[gp (hu l),List.length_map,c3] at hjl
 have hi':j/P.cellsOf el<len:=by
  rw[Nat.div_lt_iff_lt_mul b0];exact hjl
 have hj':j%P.cellsOf el<P.cellsOf el:=Nat.mod_lt _ b0
 have hdm:=Nat.div_add_mod j (P.cellsOf el)
 obtain⟨cs',h2,h3⟩:=hi (j/P.cellsOf el) (by omega)
 have hli:l[j/P.cellsOf el]?=some (l[j/P.cellsOf el]'(by omega)):=List.getElem?_eq_getElem (by omega)
 have b2:=hp _ _ hli
 rw[h2] at b2
 have b3:=jo (hu l) (j/P.cellsOf el) (e (l[j/P.cellsOf el]'(by omega))) (by rw[List.getElem?_map,hli];rfl) (j%P.cellsOf el) hj'
 have ej:j/P.cellsOf el*P.cellsOf el+j%P.cellsOf el=j:=by rw[Nat.mul_comm];omega
 rw[ej,hj] at b3
 obtain⟨u,hu1,hu2⟩:=aO.get b2 _ _ b3.symm
 refine⟨u,?_,hu2⟩
 obtain⟨_,hcl,c2⟩:=World.cells?_some h2
 have:=c2 _ hj'
 simp only[Option.getD_some] at hu1
 have ea:((⟨b,o,none⟩:Addr).add (j/P.cellsOf el*P.cellsOf el)).add (j%P.cellsOf el)=⟨b,o+j,none⟩:=by
  rw[gZ,gZ,Nat.add_assoc,ej]
 rw[hu1,ea] at this
 exact gr this (CP.one _ hu2)
structure Kept (W W':World):Prop where
 os:W'.os=W.os
 out:W'.output=W.output
 heap:∀ b,b<W.heap.size->W'.heap[b]?=W.heap[b]?
theorem Kept.same {W W':World} (h:Kept W W') {p:MemPlace} (hp:p.block<W.heap.size):W.sameAt W' p:=by
 have:=h.heap _ hp
 cases p with
 | cell b o=>simp only[MemPlace.block] at this;simp[World.sameAt,World.cell?,this]
 | map b=>simp only[MemPlace.block] at this;simp[World.sameAt,this]
theorem Kept.keptBut {W W':World} (h:Kept W W') (may:MemPlace->Prop):W.keptBut W' may:=by
 refine⟨h.os,h.out,fun i hi=>?_⟩
 rw[h.heap i hi]
 cases W.heap[i]? with
 | none=>rfl
 | some o=>cases o with
  | cells c t fr=>exact⟨rfl,rfl,rfl,fun _ _=>rfl⟩
  | map es c=>exact .inr ⟨rfl,rfl⟩
  | _=>rfl
theorem u0 {P:Program} {H:Type} {enc:TypeId×Value->H} {W W':World} {base:Nat} {sp:Nat->Bool} {held:Bool}:∀ {ts:List TypeId} {vs:List Value} {ds:List (DataW H)} {ps:List MemPlace},DataW.TrodAll enc P W base sp held ts vs ds ps->(∀ p∈ps,W.sameAt W' p)->DataW.TrodAll enc P W' base sp held ts vs ds ps
 | [],[],[],_,h,_=>h
 | _::_,_::_,_::_,_,⟨p,q,⟨n,h1⟩,h2,e⟩,hs=>⟨p,q,⟨n,DataW.trod_carry n _ _ _ h1 fun x hx=>hs x (by rw[e];exact List.mem_append_left _ hx)⟩,u0 h2 (fun x hx=>hs x (by rw[e];exact List.mem_append_right _ hx)),e⟩
theorem D1 {P:Program} {H:Type} {enc:TypeId×Value->H} {f:Func} {s:ChangeSpec} {apart fresh handsOn again:Bool} {W W':World} {args:Array Value} {v:Value} {ds gs:List (DataW H)} {before:List MemPlace}
 {T:TypeId->Prop} (K:Kids P T) (hz:∀ t e,T t->P.underlying t=some (.slice e)->0<P.cellsOf e) (hT:∀ t∈f.params.toList,T t)
 (hW:DataW.Whole enc P f.params.toList s.vars apart W args.toList ds gs before) (hv0:s.vars=[])
 (ha:(s.fn H (ds++gs)).args=ds) (hvv:(s.fn H (ds++gs)).vars=[]) (hk:Kept W W')
 (b3:∀ (b:Nat) (sp:Nat->Bool) (hd:Bool),DataW.TrodAll enc P W' b sp hd f.resultTypes.toList (v.resultList f.resultTypes.size) (s.fn H (ds++gs)).results [])
 (hok:∀ (j:Nat) (t:TypeId) (r:Value),f.resultTypes[j]?=some t->(v.resultList f.resultTypes.size)[j]?=some r->Value.okWide P W' .any 0 t r) :
 s.post enc P f apart fresh handsOn again W args v W':=by
 have c2:=hW.lt
 have hW2:=hW
 obtain⟨p,q,h1,h2,rfl,hz2,hn⟩:=hW2
 rw[hv0] at h2
 obtain⟨_,rfl⟩:=trodVars_none h2
 simp only[List.append_nil] at *
 have b2:DataW.TrodAll enc P W' 0 (fun _=>true) true f.params.toList args.toList ds p:=u0 h1 fun x hx=>hk.same (c2 x hx)
 have b0:∀ sp:Nat->Bool,(∀ x∈p,sp x.block=true)->DataW.TrodAll enc P W' 0 sp true f.params.toList args.toList (s.fn H (ds++gs)).args p:=fun sp hsp=>by
  rw[ha];exact b2.respare K hz hT hsp
 have b1:∀ sp:Nat->Bool,DataW.TrodVars enc P W' sp s.vars (s.fn H (ds++gs)).vars []:=fun sp=>by
  rw[hv0,hvv];rfl
 have hold:∀ x∈p,(fun b=>decide (b<W.heap.size)) x.block=true:=fun x hx=>by simpa using c2 x hx
 refine⟨ds,gs,p,[],p,[],hW,b3 _ _ _,b0 _ hold,b1 _,hk.keptBut _,fun _=>?_⟩
 refine⟨hok,_,_,([]++p)++[],⟨[]++p,[],trodAll_append (b0 _ (fun _ _=>rfl)) (b3 _ _ _),b1 _,rfl,?_,?_⟩,?_⟩
 intro b off hp
 have hb:b<W.heap.size:=c2 (.cell b off) (by simpa using hp)
 have e:W'.frozen? ⟨b,off,none⟩=W.frozen? ⟨b,off,none⟩:=by simp only[World.frozen?,hk.heap b hb]
 rw[e]
 exact hz2 b off (by simpa using hp)
 intro ha
 simpa using hn ha
 intro x hx _
 simpa using hx
theorem law_end {P:Program} {TB:aH} {f:FuncId} {args:List BV} {vals:List Value} {W:World} {Q:Ending->World->Prop} (hm:aI P TB f [] args (Is [] (B true))) (htb:cC TB (full W) W) (ha:aO (fun (x:BV) v=>x.rel (full W) (fun _=>.bool false) v) args vals)
 (hQ:∀ W',Kept W W'->Q (.returned (.bool true)) W'):Calls P f vals.toArray W Q:=by
 refine (hm W (full W) (fun _=>.bool false) vals htb (Hj W) (fun k c h=>by simp at h) ha).mono ?_
 rintro e W' ⟨v,own',res,h',ρ',rfl,⟨rfl,rfl⟩,hw,b0⟩
 have hv:v=.bool true:=b0
 subst hv
 exact hQ W' ⟨hw.os,hw.out,fun b hb=>hw.same b hb (by simp[ry,ai])⟩
end Go.Sk
namespace Go.Sk
open Go Go.BigFrame
section
variable {P:Program} {TB:aH} {E:Env TB} {n:Sh} {s s':St} {dst:Option Nat} {t ty yt:TypeId} {pos:String} {after:Array Edge} {g:Option (Nat×Bool)} {x y c:Operand} {ops:Array Oper} {l:List Oper} {Q:bH} {cd:Code}
theorem aB.KJ {h:PH} {size:Nat} (hz:0<size):∀ {ps:List CP} {cs:List Value} (i:Nat),ps[i]?=some .nil->aB h ps cs->aB h (ps.set i (.sl size [])) cs
 | [],_,i,hi,hc=>by simp at hi
 | p::ps,_,0,hi,.cons h1 h2=>by
  simp at hi;subst hi
  exact .cons ⟨fun q hq=>by simp at hq,hz,.inl ⟨h1.1,rfl⟩⟩ h2
 | p::ps,_,i+1,hi,.cons h1 h2=>.cons h1 (aB.KJ hz i (by simpa using hi) h2)
theorem R.pf {k i size:Nat} {T:TypeId} {ps:List CP} {a:Act} {w:World} (hr:R E n s a w) (hk:lk s.own k=some (.box T ps)) (hi:ps[i]?=some .nil) (hz:0<size):R E n ⟨s.slots,ins k (.box T (ps.set i (.sl size []))) s.own⟩ a w:=by
 obtain⟨h1,h2,h,ρ,hw,hs⟩:=hr
 refine⟨h1,h2,h,ρ,⟨hw.agree,hw.le,hw.fresh,hw.size,hw.same,hw.fixed,hw.os,hw.out,hw.nl,?_⟩,hs⟩
 intro j x hx
 have b2:=hw.owned k _ (bj hk)
 have back:∀ j' x',(j',x')∈ins k (OC.box T (ps.set i (.sl size []))) s.own->∃ x'',(j',x'')∈s.own/\∀ b,x'.dK (ρ j') w b->x''.dK (ρ j') w b:=fun j' x' hm=>by
  rcases iW hm with ⟨rfl,rfl⟩|⟨_,hm⟩
  exact⟨_,bj hk,fun b hb=>hb⟩
  exact⟨_,hm,fun b hb=>hb⟩
 rcases iW hx with ⟨rfl,rfl⟩|⟨b1,hm⟩
 refine⟨?_,b2.2.1,fun k' c' b3 b1=>?_⟩
 obtain⟨b,cur,e1,e2,e3⟩:=b2.1
 exact⟨b,cur,e1,e2,e3.KJ hz i hi⟩
 obtain⟨c2,b0,c3⟩:=back k' c' b3
 exact fun b hb c4=>b2.2.2 k' c2 b0 b1 b hb (c3 b c4)
 have hj:=hw.owned j _ hm
 refine⟨hj.1,hj.2.1,fun k' c' b3 b1=>?_⟩
 obtain⟨c2,b0,c3⟩:=back k' c' b3
 exact fun b hb c4=>hj.2.2 k' c2 b0 b1 b hb (c3 b c4)
theorem Fin.pf {e:Exit} (k i size:Nat) {T:TypeId} {ps:List CP} (hk:lk s.own k=some (.box T ps)) (hi:ps[i]?=some .nil) (hz:0<size) (h:Fin E n e ⟨s.slots,ins k (.box T (ps.set i (.sl size []))) s.own⟩ Q):Fin E n e s Q :=
 fun a w hr=>h a w (hr.pf hk hi hz)
end
section
variable {P:Program} {TB:aH} {E:Env TB} {n:Sh} {s s' s2:St} {l:List Oper} {Q:bH} {o:Oper}
end
end Go.Sk
namespace Go.Sk
open Go Go.BigFrame
section
variable {P:Program} {TB:aH} {E:Env TB} {n:Sh} {s s':St} {dst:Option Nat} {t ty yt:TypeId} {pos:String} {after:Array Edge} {g:Option (Nat×Bool)} {x y c:Operand} {ops:Array Oper} {l:List Oper} {Q:bH} {cd:Code}
theorem w7 {size:Nat}:∀ {es:List (List CP)},ca size es->∀ i,(es.take i).flatten=es.flatten.take (i*size)
 | [],_,i=>by simp
 | p::es,hu,0=>by simp
 | p::es,hu,i+1=>by
  have hp:p.length=size:=hu p (by simp)
  have ih:=w7 (es:=es) (fun q hq=>hu q (by simp[hq])) i
  have e:(i+1)*size=p.length+i*size:=by rw[Nat.add_mul,hp];omega
  rw[List.take_succ_cons,List.flatten_cons,ih,List.flatten_cons,e,List.take_length_add_append]
theorem xn {size:Nat}:∀ {es:List (List CP)},ca size es->∀ i,(es.drop i).flatten=es.flatten.drop (i*size)
 | [],_,i=>by simp
 | p::es,hu,0=>by simp
 | p::es,hu,i+1=>by
  have hp:p.length=size:=hu p (by simp)
  have ih:=xn (es:=es) (fun q hq=>hu q (by simp[hq])) i
  have e:(i+1)*size=p.length+i*size:=by rw[Nat.add_mul,hp];omega
  rw[List.drop_succ_cons,ih,List.flatten_cons,e,List.drop_length_add_append]
end
end Go.Sk
namespace Go.Sk
open Go Go.BigFrame
section
variable {P:Program} {TB:aH} {E:Env TB} {n:Sh} {s s':St} {dst:Option Nat} {t ty yt:TypeId} {pos:String} {after:Array Edge} {g:Option (Nat×Bool)} {x y c:Operand} {ops:Array Oper} {l:List Oper} {Q:bH} {cd:Code}
end
end Go.Sk
namespace Go.Sk
open Go Go.BigFrame
structure Ext (P:Program) (f:FuncId) (e:Array Value->Sem Value):Prop where
 ok:∃ fn,P.funcs[f]?=some fn/\(fn.name == "runtime.NumGoroutine")=false/\fn.body.isNone=true/\Extern.findNext fn=none/\Extern.find fn=some e
theorem Ext.run {P:Program} {f:FuncId} {e:Array Value->Sem Value} (h:Ext P f e) (args:Array Value) (w:World):(callFunc f args).run P w=((e args).run P w).andThen fun v w'=>.ok (.value v) w':=by
 obtain⟨fn,h1,h2,h3,h4,h5⟩:=h.ok
 exact run_callFunc_extern h1 h2 h3 h4 h5 args w
section
variable {P:Program} {TB:aH} {E:Env TB} {n:Sh} {s s':St} {dst:Option Nat} {t ty yt:TypeId} {pos:String} {after:Array Edge} {g:Option (Nat×Bool)} {x y c:Operand} {ats:Array TypeId}
end
end Go.Sk
namespace Go.Sk
open Go
section
variable {P:Program} {TB:aH} {E:Env TB} {n:Sh} {s s':St} {ops:Array Oper} {l:List Oper} {Q:bH}
end
end Go.Sk
namespace Go.Sk
open Go
def bA {α β:Type} (a:α) (k:α->β):β:=k a
@[reducible] def qz {α β γ:Type} (f:α->β->γ) (z:α×β):γ:=f z.1 z.2
@[reducible] def Hl {α β γ δ:Type} (f:α->β->γ->δ) (z:α×β×γ):δ:=f z.1 z.2.1 z.2.2
@[reducible] def un4 {α β γ δ ε:Type} (f:α->β->γ->δ->ε) (z:α×β×γ×δ):ε:=f z.1 z.2.1 z.2.2.1 z.2.2.2
@[reducible] def un5 {α β γ δ ε ζ:Type} (f:α->β->γ->δ->ε->ζ) (z:α×β×γ×δ×ε):ζ:=f z.1 z.2.1 z.2.2.1 z.2.2.2.1 z.2.2.2.2
@[reducible] def un6 {α β γ δ ε ζ η:Type} (f:α->β->γ->δ->ε->ζ->η) (z:α×β×γ×δ×ε×ζ):η:=f z.1 z.2.1 z.2.2.1 z.2.2.2.1 z.2.2.2.2.1 z.2.2.2.2.2
@[reducible] def un7 {α β γ δ ε ζ η θ:Type} (f:α->β->γ->δ->ε->ζ->η->θ) (z:α×β×γ×δ×ε×ζ×η):θ:=f z.1 z.2.1 z.2.2.1 z.2.2.2.1 z.2.2.2.2.1 z.2.2.2.2.2.1 z.2.2.2.2.2.2
@[reducible] def un8 {α β γ δ ε ζ η θ κ:Type} (f:α->β->γ->δ->ε->ζ->η->θ->κ) (z:α×β×γ×δ×ε×ζ×η×θ):κ:=f z.1 z.2.1 z.2.2.1 z.2.2.2.1 z.2.2.2.2.1 z.2.2.2.2.2.1 z.2.2.2.2.2.2.1 z.2.2.2.2.2.2.2
@[reducible] def un0 {γ:Type} (f:γ) (_:Unit):γ:=f
@[reducible] def cz {α β γ:Type} (f:α->γ) (g:β->γ) (z:α⊕β):γ:=match z with|.inl x=>f x|.inr y=>g y
def iter {σ τ:Type}:Nat->(σ->Option (σ⊕τ))->σ->Option τ
 | 0,_,_=>none
 | n+1,body,s=>(body s).bind (cz (iter n body) some)
def aD {α:Type} [Inhabited α] (xs:List α) (i:Int):Option α:=if 0<=i/\i<xs.length then some (idx xs i) else none
def bU {α:Type} (xs ys:List α):Option (List α):=if xs.length+ys.length<=1000000000 then some (xs++ys) else none
def p6 {α:Type} (xs:List α) (i:Int):Option (List α):=if 0<=i/\i<=xs.length then some (xs.drop i.toNat) else none
def s6 {α:Type} (xs:List α) (i:Int):Option (List α):=if 0<=i/\i<=xs.length then some (xs.take i.toNat) else none
def o9 (k:IntKind) (a b:Int):Option Int:=if b=0 then none else some (k.wrap (a.tdiv b))
def lG (a b:Int):Option Int:=if b=0 then none else some (a.tmod b)
def aW {α:Type} [Inhabited α] (g:Bool) (m:Option α):Option α:=if g then m else some default
def Ew (b:Bool):Option Unit:=if b then some () else none
theorem aK {α β:Type} {m:Option α} {k:α->Option β} {r:β} (h:m.bind k=some r):∃ x,m=some x/\k x=some r:=by
 cases m with
 | none=>simp at h
 | some x=>exact⟨x,rfl,h⟩
theorem gc {α:Type} [Inhabited α] {g:Bool} {m:Option α} {x:α} (h:aW g m=some x) (hg:g=true):m=some x:=by subst hg;exact h
theorem fE {α:Type} [Inhabited α] {xs:List α} {i:Int} {x:α} (h:aD xs i=some x):0<=i:=by
 unfold aD at h;split at h
 exact (by assumption:0<=i/\_).1
 simp at h
theorem np {α:Type} [Inhabited α] {xs:List α} {i:Int} {x:α} (h:aD xs i=some x):i<xs.length:=by
 unfold aD at h;split at h
 exact (by assumption:0<=i/\_).2
 simp at h
theorem ix_eq {α:Type} [Inhabited α] {xs:List α} {i:Int} {x:α} (h:aD xs i=some x):idx xs i=x:=by
 unfold aD at h;split at h
 simpa using h
 simp at h
theorem pg {α:Type} [Inhabited α] {xs:List α} {i:Int} {x:α} (h:aD xs i=some x):xs[i.toNat]?=some x:=by
 rw[idx_eq (fE h) (np h),ix_eq h]
theorem rD {α β:Type} [Inhabited α] {xs:List α} {i:Int} {x:α} {e:α->β} (h:aD xs i=some x):(xs.map e)[i.toNat]?=some (e x):=by
 rw[List.getElem?_map,pg h];rfl
theorem ix_lt {α β:Type} [Inhabited α] {xs:List α} {i:Int} {x:α} {e:α->β} (h:aD xs i=some x):i.toNat<(xs.map e).length:=by
 have:=fE h;have:=np h;simp;omega
theorem Db {α β:Type} [Inhabited α] {xs:List α} {i:Int} {x:α} {e:α->β} (h:aD xs i=some x):i<((xs.map e).length:Int):=by
 have:=np h;simpa using this
theorem zT {α:Type} [Inhabited α] {xs:List α} {i:Int} (h0:0<=i) (h1:i<xs.length):aD xs i=some (idx xs i):=by simp[aD,h0,h1]
theorem lO {α:Type} {xs ys z:List α} (h:bU xs ys=some z):xs.length+ys.length<=1000000000:=by
 unfold bU at h;split at h
 assumption
 simp at h
theorem qI {α:Type} {xs ys z:List α} (h:bU xs ys=some z):xs++ys=z:=by
 unfold bU at h;split at h
 simpa using h
 simp at h
theorem qe {α:Type} {xs ys z:List α} {e:α->List CP} (h:bU xs ys=some z):xs.map e++ys.map e=z.map e:=by rw[← qI h,List.map_append]
theorem yO {α β:Type} {xs ys z:List α} {e:α->β} (h:bU xs ys=some z) {bytes:Nat} (hb:bytes<=140737:=by decide):((xs.map e).length+(ys.map e).length)*bytes<=140737488355328:=by
 have:=lO h
 simp only[List.length_map]
 calc (xs.length+ys.length)*bytes<=1000000000*140737:=Nat.mul_le_mul this hb
  _<=_:=by decide
theorem yN {α β:Type} {xs ys z:List α} {e:α->β} (h:bU xs ys=some z):(xs.map e).length+(ys.map e).length<=9223372036854775807:=by
 have:=lO h
 simp only[List.length_map];omega
theorem DW {α:Type} {xs ys:List α} (h:xs.length+ys.length<=1000000000):bU xs ys=some (xs++ys):=by simp[bU,h]
theorem IF {α:Type} {xs z:List α} {i:Int} (h:p6 xs i=some z):0<=i/\i<=xs.length/\xs.drop i.toNat=z:=by
 unfold p6 at h;split at h
 next hh=>exact⟨hh.1,hh.2,by simpa using h⟩
 simp at h
theorem H0 {α:Type} {xs z:List α} {i:Int} (h:s6 xs i=some z):0<=i/\i<=xs.length/\xs.take i.toNat=z:=by
 unfold s6 at h;split at h
 next hh=>exact⟨hh.1,hh.2,by simpa using h⟩
 simp at h
theorem quo_ok {k:IntKind} {a b z:Int} (h:o9 k a b=some z):b≠0/\k.wrap (a.tdiv b)=z:=by
 unfold o9 at h;split at h
 simp at h
 exact⟨by assumption,by simpa using h⟩
theorem rem_ok {a b z:Int} (h:lG a b=some z):b≠0/\a.tmod b=z:=by
 unfold lG at h;split at h
 simp at h
 exact⟨by assumption,by simpa using h⟩
section
variable {σ τ:Type} {body:σ->Option (σ⊕τ)}
theorem yr {s:σ}:iter 0 body s=none:=rfl
theorem gi {n:Nat} {s:σ}:iter (n+1) body s=(body s).bind (cz (iter n body) some):=rfl
theorem Jw (I:σ->Prop) (μ:σ->Nat) (bH:τ->Prop) (step:∀ s,I s->∃ o,body s=some o/\(∀ s',o=.inl s'->I s'/\μ s'<μ s)/\∀ t,o=.inr t->bH t) :
 ∀ (n:Nat) (s:σ),I s->μ s<n->∃ t,iter n body s=some t/\bH t:=by
 intro n
 induction n with
 | zero=>intro s _ h;omega
 | succ n ih=>
  intro s hI hlt
  obtain⟨o,ho,h1,h2⟩:=step s hI
  rw[gi,ho]
  cases o with
  | inl s'=>obtain⟨hI',hm⟩:=h1 s' rfl;exact ih s' hI' (by omega)
  | inr t=>exact⟨t,rfl,h2 t rfl⟩
end
theorem neg_dec {p:Prop} [Decidable p]:(!decide p)=decide (¬ p):=by simp
section
variable {P:Program} {TB:aH} {E:Env TB} {n:Sh} {ops:Array Oper} {l:List Oper} {s s':St} {Q:bH} {o:Oper} {c x y:Code}
theorem aj.EE {α:Type} (k:IntKind) {a:Int} {K:Int->Option α} {r:α} (h:bA a K=some r) (hg:o.guard=none) (h1:aR P E n o s (s.put n o.dst (.b (.one (.int k a)))))
 (H:∀ z,K z=some r->aj P E n ops l (s.put n o.dst (.b (.one (.int k z)))) Q):aj P E n ops (o::l) s Q:=aj.cons hg h1 (H a h)
theorem aj.Kl {α:Type} {a:Bool} {K:Bool->Option α} {r:α} (h:bA a K=some r) (hg:o.guard=none) (h1:aR P E n o s (s.put n o.dst (.b (.one (.bool a)))))
 (H:∀ z,K z=some r->aj P E n ops l (s.put n o.dst (.b (.one (.bool z)))) Q):aj P E n ops (o::l) s Q:=aj.cons hg h1 (H a h)
theorem ah.ite {α:Type} {t:Nat} {b:Bool} {A B:Option α} {r:α} (h:(if b=true then A else B)=some r) (hs:s.get t=some (.b (.one (.bool b)))) (h1:b=true->A=some r->ah P E n x s Q) (h2:b=false->B=some r->ah P E n y s Q):ah P E n (.cond (.tmp t) x y) s Q:=by
 refine ah.cond hs (fun e=>h1 e ?_) (fun e=>h2 e ?_)
 subst e;exact h
 subst e;exact h
theorem ah.o8 {σ τ:Type} {v:τ} (S:σ->St) (al:σ->τ) (h1:ah P E n x s (Exit.then (fun a w=>∃ z,v=al z/\R E n (S z) a w) Q)) (h2:∀ z,v=al z->ah P E n y (S z) Q):ah P E n (.seq x y) s Q:=by
 refine ah.seq fun a w hr=>?_
 refine Code.wp_mono (fun e a' w' he=>?_) (h1 a w hr)
 cases e with
 | normal=>obtain⟨z,hz,hr'⟩:=he;exact h2 z hz a' w' hr'
 | exit id=>exact he
 | goto l=>exact he
 | ret=>exact he
 | panic ch=>exact he
 | outgrown=>exact he
theorem Fin.join {σ τ:Type} {v:τ} {S:σ->St} {al:σ->τ} (ks kos:List Nat) (z:σ) (hv:al z=v) (hs:s.keep ks kos=S z):Fin E n .normal s (Exit.then (fun a w=>∃ z,v=al z/\R E n (S z) a w) Q) :=
 fun _ _ hr=>⟨z,hv.symm,hs▸hr.keep ks kos⟩
theorem ah.qX {σ τ:Type} {F:Nat} {body:σ->Option (σ⊕τ)} {s0:σ} {v:τ} (h:iter F body s0=some v) (S:σ->St) (ks kos:List Nat) (hs:s.keep ks kos=S s0)
 (round:∀ z o,body z=some o->(∀ y,o=.inr y->y=v)->ah P E n c (S z) (Exit.then (fun a w=>∃ z',o=.inl z'/\R E n (S z') a w) Q)):ah P E n (.loop c) s Q:=by
 refine ah.keep ks kos hs ?_
 refine ah.loop (ι:=σ×Nat) (fun j=>S j.1) (fun j=>iter j.2 body j.1=some v) (fun j=>j.2) (s0,F) h rfl ?_
 rintro⟨z,m⟩ hj
 dsimp only at hj ⊢
 cases m with
 | zero=>simp[yr] at hj
 | succ m=>
  rw[gi] at hj
  obtain⟨o,ho,hj⟩:=aK hj
  intro a w hr
  refine Code.wp_mono (fun e a' w' he=>?_) (round z o ho (fun y hy=>by subst hy;exact zaa hj) a w hr)
  cases e with
  | normal=>obtain⟨z',hz,hr'⟩:=he;subst hz;exact⟨(z',m),hj,Nat.lt_succ_self m,hr'⟩
  | exit id=>exact he
  | goto l=>exact he
  | ret=>exact he
  | panic ch=>exact he
  | outgrown=>exact he
theorem Fin.kq {σ τ:Type} {o:σ⊕τ} {S:σ->St} (ks kos:List Nat) (z:σ) (hv:.inl z=o) (hs:s.keep ks kos=S z):Fin E n .normal s (Exit.then (fun a w=>∃ z',o=.inl z'/\R E n (S z') a w) Q) :=
 fun _ _ hr=>⟨z,hv.symm,hs▸hr.keep ks kos⟩
end
end Go.Sk
namespace Go.Sk
open Go
section
variable {P:Program} {TB:aH} {E:Env TB} {n:Sh} {s s':St} {dst:Option Nat} {t ty yt:TypeId} {pos:String} {after:Array Edge} {g:Option (Nat×Bool)} {x y c:Operand} {k:IntKind} {a b:Int} {ops:Array Oper} {l:List Oper} {Q:bH} {cd:Code}
theorem op_rem2 {z:Int} (h:lG a b=some z) (hx:s.ev x=some (.b (.one (.int k a)))) (hy:s.ev y=some (.b (.one (.int k b)))):aR P E n ⟨dst,.binOp .rem t x y yt,ty,pos,after,g⟩ s (s.put n dst (.b (.one (.int k z)))):=by
 obtain⟨h1,rfl⟩:=rem_ok h
 exact op_rem h1 hx hy
theorem op_quo2 {z:Int} (h:o9 k a b=some z) (hx:s.ev x=some (.b (.one (.int k a)))) (hy:s.ev y=some (.b (.one (.int k b)))):aR P E n ⟨dst,.binOp .quo t x y yt,ty,pos,after,g⟩ s (s.put n dst (.b (.one (.int k z)))):=by
 obtain⟨h1,rfl⟩:=quo_ok h
 exact aR.val (o:=⟨dst,.binOp .quo t x y yt,ty,pos,after,g⟩) fun ac w h' ρ hw hs=>by
  refine⟨.int k (k.wrap (a.tdiv b)),?_,rfl,lP _ _⟩
  simp only[execOp,(bI hs hx).1,(bI hs hy).1]
  simp[eqGuard,binOp,Op.intDiv,h1]
theorem y4 {u v z:Str} (h:bU u v=some z) (hx:s.ev x=some (.b (.one (.str u)))) (hy:s.ev y=some (.b (.one (.str v)))):aR P E n ⟨dst,.binOp .add t x y yt,ty,pos,after,g⟩ s (s.put n dst (.b (.one (.str z)))):=by
 have h1:=lO h
 have h2:=qI h
 subst h2
 exact G4 (by omega) hx hy
theorem gq {src d:TypeId} {k k0:IntKind} {a:Int} (b0:P.underlying src=some (.int k0)) (ht:P.underlying d=some (.int k)) (hx:s.ev x=some (.b (.one (.int k0 a)))) :
 aR P E n ⟨dst,.convert src d x,ty,pos,after,g⟩ s (s.put n dst (.b (.one (.int k (k.wrap a))))) :=
 aR.val (o:=⟨dst,.convert src d x,ty,pos,after,g⟩) fun ac w h' ρ hw hs=>by
  refine⟨.int k (k.wrap a),?_,rfl,lP _ _⟩
  simp only[execOp,(bI hs hx).1]
  simp[convert,run_underlying b0,run_underlying ht,Conv.intToInt]
theorem op_shr2 {k2:IntKind} {m:Nat} (hm:m<=k.bits) (hx:s.ev x=some (.b (.one (.int k a)))) (hy:s.ev y=some (.b (.one (.int k2 (m:Int))))) {q:Int} (hq:a/2 ^ m=q) :
 aR P E n ⟨dst,.binOp .shr t x y yt,ty,pos,after,g⟩ s (s.put n dst (.b (.one (.int k q)))) :=
 aR.val (o:=⟨dst,.binOp .shr t x y yt,ty,pos,after,g⟩) fun ac w h' ρ hw hs=>by
  have hra:=(bI hs hx).2
  have b0:(0:Int)<2 ^ m:=Int.pow_pos (by decide)
  refine⟨.int k q,?_,rfl,?_⟩
  have b1:min m k.bits=m:=Nat.min_eq_left hm
  have hd:a.fdiv (2 ^ m)=q:=by rw[← hq,Int.fdiv_eq_ediv_of_nonneg _ (Int.pow_nonneg (by decide))]
  simp only[execOp,(bI hs hx).1,(bI hs hy).1]
  have b2:¬ ((m:Int)<0):=by omega
  simp[eqGuard,binOp,Op.shift,b1,hd,b2]
  unfold mf at hra ⊢
  have h5:k.min<=0:=by cases k<;>simp[IntKind.min,IntKind.signed,IntKind.bits]
  have h6:0<=k.max:=by cases k<;>simp[IntKind.max,IntKind.signed,IntKind.bits]
  subst hq
  by_cases h0:0<=a
  have h1:0<=a/2 ^ m:=Int.ediv_nonneg h0 (Int.le_of_lt b0)
  have h2:a/2 ^ m<=a:=Int.ediv_le_self _ h0
  omega
  have h1:a/2 ^ m<=0:=by
   have:=Int.ediv_neg_of_neg_of_pos (by omega:a<0) b0;omega
  have h2:a<=a/2 ^ m:=by
   rw[Int.le_ediv_iff_mul_le b0]
   have h3:(1:Int)<=2 ^ m:=by omega
   have h4:a*2 ^ m<=a*1:=Int.mul_le_mul_of_nonpos_left (by omega) h3
   omega
  omega
def CV.hY (k k':Nat):CV->CV
 | .row j=>if j==k then .row k' else .row j
 | .ptr j o=>if j==k then .ptr k' o else .ptr j o
 | z=>z
def BV.hY (k k':Nat):BV->BV
 | .row j=>if j==k then .row k' else .row j
 | .ptr j o=>if j==k then .ptr k' o else .ptr j o
 | .gO j o=>if j==k then .gO k' o else .gO j o
 | .part j a b c d=>if j==k then .part k' a b c d else .part j a b c d
 | .Em j a b c=>if j==k then .Em k' a b c else .Em j a b c
 | .cJ f fs cs=>.cJ f (fs.map (·.hY k k')) (cs.map (·.hY k k'))
 | .xa cs=>.xa (cs.map (·.hY k k'))
 | z=>z
def SV.hY (k k':Nat):SV->SV
 | .b z=>.b (z.hY k k')
 | .lC l=>.lC (l.map (·.hY k k'))
 | .kF l=>.kF (l.map (·.hY k k'))
 | .opt c z=>.opt c (z.hY k k')
def renS (k k':Nat) (l:List (Nat×SV)):List (Nat×SV):=l.map fun p=>(p.1,p.2.hY k k')
theorem CV.jk {h:PH} {ρ ρ':RM} {k k':Nat} (hk:ρ' k'=ρ k) {z:CV} (ho:∀ j,j≠k->z.bf j=true->ρ' j=ρ j) {v:Value} (hz:z.rel h ρ v):(z.hY k k').rel h ρ' v:=by
 cases z with
 | row j=>
  by_cases e:j=k
  subst e;simpa[CV.hY,CV.rel,hk] using hz
  have:=ho j e (by simp[CV.bf]);simpa[CV.hY,CV.rel,e,this] using hz
 | ptr j o=>
  by_cases e:j=k
  subst e;simpa[CV.hY,CV.rel,hk] using hz
  have:=ho j e (by simp[CV.bf]);simpa[CV.hY,CV.rel,e,this] using hz
 | one p=>exact hz
theorem CV.Kb {h:PH} {ρ ρ':RM} {k k':Nat} (hk:ρ' k'=ρ k):∀ {l:List CV} {vs:List Value},(∀ j,j≠k->l.any (·.bf j)=true->ρ' j=ρ j)->aO (fun (x:CV) v=>x.rel h ρ v) l vs->aO (fun (x:CV) v=>x.rel h ρ' v) (l.map (·.hY k k')) vs
 | _,_,_,.nil=>.nil
 | _,_,ho,.cons h1 t=>.cons (CV.jk hk (fun j hj hu=>ho j hj (by simp[hu])) h1) (CV.Kb hk (fun j hj hu=>ho j hj (by simp only[List.any_cons,hu,Bool.or_true])) t)
theorem CV.renAX {h:PH} {ρ ρ':RM} {k k':Nat} (hk:ρ' k'=ρ k):∀ {l:List CV} {vs:List Value},(∀ j,j≠k->l.any (·.bf j)=true->ρ' j=ρ j)->aO (fun (x:CV) v=>x.rel h ρ v/\v.oneCell'=true) l vs->aO (fun (x:CV) v=>x.rel h ρ' v/\v.oneCell'=true) (l.map (·.hY k k')) vs
 | _,_,_,.nil=>.nil
 | _,_,ho,.cons h1 t=>.cons ⟨CV.jk hk (fun j hj hu=>ho j hj (by simp[hu])) h1.1,h1.2⟩ (CV.renAX hk (fun j hj hu=>ho j hj (by simp only[List.any_cons,hu,Bool.or_true])) t)
theorem BV.jk {h:PH} {ρ ρ':RM} {k k':Nat} (hk:ρ' k'=ρ k) {z:BV} (ho:∀ j,j≠k->z.bf j=true->ρ' j=ρ j) {v:Value} (hz:z.rel h ρ v):(z.hY k k').rel h ρ' v:=by
 cases z with
 | row j=>
  by_cases e:j=k
  subst e;simpa[BV.hY,BV.rel,hk] using hz
  have:=ho j e (by simp[BV.bf]);simpa[BV.hY,BV.rel,e,this] using hz
 | ptr j o=>
  by_cases e:j=k
  subst e;simpa[BV.hY,BV.rel,hk] using hz
  have:=ho j e (by simp[BV.bf]);simpa[BV.hY,BV.rel,e,this] using hz
 | gO j o=>
  by_cases e:j=k
  subst e;simpa[BV.hY,BV.rel,hk] using hz
  have:=ho j e (by simp[BV.bf]);simpa[BV.hY,BV.rel,e,this] using hz
 | part j a b c d=>
  by_cases e:j=k
  subst e;simpa[BV.hY,BV.rel,hk] using hz
  have:=ho j e (by simp[BV.bf]);simpa[BV.hY,BV.rel,e,this] using hz
 | Em j a b c=>
  by_cases e:j=k
  subst e;simpa[BV.hY,BV.rel,hk] using hz
  have:=ho j e (by simp[BV.bf]);simpa[BV.hY,BV.rel,e,this] using hz
 | one p=>exact hz
 | agg ps=>exact hz
 | kG ps=>exact hz
 | xa cs=>
  obtain⟨a,e,h1⟩:=hz
  exact⟨a,e,CV.renAX hk (fun j hj hu=>ho j hj hu) h1⟩
 | cJ f fs cs=>
  obtain⟨a,b,e,h1,h2⟩:=hz
  exact⟨a,b,e,CV.Kb hk (fun j hj hu=>ho j hj (by simp only[BV.bf,hu,Bool.true_or])) h1,CV.Kb hk (fun j hj hu=>ho j hj (by simp only[BV.bf,hu,Bool.or_true])) h2⟩
theorem SV.jk {h:PH} {ρ ρ':RM} {k k':Nat} (hk:ρ' k'=ρ k) {z:SV} (ho:∀ j,j≠k->z.bf j=true->ρ' j=ρ j) {v:Value} (hz:z.rel h ρ v):(z.hY k k').rel h ρ' v:=by
 cases z with
 | b z=>exact BV.jk hk ho hz
 | opt c z=>exact⟨fun e=>BV.jk hk ho (hz.1 e),hz.2⟩
 | lC zs=>
  obtain⟨vs,e,ha⟩:=hz
  refine⟨vs,e,?_⟩
  clear e
  have b0:∀ j,j≠k->zs.any (·.bf j)=true->ρ' j=ρ j:=ho
  clear ho
  generalize vs.toList=vl at ha
  induction ha with
  | nil=>exact .nil
  | cons h1 t ih=>
   refine .cons (BV.jk hk (fun j hj hu=>b0 j hj (by simp[hu])) h1) (ih fun j hj hu=>b0 j hj (by simp only[List.any_cons,hu,Bool.or_true]))
 | kF zs=>
  obtain⟨vs,e,ha⟩:=hz
  refine⟨vs,e,?_⟩
  clear e
  have b0:∀ j,j≠k->zs.any (·.bf j)=true->ρ' j=ρ j:=ho
  clear ho
  generalize vs.toList=vl at ha
  induction ha with
  | nil=>exact .nil
  | cons h1 t ih=>
   refine .cons ⟨BV.jk hk (fun j hj hu=>b0 j hj (by simp[hu])) h1.1,h1.2⟩ (ih fun j hj hu=>b0 j hj (by simp only[List.any_cons,hu,Bool.or_true]))
def OC.hY (k k':Nat):OC->OC
 | .bb T cs=>.bb T (cs.map (·.hY k k'))
 | .mp es=>.mp (es.map fun q=>(q.1,q.2.hY k k'))
 | .BQ j m rest cur=>.BQ (if j==k then k' else j) m rest cur
 | c=>c
def renO (k k':Nat) (l:List (Nat×OC)):List (Nat×OC):=l.map fun p=>(p.1,p.2.hY k k')
theorem OC.renA_ok {h:PH} {ρ ρ':RM} {k k':Nat} (hk:ρ' k'=ρ k) {c:OC} (ho:∀ j,j≠k->c.bf j=true->ρ' j=ρ j) {v:Value} {w:World} (hc:c.ok h ρ v w):(c.hY k k').ok h ρ' v w:=by
 cases c with
 | box T ps=>exact hc
 | row T size es=>exact hc
 | oM T size es=>exact hc
 | CZ T size es=>exact hc
 | sit q pos=>exact hc
 | mq m=>exact hc
 | rr=>exact hc
 | BQ j m rest cur=>
  obtain⟨b,ms,clk,D,seen,x⟩:=hc
  refine⟨b,ms,clk,D,seen,x.ptr,x.it,?_,x.obj,x.ents,x.born,x.left,x.at_⟩
  by_cases e:j=k
  subst e;simpa using hk.trans x.map
  simpa[e] using (ho j e (by simp[OC.bf])).trans x.map
 | mp es=>
  obtain⟨b,ms,clk,e1,e2,ha,e3⟩:=hc
  refine⟨b,ms,clk,e1,e2,?_,e3⟩
  clear e2 e3
  have b0:∀ j,j≠k->(es.any (·.2.bf j))=true->ρ' j=ρ j:=ho
  clear ho
  unfold qd at ha ⊢
  generalize ms.toList=l at ha
  induction ha with
  | nil=>exact .nil
  | cons h1 t ih=>exact .cons ⟨h1.1,BV.jk hk (fun j hj hu=>b0 j hj (by simp[hu])) h1.2⟩ (ih fun j hj hu=>b0 j hj (by simp only[List.any_cons,hu,Bool.or_true]))
 | bb T cs=>
  obtain⟨b,cur,e1,e2,ha⟩:=hc
  refine⟨b,cur,e1,e2,?_⟩
  clear e2
  have b0:∀ j,j≠k->(cs.any (·.bf j))=true->ρ' j=ρ j:=ho
  clear ho
  generalize cur.toList=l at ha
  induction ha with
  | nil=>exact .nil
  | cons h1 t ih=>exact .cons ⟨BV.jk hk (fun j hj hu=>b0 j hj (by simp[hu])) h1.1,h1.2⟩ (ih fun j hj hu=>b0 j hj (by simp only[List.any_cons,hu,Bool.or_true]))
theorem OC.yb {k k':Nat} {c:OC} {v:Value} {w:World} {b:Nat}:(c.hY k k').dK v w b↔c.dK v w b:=by cases c<;>exact Iff.rfl
theorem R.rename {a:Act} {w:World} {c:OC} (hr:R E n s a w) (k k':Nat) (hk:lk s.own k=some c) (hne:k'≠k) (hfx:n.fix.contains k'=false) (hnu:dy k' s.own=true):R E n ⟨renS k k' (cu k' s.slots),ins k' (c.hY k k') (renO k k' (del k s.own))⟩ a w:=by
 obtain⟨hd,hn,h,ρ,hw,hs⟩:=hr
 have b1:k' ∉ n.fix:=by simpa using hfx
 refine⟨hd,hn,h,oX ρ k' (ρ k),⟨hw.agree,hw.le,hw.fresh,hw.size,hw.same,fun j hj=>?_,hw.os,hw.out,hw.nl,?_⟩,?_⟩
 have hjk:j≠k':=fun e=>by subst e;exact b1 hj
 rw[fB _ _ hjk];exact hw.fixed j hj
 have hkm:=bj hk
 have En:∀ j x,(j,x)∈ins k' (c.hY k k') (renO k k' (del k s.own))->∃ i y,(i,y)∈s.own/\x=y.hY k k'/\oX ρ k' (ρ k) j=ρ i/\(j=k'->i=k)/\(j≠k'->i=j/\j≠k):=fun j x hj=>by
  rcases iW hj with ⟨rfl,rfl⟩|⟨h1,h2⟩
  exact⟨k,c,hkm,rfl,cL _ _ _,fun _=>rfl,fun e=>absurd rfl e⟩
  obtain⟨⟨j0,y⟩,h3,he⟩:=List.mem_map.1 h2
  obtain⟨rfl,rfl⟩:=Prod.mk.inj he
  obtain⟨h4,h5⟩:=cj h3
  exact⟨_,y,h4,rfl,fB _ _ h1,fun e=>absurd e h1,fun _=>⟨rfl,h5⟩⟩
 intro j x hj
 obtain⟨i,y,hi,rfl,hρ,hi1,hi2⟩:=En j x hj
 obtain⟨e1,e2,e3⟩:=hw.owned i y hi
 rw[hρ]
 refine⟨OC.renA_ok (cL _ _ _) (fun q _ hu=>fB _ _ fun e=>?_) e1,fun b hb=>e2 b (OC.yb.1 hb),fun j' x' hj' b2 b hb=>?_⟩
 subst e
 rw[q9 hnu hi] at hu
 simp at hu
 obtain⟨i',y',hi',rfl,hρ',b3,b0⟩:=En j' x' hj'
 rw[hρ']
 refine fun hb'=>e3 i' y' hi' (fun e=>b2 ?_) b (OC.yb.1 hb) (OC.yb.1 hb')
 by_cases h1:j=k'
 by_cases h2:j'=k'
 rw[h1,h2]
 have:=hi1 h1;have h3:=b0 h2;omega
 have h3:=hi2 h1
 by_cases h2:j'=k'
 have:=b3 h2;omega
 have:=b0 h2;omega
 intro i z hz
 obtain⟨⟨i0,z0⟩,hm,he⟩:=List.mem_map.1 hz
 obtain⟨rfl,rfl⟩:=Prod.mk.inj he
 obtain⟨hm1,hm2⟩:=gh hm
 obtain⟨v,hv,c2⟩:=hs _ _ hm1
 refine⟨v,hv,SV.jk (cL _ _ _) (fun j _ hu=>fB _ _ fun e=>?_) c2⟩
 subst e
 rw[hm2] at hu
 simp at hu
theorem Fin.rename {e:Exit} (k k':Nat) {c:OC} (hk:lk s.own k=some c) (hne:k'≠k) (hfx:n.fix.contains k'=false) (h:Fin E n e ⟨renS k k' (cu k' s.slots),ins k' (c.hY k k') (renO k k' (del k s.own))⟩ Q) (hnu:dy k' s.own=true:=by rfl):Fin E n e s Q:=fun a w hr=>h a w (hr.rename k k' hk hne hfx hnu)
theorem ah.rename (k k':Nat) {c:OC} (hk:lk s.own k=some c) (hne:k'≠k) (hfx:n.fix.contains k'=false) (h:ah P E n cd ⟨renS k k' (cu k' s.slots),ins k' (c.hY k k') (renO k k' (del k s.own))⟩ Q) (hnu:dy k' s.own=true:=by rfl):ah P E n cd s Q:=fun a w hr=>h a w (hr.rename k k' hk hne hfx hnu)
end
end Go.Sk
