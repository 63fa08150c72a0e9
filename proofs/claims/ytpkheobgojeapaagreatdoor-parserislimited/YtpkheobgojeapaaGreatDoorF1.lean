/- part of the proof: the framework -/
import Derived.WalkKit
import Derived.ProofKit
import Derived.BigCall
import Derived.Laws.Cover3
import Derived.OpenShut
import Derived.ReadAgain
import Derived.Deep.Slices
import Derived.JoinedCond
import Derived.Handed
import Derived.Lib.AppendZerosOnto
import Derived.Lib.Overlaps
namespace Go.Sk
set_option linter.unusedSimpArgs false
set_option linter.unusedVariables false
open Go
abbrev PH:=Nat → Nat → Option Value
def PH.le (h h':PH):Prop:=∀ b o v,h b o = some v → h' b o = some v
theorem PH.le_refl (h:PH):h.le h:=fun _ _ _ x=>x
theorem PH.le_trans {a b c:PH} (x:a.le b) (y:b.le c):a.le c:=fun _ _ _ z=>y _ _ _ (x _ _ _ z)
def entV (ms:List MapEntry):Value:=.tuple (ms.map fun e=>Value.tuple #[e.key,e.val]).toArray
def look (w:World) (b o:Nat):Option Value:=match w.heap[b]? with
 | some (.map ms _)=>if o = 0 then some (entV ms.toList) else none
 | _=>match w.cell? ⟨b,o,none⟩ with
  | some v=>if v.oneCell' = true then some v else none
  | none=>none
def oI (h:PH) (w:World):Prop:=∀ b o v,h b o = some v → look w b o = some v
theorem mD {w w':World} {b:Nat} (h:w'.heap[b]? = w.heap[b]?) (o:Nat):look w' b o = look w b o:=by unfold look World.cell?; rw [h]
theorem gR {w:World} {b o:Nat} {v:Value} (h:w.cell? ⟨b,o,none⟩ = some v) (h1:v.oneCell' = true):look w b o = some v:=by
 unfold look
 split
 ·next ms clk e=>simp [World.cell?,e] at h
 ·rw [h]; exact if_pos h1
theorem rj {w:World} {b o:Nat} {cur:Array Value} {T:TypeId} {fr:Nat × Nat} {v:Value} (h:w.heap[b]? = some (.cells cur T fr)) (hv:cur[o]? = some v) (h1:v.oneCell' = true):look w b o = some v:=gR (by simp [World.cell?,h,hv]) h1
theorem C7 {w:World} {b o:Nat} {v:Value} (h:look w b o = some v) (h1:v.oneCell' = true):w.cell? ⟨b,o,none⟩ = some v:=by
 unfold look at h
 split at h
 ·split at h
  ·cases h; simp [entV,Value.oneCell'] at h1
  ·cases h
 ·split at h
  ·next u hu=>
   split at h
   ·cases h; exact hu
   ·cases h
  ·cases h
theorem gM {w:World} {b o:Nat} {v:Value} (h:look w b o = some v):b < w.heap.size:=by
 rcases Nat.lt_or_ge b w.heap.size with g | g
 ·exact g
 ·simp [look,World.cell?,Array.getElem?_eq_none g] at h
theorem oI.cell {h:PH} {w:World} (ha:oI h w) {b o:Nat} {v:Value} (hv:h b o = some v) (h1:v.oneCell' = true):w.cell? ⟨b,o,none⟩ = some v:=C7 (ha b o v hv) h1
def kX (k:IntKind) (n:Int):Prop:=k.min ≤ n ∧ n ≤ k.max
structure CP where
 rel:PH → Value → Prop
 mono:∀ {h h':PH} {v:Value},h.le h' → rel h v → rel h' v
 one:∀ {h:PH} {v:Value},rel h v → v.oneCell' = true
def CP.int (k:IntKind) (n:Int):CP:=⟨fun _ v=>v = .int k n ∧ kX k n,fun _ x=>x,fun x=>by rw [x.1]; rfl⟩
def CP.bool (b:Bool):CP:=⟨fun _ v=>v = .bool b,fun _ x=>x,fun x=>by rw [x]; rfl⟩
abbrev Str:=List UInt8
def CP.str (s:Str):CP:=⟨fun _ v=>v = .string ⟨⟨s⟩⟩ ∧ s.length ≤ maxLen,fun _ x=>x,fun x=>by rw [x.1]; rfl⟩
def CP.raw (u:Value):CP:=⟨fun _ v=>v = u ∧ u.oneCell' = true,fun _ x=>x,fun x=>by rw [x.1]; exact x.2⟩
def CP.any:CP:=⟨fun _ v=>v.oneCell' = true,fun _ x=>x,fun x=>x⟩
def Reads (h:PH) (b o:Nat) (ps:List CP):Prop:=∀ (j:Nat) (c:CP),ps[j]? = some c → ∃ u,h b (o + j) = some u ∧ c.rel h u
theorem Reads.mono {h h':PH} {b o:Nat} {ps:List CP} (hl:h.le h') (x:Reads h b o ps):Reads h' b o ps :=
 fun j c hc=>let ⟨u,hu,hr⟩:=x j c hc; ⟨u,hl _ _ _ hu,c.mono hl hr⟩
theorem Reads.drop {h:PH} {b o:Nat} {ps:List CP} (x:Reads h b o ps) (n:Nat):Reads h b (o + n) (ps.drop n):=by
 intro j c hc
 rw [List.getElem?_drop] at hc
 obtain ⟨u,hu,hr⟩:=x _ _ hc
 exact ⟨u,by rw [Nat.add_assoc]; exact hu,hr⟩
def cb (size:Nat) (es:List (List CP)):Prop:=∀ ps ∈ es,ps.length = size
def CP.sl (size:Nat) (es:List (List CP)):CP :=
  ⟨fun h v=>cb size es ∧ 0 < size ∧ ((v = .slice none 0 0 ∧ es = []) ∨
      (∃ b o c,v = .slice (some ⟨b,o,none⟩) es.length c ∧ es.length ≤ c ∧ c ≤ maxLen ∧ Reads h b o es.flatten) ∨ (∃ a,v = .slice (some a) 0 0 ∧ es = [])),
   fun hl x=>⟨x.1,x.2.1,x.2.2.imp id (Or.imp (fun ⟨b,o,c,h1,h2,h3,h4⟩=>⟨b,o,c,h1,h2,h3,h4.mono hl⟩) id)⟩,
   fun x=>by rcases x.2.2 with ⟨h,_⟩ | ⟨_,_,_,h,_⟩ | ⟨_,h,_⟩ <;> rw [h] <;> rfl⟩
def CP.nil:CP:=CP.raw (.slice none 0 0)
theorem kO {size:Nat}:∀ {es:List (List CP)},cb size es → ∀ (i:Nat) (ps:List CP),es[i]? = some ps → ∀ j,j < size → es.flatten[i * size + j]? = ps[j]?
 | [],_,i,ps,hi,_,_=>by simp at hi
 | p :: es,hu,0,ps,hi,j,hj=>by
  have hp:p.length = size:=hu p (by simp)
  simp at hi; subst hi
  simp only [List.flatten_cons,Nat.zero_mul,Nat.zero_add]
  rw [List.getElem?_append_left (by omega)]
 | p :: es,hu,i + 1,ps,hi,j,hj=>by
  have hp:p.length = size:=hu p (by simp)
  have ih:=kO (es:=es) (fun q hq=>hu q (by simp [hq])) i ps (by simpa using hi) j hj
  have e:(i + 1) * size + j = size + (i * size + j):=by rw [Nat.add_mul]; omega
  rw [List.flatten_cons,List.getElem?_append_right (by omega),hp,e,Nat.add_sub_cancel_left,ih]
theorem gF {size:Nat}:∀ {es:List (List CP)},cb size es → es.flatten.length = es.length * size
 | [],_=>by simp
 | p :: es,hu=>by
  have hp:p.length = size:=hu p (by simp)
  rw [List.flatten_cons,List.length_append,gF (es:=es) (fun q hq=>hu q (by simp [hq])),hp,List.length_cons,Nat.add_mul]; omega
theorem Reads.elem {h:PH} {b o size:Nat} {es:List (List CP)} (hu:cb size es) (x:Reads h b o es.flatten) (i:Nat) (ps:List CP) (hi:es[i]? = some ps) :
  Reads h b (o + i * size) ps:=by
 intro j c hc
 have hl:ps.length = size:=hu ps (List.mem_of_getElem? hi)
 have hj:j < size:=by rw [← hl]; exact (List.getElem?_eq_some_iff.1 hc).1
 have:=kO hu i ps hi j hj
 obtain ⟨u,hu',hr⟩:=x (i * size + j) c (by rw [this]; exact hc)
 exact ⟨u,by rw [Nat.add_assoc]; exact hu',hr⟩
inductive CV where
 | one (p:CP)
 | ptr (k off:Nat)
 | row (k:Nat)
inductive BV where
 | one (p:CP)
 | agg (ps:List CP)
 | ptr (k off:Nat)
 | row (k:Nat)
 | gh (k off:Nat)
 | part (k size lo len c:Nat)
 | jY (ps:List CP)
 | C' (k off len c:Nat)
 | cD (f:Nat) (fs cs:List CV)
 | xa (cs:List CV)
inductive SV where
 | b (x:BV)
 | kU (l:List BV)
 | opt (c:Bool) (x:BV)
 | jX (l:List BV)
inductive aQ {α β:Type} (r:α → β → Prop):List α → List β → Prop
 | nil:aQ r [] []
 | cons {a:α} {b:β} {as:List α} {bs:List β} (h:r a b) (t:aQ r as bs):aQ r (a :: as) (b :: bs)
namespace aQ
variable {α β:Type} {r r':α → β → Prop} {as:List α} {bs:List β}
theorem length (h:aQ r as bs):as.length = bs.length:=by induction h <;> simp_all
theorem mono (h:aQ r as bs) (hr:∀ a b,r a b → r' a b):aQ r' as bs:=by
 induction h with
 | nil=>exact .nil
 | cons h _ ih=>exact .cons (hr _ _ h) ih
theorem get (h:aQ r as bs):∀ (i:Nat) (a:α),as[i]? = some a → ∃ b,bs[i]? = some b ∧ r a b:=by
 induction h with
 | nil=>intro i a hi; simp at hi
 | cons h _ ih=>
  intro i a hi
  cases i with
  | zero=>simp at hi; subst hi; exact ⟨_,by simp,h⟩
  | succ i=>simpa using ih i a (by simpa using hi)
theorem zk:∀ {as:List α} {bs:List β},as.length = bs.length → (∀ (i:Nat) (a:α) (b:β),as[i]? = some a → bs[i]? = some b → r a b) → aQ r as bs
 | [],[],_,_=>.nil
 | [],_ :: _,h,_=>by simp at h
 | _ :: _,[],h,_=>by simp at h
 | a :: as,b :: bs,h,hr=>.cons (hr 0 a b (by simp) (by simp)) (zk (by simpa using h) fun i x y hx hy=>hr (i + 1) x y (by simpa using hx) (by simpa using hy))
theorem append {as':List α} {bs':List β} (h:aQ r as bs) (h':aQ r as' bs'):aQ r (as ++ as') (bs ++ bs'):=by
 induction h with
 | nil=>exact h'
 | cons h _ ih=>exact .cons h ih
theorem take (h:aQ r as bs) (n:Nat):aQ r (as.take n) (bs.take n):=by
 induction h generalizing n with
 | nil=>simp; exact .nil
 | cons h _ ih=>cases n with
  | zero=>simp; exact .nil
  | succ n=>simp; exact .cons h (ih n)
theorem drop (h:aQ r as bs) (n:Nat):aQ r (as.drop n) (bs.drop n):=by
 induction h generalizing n with
 | nil=>simp; exact .nil
 | cons h t ih=>cases n with
  | zero=>simp; exact .cons h t
  | succ n=>simpa using ih n
theorem set (h:aQ r as bs) (i:Nat) {a:α} {b:β} (hr:r a b):aQ r (as.set i a) (bs.set i b):=by
 induction h generalizing i with
 | nil=>simp; exact .nil
 | cons h t ih=>cases i with
  | zero=>simp; exact .cons hr t
  | succ i=>simp; exact .cons h (ih i)
theorem BI (h:aQ r as bs) {b:β} (hb:b ∈ bs):∃ a,a ∈ as ∧ r a b:=by
 induction h with
 | nil=>simp at hb
 | cons h _ ih=>
  cases List.mem_cons.1 hb with
  | inl e=>subst e; exact ⟨_,by simp,h⟩
  | inr e=>obtain ⟨a,ha,hr⟩:=ih e; exact ⟨a,by simp [ha],hr⟩
end aQ
def aA (h:PH) (ps:List CP) (cs:List Value):Prop:=aQ (fun (c:CP) v=>c.rel h v) ps cs
theorem aA.mono {h h':PH} {ps:List CP} {cs:List Value} (hl:h.le h') (x:aA h ps cs):aA h' ps cs:=aQ.mono x fun c _=>c.mono hl
theorem aA.one {h:PH} {ps:List CP} {cs:List Value} (x:aA h ps cs):∀ u ∈ cs,u.oneCell' = true:=fun _ hv=>let ⟨c,_,hc⟩:=aQ.BI x hv; c.one hc
abbrev RM:=Nat → Value
def CV.rel (h:PH) (ρ:RM):CV → Value → Prop
 | .one p,v=>p.rel h v
 | .ptr k off,v=>∃ b,ρ k = .pointer (some ⟨b,0,none⟩) ∧ v = .pointer (some ⟨b,off,none⟩)
 | .row k,v=>v = ρ k
def CV.bd (k:Nat):CV → Bool
 | .ptr j _ | .row j=>j == k
 | _=>false
theorem CV.mono {h h':PH} {ρ ρ':RM} (hl:h.le h') {x:CV} (hρ:∀ k,x.bd k = true → ρ' k = ρ k) {v:Value} (hx:x.rel h ρ v):x.rel h' ρ' v:=by
 cases x with
 | one p=>exact p.mono hl hx
 | ptr k off=>have:=hρ k (by simp [CV.bd]); simpa [CV.rel,this] using hx
 | row k=>have:=hρ k (by simp [CV.bd]); simpa [CV.rel,this] using hx
theorem CV.II {h h':PH} {ρ ρ':RM} (hl:h.le h'):∀ {l:List CV} {vs:List Value},(∀ k,l.any (·.bd k) = true → ρ' k = ρ k) → aQ (fun (x:CV) v=>x.rel h ρ v) l vs → aQ (fun (x:CV) v=>x.rel h' ρ' v) l vs
 | _,_,_,.nil=>.nil
 | _,_,hρ,.cons h1 t=>.cons (CV.mono hl (fun k hk=>hρ k (by simp [hk])) h1) (CV.II hl (fun k hk=>hρ k (by simp only [List.any_cons,hk,Bool.or_true])) t)
theorem CV.monoX {h h':PH} {ρ ρ':RM} (hl:h.le h'):∀ {l:List CV} {vs:List Value},(∀ k,l.any (·.bd k) = true → ρ' k = ρ k) → aQ (fun (x:CV) v=>x.rel h ρ v ∧ v.oneCell' = true) l vs → aQ (fun (x:CV) v=>x.rel h' ρ' v ∧ v.oneCell' = true) l vs
 | _,_,_,.nil=>.nil
 | _,_,hρ,.cons h1 t=>.cons ⟨CV.mono hl (fun k hk=>hρ k (by simp [hk])) h1.1,h1.2⟩ (CV.monoX hl (fun k hk=>hρ k (by simp only [List.any_cons,hk,Bool.or_true])) t)
def BV.rel (h:PH) (ρ:RM):BV → Value → Prop
 | .xa cs,v=>∃ vs,v = .agg vs ∧ aQ (fun (x:CV) u=>x.rel h ρ u ∧ u.oneCell' = true) cs vs.toList
 | .one p,v=>p.rel h v
 | .agg ps,v=>∃ cs,v = .agg cs ∧ aA h ps cs.toList
 | .ptr k off,v=>∃ b,ρ k = .pointer (some ⟨b,0,none⟩) ∧ v = .pointer (some ⟨b,off,none⟩)
 | .row k,v=>v = ρ k
 | .gh k off,v=>∃ b n c,ρ k = .slice (some ⟨b,0,none⟩) n c ∧ v = .pointer (some ⟨b,off,none⟩)
 | .part k size lo len c,v=>∃ b n,ρ k = .slice (some ⟨b,0,none⟩) n c ∧ v = .slice (some ⟨b,lo * size,none⟩) len (c - lo) ∧ lo + len ≤ c
 | .jY ps,v=>∃ b o,v = .pointer (some ⟨b,o,none⟩) ∧ Reads h b o ps
 | .C' k off len c,v=>∃ b,ρ k = .pointer (some ⟨b,0,none⟩) ∧ v = .slice (some ⟨b,off,none⟩) len c
 | .cD f fs cs,v=>∃ a b,v = .func (.func f) a b ∧ aQ (fun (x:CV) u=>x.rel h ρ u) fs a.toList ∧ aQ (fun (x:CV) u=>x.rel h ρ u) cs b.toList
def SV.rel (h:PH) (ρ:RM):SV → Value → Prop
 | .b x,v=>x.rel h ρ v
 | .kU l,v=>∃ vs,v = .tuple vs ∧ aQ (fun (x:BV) u=>x.rel h ρ u) l vs.toList
 | .opt c x,v=>(c = true → x.rel h ρ v) ∧ (c = false → v = undef)
 | .jX l,v=>∃ vs,v = .agg vs ∧ aQ (fun (x:BV) u=>x.rel h ρ u ∧ u.oneCell' = true) l vs.toList
def BV.bd (k:Nat):BV → Bool
 | .ptr j _ | .row j | .gh j _ | .part j _ _ _ _ | .C' j _ _ _=>j == k
 | .cD _ fs cs=>fs.any (·.bd k) || cs.any (·.bd k)
 | .xa cs=>cs.any (·.bd k)
 | _=>false
def SV.bd (k:Nat):SV → Bool
 | .b x=>x.bd k
 | .kU l=>l.any (·.bd k)
 | .jX l=>l.any (·.bd k)
 | .opt _ x=>x.bd k
theorem BV.mono {h h':PH} {ρ ρ':RM} (hl:h.le h') {x:BV} (hρ:∀ k,x.bd k = true → ρ' k = ρ k) {v:Value} (hx:x.rel h ρ v):x.rel h' ρ' v:=by
 cases x with
 | one p=>exact p.mono hl hx
 | agg ps=>obtain ⟨cs,e,hc⟩:=hx; exact ⟨cs,e,hc.mono hl⟩
 | ptr k off=>have:=hρ k (by simp [BV.bd]); simpa [BV.rel,this] using hx
 | row k=>have:=hρ k (by simp [BV.bd]); simpa [BV.rel,this] using hx
 | gh k off=>have:=hρ k (by simp [BV.bd]); simpa [BV.rel,this] using hx
 | part k _ _ _ _=>have:=hρ k (by simp [BV.bd]); simpa [BV.rel,this] using hx
 | jY ps=>obtain ⟨b,o,e,hr⟩:=hx; exact ⟨b,o,e,hr.mono hl⟩
 | C' k off len c=>have:=hρ k (by simp [BV.bd]); simpa [BV.rel,this] using hx
 | xa cs=>obtain ⟨vs,e,h1⟩:=hx; exact ⟨vs,e,CV.monoX hl hρ h1⟩
 | cD f fs cs=>
  obtain ⟨a,b,e,h1,h2⟩:=hx
  exact ⟨a,b,e,CV.II hl (fun k hk=>hρ k (by simp only [BV.bd,hk,Bool.true_or])) h1,CV.II hl (fun k hk=>hρ k (by simp only [BV.bd,hk,Bool.or_true])) h2⟩
theorem SV.mono {h h':PH} {ρ ρ':RM} (hl:h.le h') {x:SV} (hρ:∀ k,x.bd k = true → ρ' k = ρ k) {v:Value} (hx:x.rel h ρ v):x.rel h' ρ' v:=by
 cases x with
 | b x=>exact BV.mono hl hρ hx
 | opt c x=>exact ⟨fun hc=>BV.mono hl hρ (hx.1 hc),hx.2⟩
 | kU l=>
  obtain ⟨vs,e,ha⟩:=hx
  refine ⟨vs,e,?_⟩
  have hρ':∀ k,(l.any (·.bd k)) = true → ρ' k = ρ k:=hρ
  clear hρ e
  generalize vs.toList = vl at ha
  induction ha with
  | nil=>exact .nil
  | cons h' t ih=>
   refine .cons (BV.mono hl (fun k hk=>hρ' k (by simp [hk])) h') (ih fun k hk=>hρ' k (by simp only [List.any_cons,hk,Bool.or_true]))
 | jX l=>
  obtain ⟨vs,e,ha⟩:=hx
  refine ⟨vs,e,?_⟩
  have hρ':∀ k,(l.any (·.bd k)) = true → ρ' k = ρ k:=hρ
  clear hρ e
  generalize vs.toList = vl at ha
  induction ha with
  | nil=>exact .nil
  | cons h' t ih=>
   refine .cons ⟨BV.mono hl (fun k hk=>hρ' k (by simp [hk])) h'.1,h'.2⟩ (ih fun k hk=>hρ' k (by simp only [List.any_cons,hk,Bool.or_true]))
inductive Dm where
 | none
 | at (i:Nat)
 | below (d:Nat)
@[simp] def Dm.has:Dm → Nat → Prop
 | .none,_=>False
 | .at i,j=>j = i
 | .below d,j=>j < d
inductive OC where
 | box (T:TypeId) (ps:List CP)
 | row (T:TypeId) (size:Nat) (es:List (List CP))
 | oe (T:TypeId) (size:Nat) (es:List (List CP))
 | B3 (T:TypeId) (size:Nat) (es:List (List CP))
 | ba (T:TypeId) (cs:List BV)
 | mp (es:List (CP × BV))
 | sit (s:Str) (pos:Nat)
 | mq (m:List (Int × Int))
 | rr (T e:TypeId) (size:Nat) (hole:Dm) (ess:List (List (List CP)))
 | AR (j:Nat) (m rest:List (Int × Int)) (cur:Option (Int × Int))
def aZ:Value → Option Nat
 | .pointer (some a)=>some a.block
 | .slice (some a) _ _=>some a.block
 | .map (some b)=>some b
 | _=>none
def OC.vt:OC → Bool
 | .box _ _=>true
 | .ba _ _=>true
 | .oe _ _ _=>true
 | .mp _=>true
 | .sit _ _=>true
 | .mq _=>true
 | .AR _ _ _ _=>true
 | _=>false
def OC.bd (k:Nat):OC → Bool
 | .ba _ cs=>cs.any (·.bd k)
 | .mp es=>es.any (·.2.bd k)
 | .AR j _ _ _=>j == k
 | _=>false
def di (k:Nat) (own:List (Nat × OC)):Bool:=own.all fun p=>!p.2.bd k
theorem qE {k:Nat} {own:List (Nat × OC)} (h:di k own = true) {j:Nat} {c:OC} (hm:(j,c) ∈ own):c.bd k = false:=by
 have:=List.all_eq_true.1 h _ hm
 simpa using this
def pF (h:PH) (ρ:RM) (es:List (CP × BV)) (ms:List MapEntry):Prop:=aQ (fun (p:CP × BV) (e:MapEntry)=>p.1.rel h e.key ∧ p.2.rel h ρ e.val) es ms
def zw (clk:Nat) (ms:List MapEntry):Prop:=(∀ e ∈ ms,e.born < clk) ∧ (ms.map (·.born)).Nodup
def IP (m:List (Int × Int)) (ms:List MapEntry):Prop:=aQ (fun (p:Int × Int) (e:MapEntry)=>(e.key = .int .i64 p.1 ∧ kX .i64 p.1) ∧ e.val = .int .i64 p.2 ∧ kX .i64 p.2) m ms
structure Gv (h:PH) (w:World) (e:TypeId) (size:Nat) (u:Value) (es:List (List CP)):Prop where
 uni:cb size es
 row:∃ xs,w.ownsRow 0 e size u es.length xs ∧ aA h es.flatten xs
structure MitOk (ρ:RM) (v:Value) (w:World) (j:Nat) (m rest:List (Int × Int)) (cur:Option (Int × Int)) (b:Nat) (ms:Array MapEntry) (clk D:Nat) (seen:Array Nat):Prop where
 ptr:v = .pointer (some ⟨D,0,none⟩)
 it:w.heap[D]? = some (.mapIter (some b) clk seen clk)
 map:ρ j = .map (some b)
 obj:w.heap[b]? = some (.map ms clk)
 ents:IP m ms.toList
 born:zw clk ms.toList
 left:IP rest (ms.toList.filter fun e=>!seen.contains e.born)
 at_:∀ p,cur = some p → ∃ e seen',e ∈ ms.toList ∧ seen = Array.push seen' e.born ∧ (e.key = .int .i64 p.1 ∧ kX .i64 p.1) ∧ e.val = .int .i64 p.2 ∧ kX .i64 p.2
structure ze (h:PH) (v:Value) (w:World) (T e:TypeId) (size:Nat) (hole:Dm) (ess:List (List (List CP))) (us:List Value):Prop where
 pos:0 < size
 out:w.ownsRow 0 T 1 v ess.length us
 one:∀ u ∈ us,u.oneCell' = true
 rows:∀ (i:Nat) (u:Value) (es:List (List CP)),us[i]? = some u → ess[i]? = some es → ¬ hole.has i → Gv h w e size u es
 sep:∀ (i j:Nat) (u u':Value) (b:Nat),us[i]? = some u → us[j]? = some u' → ¬ hole.has i → ¬ hole.has j → i ≠ j → aZ u = some b → aZ u' ≠ some b
 self:∀ (i:Nat) (u:Value) (b:Nat),us[i]? = some u → ¬ hole.has i → aZ u = some b → aZ v ≠ some b
def OC.inner (v:Value) (w:World) (b:Nat):OC → Prop
 | .rr _ _ _ hole ess=>∃ (g:Nat) (cur:Array Value) (T:TypeId) (fr:Nat × Nat) (i:Nat) (u:Value),aZ v = some g ∧ w.heap[g]? = some (.cells cur T fr) ∧ i < ess.length ∧ cur[i]? = some u ∧ ¬ hole.has i ∧ aZ u = some b
 | .AR _ _ _ _=>∃ (D since:Nat) (seen:Array Nat) (st:Nat),aZ v = some D ∧ w.heap[D]? = some (.mapIter (some b) since seen st)
 | _=>False
def OC.du (c:OC) (v:Value) (w:World) (b:Nat):Prop:=aZ v = some b ∨ c.inner v w b
theorem OC.du.EM {c:OC} {v:Value} {w w':World} (hb:∀ b,aZ v = some b → w'.heap[b]? = w.heap[b]?) {b:Nat}:c.inner v w' b → c.inner v w b:=by
 cases c with
 | rr T e size hole ess=>
  rintro ⟨g,cur,T',fr,i,u,h1,h2,h3⟩
  exact ⟨g,cur,T',fr,i,u,h1,by rw [← hb g h1]; exact h2,h3⟩
 | AR j m rest cur=>
  rintro ⟨D,since,seen,st,h1,h2⟩
  exact ⟨D,since,seen,st,h1,by rw [← hb D h1]; exact h2⟩
 | _=>exact id
theorem OC.du.congr {c:OC} {v:Value} {w w':World} (hb:∀ b,aZ v = some b → w'.heap[b]? = w.heap[b]?) {b:Nat} (h:c.du v w' b):c.du v w b:=h.imp id (OC.du.EM hb)
def OC.plain:OC → Bool
 | .rr _ _ _ _ _=>false
 | .AR _ _ _ _=>false
 | _=>true
theorem OC.du.zQ {c:OC} {v:Value} {w:World} {b:Nat} (hp:c.plain = true) (h:c.du v w b):aZ v = some b:=by
 rcases h with h | h
 ·exact h
 ·cases c <;> first | exact h.elim | simp [OC.plain] at hp
def ownsAt (w:World) (e:TypeId) (size:Nat) (v:Value) (n:Nat) (xs:List Value):Prop :=
 xs.length = n * size ∧ ((v = .slice none 0 0 ∧ n = 0) ∨ ∃ g off cap cur,v = .slice (some ⟨g,off,none⟩) n cap ∧ w.heap[g]? = some (.cells cur e (0,0)) ∧ n ≤ cap ∧ cap ≤ maxLen ∧ off + cap * size ≤ cur.size ∧ (cur.toList.drop off).take (n * size) = xs)
def OC.ok (h:PH) (ρ:RM) (v:Value) (w:World):OC → Prop
 | .B3 T size es=>cb size es ∧ 0 < size ∧ ∃ xs,ownsAt w T size v es.length xs ∧ aA h es.flatten xs
 | .rr T e size hole ess=>∃ us,ze h v w T e size hole ess us
 | .AR j m rest cur=>∃ b ms clk D seen,MitOk ρ v w j m rest cur b ms clk D seen
 | .box T ps=>∃ b cur,v = .pointer (some ⟨b,0,none⟩) ∧ w.heap[b]? = some (.cells cur T (0,0)) ∧ aA h ps cur.toList
 | .row T size es=>cb size es ∧ 0 < size ∧ ∃ xs,w.ownsRow 0 T size v es.length xs ∧ aA h es.flatten xs
 | .oe T size es=>cb size es ∧ 0 < size ∧ ∃ xs,w.ownsRow 0 T size v es.length xs ∧ aA h es.flatten xs
 | .ba T cs=>∃ b cur,v = .pointer (some ⟨b,0,none⟩) ∧ w.heap[b]? = some (.cells cur T (0,0)) ∧ aQ (fun (z:BV) u=>z.rel h ρ u ∧ u.oneCell' = true) cs cur.toList
 | .mp es=>∃ b ms clk,v = .map (some b) ∧ w.heap[b]? = some (.map ms clk) ∧ pF h ρ es ms.toList ∧ zw clk ms.toList
 | .mq m=>∃ b ms clk,v = .map (some b) ∧ w.heap[b]? = some (.map ms clk) ∧ IP m ms.toList ∧ zw clk ms.toList
 | .sit s pos=>∃ b,v = .pointer (some ⟨b,0,none⟩) ∧ w.heap[b]? = some (.stringIter ⟨⟨s⟩⟩ pos) ∧ s.length ≤ maxLen
theorem OC.ok.Ij {c:OC} {h:PH} {ρ ρ':RM} {v:Value} {w:World} (hc:c.ok h ρ v w) (hu:∀ j,c.bd j = true → ρ' j = ρ j):c.ok h ρ' v w:=by
 cases c with
 | box T ps=>exact hc
 | row T size es=>exact hc
 | oe T size es=>exact hc
 | B3 T size es=>exact hc
 | sit q pos=>exact hc
 | mq m=>exact hc
 | rr=>exact hc
 | AR j m rest cur=>
  obtain ⟨b,ms,clk,D,seen,x⟩:=hc
  exact ⟨b,ms,clk,D,seen,x.ptr,x.it,(hu j (by simp [OC.bd])).trans x.map,x.obj,x.ents,x.born,x.left,x.at_⟩
 | mp es=>
  obtain ⟨b,ms,clk,e1,e2,ha,e3⟩:=hc
  refine ⟨b,ms,clk,e1,e2,?_,e3⟩
  clear e2 e3
  have hu':∀ j,(es.any (·.2.bd j)) = true → ρ' j = ρ j:=hu
  clear hu
  unfold pF at ha ⊢
  generalize ms.toList = l at ha
  induction ha with
  | nil=>exact .nil
  | cons h1 t ih=>exact .cons ⟨h1.1,BV.mono (PH.le_refl _) (fun k hk=>hu' k (by simp [hk])) h1.2⟩ (ih fun k hk=>hu' k (by simp only [List.any_cons,hk,Bool.or_true]))
 | ba T cs=>
  obtain ⟨b,cur,e1,e2,ha⟩:=hc
  refine ⟨b,cur,e1,e2,?_⟩
  clear e2
  have hu':∀ j,(cs.any (·.bd j)) = true → ρ' j = ρ j:=hu
  clear hu
  generalize cur.toList = l at ha
  induction ha with
  | nil=>exact .nil
  | cons h1 t ih=>exact .cons ⟨BV.mono (PH.le_refl _) (fun k hk=>hu' k (by simp [hk])) h1.1,h1.2⟩ (ih fun k hk=>hu' k (by simp only [List.any_cons,hk,Bool.or_true]))
def lk {α:Type}:List (Nat × α) → Nat → Option α
 | [],_=>none
 | (j,x) :: l,k=>if k == j then some x else lk l k
def del {α:Type} (k:Nat):List (Nat × α) → List (Nat × α)
 | []=>[]
 | (j,x) :: l=>if k == j then del k l else (j,x) :: del k l
theorem bh {α:Type} {k:Nat} {x:α}:∀ {l:List (Nat × α)},lk l k = some x → (k,x) ∈ l
 | [],h=>by simp [lk] at h
 | (j,y) :: l,h=>by
  unfold lk at h
  split at h
  ·rename_i e
   have e':k = j:=by simpa using e
   subst e'
   cases h
   exact List.mem_cons_self
  ·exact List.mem_cons_of_mem _ (bh h)
theorem b9 {α:Type} {k:Nat}:∀ {l:List (Nat × α)} {p:Nat × α},p ∈ del k l → p ∈ l ∧ p.1 ≠ k
 | [],p,h=>by simp [del] at h
 | (j,y) :: l,p,h=>by
  unfold del at h
  split at h
  ·exact ⟨List.mem_cons_of_mem _ (b9 h).1,(b9 h).2⟩
  ·rename_i e
   cases List.mem_cons.1 h with
   | inl e'=>subst e'; exact ⟨List.mem_cons_self,fun h'=>e (by simp [← h'])⟩
   | inr e'=>exact ⟨List.mem_cons_of_mem _ (b9 e').1,(b9 e').2⟩
theorem cV {α:Type} {k:Nat}:∀ {l:List (Nat × α)} {p:Nat × α},p ∈ l → p.1 ≠ k → p ∈ del k l
 | (j,y) :: l,p,h,hk=>by
  unfold del
  cases List.mem_cons.1 h with
  | inl e=>
   subst e
   have:(k == j) = false:=by
    cases h':k == j with
    | false=>rfl
    | true=>exact absurd (by simpa using h':k = j).symm hk
   rw [this]
   exact List.mem_cons_self
  | inr e=>
   split
   ·exact cV e hk
   ·exact List.mem_cons_of_mem _ (cV e hk)
structure St where
 slots:List (Nat × SV)
 own:List (Nat × OC)
abbrev aF:=List (Nat × List Value)
def cx (TB:aF) (h:PH) (w:World):Prop:=∀ g cs,(g,cs) ∈ TB → 0 < cs.length ∧ (∀ o v,cs[o]? = some v → h g o = some v) ∧ ∃ T fz,w.heap[g]? = some (.cells cs.toArray T fz)
structure Env (TB:aF) where
 w0:World
 h0:PH
 ρ0:RM
 tb:cx TB h0 w0
structure Sh where
 n:Nat
 fix:List Nat
 lnd:List Nat:=[]
 dfs:List Deferred:=[]
def qR {TB:aF} (E:Env TB) (n:Sh) (b:Nat):Prop:=∃ k,k ∈ n.lnd ∧ aZ (E.ρ0 k) = some b
def OwnOk {TB:aF} (E:Env TB) (n:Sh) (own:List (Nat × OC)) (h:PH) (ρ:RM) (w:World):Prop :=
 ∀ k c,(k,c) ∈ own → c.ok h ρ (ρ k) w ∧ (∀ b,c.du (ρ k) w b → (E.w0.heap.size ≤ b ∨ qR E n b) ∧ ∀ o,h b o = none) ∧
  ∀ k' c',(k',c') ∈ own → k' ≠ k → ∀ b,c.du (ρ k) w b → ¬ c'.du (ρ k') w b
structure WR {TB:aF} (E:Env TB) (n:Sh) (own:List (Nat × OC)) (h:PH) (ρ:RM) (w:World):Prop where
 agree:oI h w
 le:E.h0.le h
 fresh:∀ b,b < E.w0.heap.size → ¬ qR E n b → h b = E.h0 b
 size:E.w0.heap.size ≤ w.heap.size
 same:∀ b,b < E.w0.heap.size → ¬ qR E n b → w.heap[b]? = E.w0.heap[b]?
 fixed:∀ k,k ∈ n.fix → ρ k = E.ρ0 k
 os:w.os = E.w0.os
 out:w.output = E.w0.output
 nl:∀ b,qR E n b → ∀ o,E.h0 b o = none
 owned:OwnOk E n own h ρ w
def bp (h:PH) (ρ:RM) (slots:List (Nat × SV)) (tmps:Array Value):Prop:=∀ k x,(k,x) ∈ slots → ∃ v,tmps[k]? = some v ∧ x.rel h ρ v
structure R {TB:aF} (E:Env TB) (n:Sh) (s:St) (a:Act) (w:World):Prop where
 defers:a.defers = n.dfs
 size:a.tmps.size = n.n
 rest:∃ h ρ,WR E n s.own h ρ w ∧ bp h ρ s.slots a.tmps
def St.get (s:St) (k:Nat):Option SV:=lk s.slots k
def St.set (n d:Nat) (x:SV) (s:St):St:=if d < n then ⟨(d,x) :: del d s.slots,s.own⟩ else s
def St.put (n:Sh) (dst:Option Nat) (x:SV) (s:St):St:=match dst with | some d=>s.set n.n d x | none=>s
def rQ {α:Type}:List Nat → List (Nat × α) → List (Nat × α)
 | [],_=>[]
 | k :: ks,l=>match lk l k with
  | some x=>(k,x) :: rQ ks l
  | none=>rQ ks l
def St.keep (ks kos:List Nat) (s:St):St:=⟨rQ ks s.slots,rQ kos s.own⟩
theorem mw {α:Type} {l:List (Nat × α)} {p:Nat × α}:∀ {ks:List Nat},p ∈ rQ ks l → p ∈ l
 | [],h=>by simp [rQ] at h
 | k :: ks,h=>by
  unfold rQ at h
  split at h
  ·rename_i x hx
   cases List.mem_cons.1 h with
   | inl e=>subst e; exact bh hx
   | inr e=>exact mw e
  ·exact mw h
theorem WR.aw {TB:aF} {E:Env TB} {n:Sh} {own:List (Nat × OC)} {h:PH} {ρ:RM} {w:World} (hw:WR E n own h ρ w):cx TB h w:=by
 intro g cs hm
 obtain ⟨h1,h2,T,fz,h3⟩:=E.tb g cs hm
 refine ⟨h1,fun o v hv=>hw.le _ _ _ (h2 o v hv),T,fz,?_⟩
 have hlt:g < E.w0.heap.size:=by
  rcases Nat.lt_or_ge g E.w0.heap.size with h | h
  ·exact h
  ·simp [Array.getElem?_eq_none h] at h3
 rw [hw.same g hlt fun hl=>?_]
 ·exact h3
 ·have e0:cs[0]? = some cs[0]:=by simp [h1]
  have:=h2 0 _ e0
  rw [hw.nl g hl 0] at this
  simp at this
theorem WR.sub {TB:aF} {E:Env TB} {n:Sh} {own own':List (Nat × OC)} {h:PH} {ρ:RM} {w:World} (hw:WR E n own h ρ w) (hs:∀ p,p ∈ own' → p ∈ own):WR E n own' h ρ w :=
 ⟨hw.agree,hw.le,hw.fresh,hw.size,hw.same,hw.fixed,hw.os,hw.out,hw.nl,fun j c hj=>by
  obtain ⟨h1,h2,h3⟩:=hw.owned j c (hs _ hj)
  exact ⟨h1,h2,fun j' c' hj'=>h3 j' c' (hs _ hj')⟩⟩
theorem bp.set {h:PH} {ρ:RM} {slots:List (Nat × SV)} {tmps:Array Value} {n d:Nat} {x:SV} {v:Value} (hs:bp h ρ slots tmps) (hn:tmps.size = n) (hd:d < n) (hx:x.rel h ρ v) :
  bp h ρ ((d,x) :: del d slots) (tmps.setIfInBounds d v):=by
 intro k y hy
 cases List.mem_cons.1 hy with
 | inl e=>
  obtain ⟨rfl,rfl⟩:=Prod.mk.inj e
  exact ⟨v,by simp [hn,hd],hx⟩
 | inr e=>
  obtain ⟨h1,h2⟩:=b9 e
  obtain ⟨u,hu,hr⟩:=hs k y h1
  refine ⟨u,?_,hr⟩
  rw [Array.getElem?_setIfInBounds_ne (fun e=>h2 e.symm)]
  exact hu
theorem R.put {TB:aF} {E:Env TB} {n:Sh} {s:St} {a:Act} {w':World} {own:List (Nat × OC)} {h:PH} {ρ:RM} {x:SV} {v:Value} {dst:Option Nat}
  (hd:a.defers = n.dfs) (hn:a.tmps.size = n.n) (hw:WR E n own h ρ w') (hs:bp h ρ s.slots a.tmps) (hx:x.rel h ρ v) :
  R E n (({ s with own:=own }:St).put n dst x) (a.put dst v) w':=by
 cases dst with
 | none=>exact ⟨hd,hn,h,ρ,hw,hs⟩
 | some d=>
  by_cases hdn:d < n.n
  ·refine ⟨hd,by simp [Act.put,hn],h,ρ,?_,?_⟩
   ·simpa [St.put,St.set,hdn] using hw
   ·simpa [St.put,St.set,hdn,Act.put] using hs.set hn hdn hx
  ·refine ⟨hd,by simp [Act.put,hn],h,ρ,?_,?_⟩
   ·simpa [St.put,St.set,hdn] using hw
   ·have:a.tmps.setIfInBounds d v = a.tmps:=by
     apply Array.ext_getElem?
     intro i
     by_cases hi:d = i
     ·subst hi; simp [hn,hdn]
     ·rw [Array.getElem?_setIfInBounds_ne hi]
    simpa [St.put,St.set,hdn,Act.put,this] using hs
theorem R.keep {TB:aF} {E:Env TB} {n:Sh} {s:St} {a:Act} {w:World} (ks kos:List Nat) (hr:R E n s a w):R E n (s.keep ks kos) a w:=by
 obtain ⟨hd,hn,h,ρ,hw,hs⟩:=hr
 exact ⟨hd,hn,h,ρ,hw.sub fun _ hp=>mw hp,fun _ _ hx=>hs _ _ (mw hx)⟩
def F':Value → Option CP
 | .int k n=>if k.min ≤ n ∧ n ≤ k.max then some (.int k n) else none
 | .bool b=>some (.bool b)
 | .string s=>if s.data.toList.length ≤ maxLen then some (.str s.data.toList) else none
 | .slice none 0 0=>some .nil
 | .func f a b=>some (.raw (.func f a b))
 | .nilFunc=>some (.raw .nilFunc)
 | .pointer none=>some (.raw (.pointer none))
 | .map none=>some (.raw (.map none))
 | _=>none
def F9:List Value → Option (List CP)
 | []=>some []
 | v :: l=>(F' v).bind fun c=>(F9 l).map (c :: ·)
def St.ev (s:St):Operand → Option SV
 | .tmp t=>s.get t
 | .const (.agg cs)=>(F9 cs.toList).map fun ps=>.b (.agg ps)
 | .const v=>(F' v).map fun c=>.b (.one c)
 | .func f=>some (.b (.one (.raw (.func (.func f) #[] #[]))))
 | .global _=>none
theorem Hk {v:Value} {c:CP} (hc:F' v = some c) (h:PH):c.rel h v:=by
 unfold F' at hc
 split at hc <;> first | (split at hc <;> simp at hc <;> subst hc <;> simp_all [CP.int,CP.str,kX]; done) | (simp at hc; subst hc; simp [CP.bool,CP.nil,CP.raw,Value.oneCell']; done) | simp at hc
theorem oo (h:PH):∀ {l:List Value} {ps:List CP},F9 l = some ps → aA h ps l
 | [],ps,e=>by simp [F9] at e; subst e; exact .nil
 | v :: l,ps,e=>by
  unfold F9 at e
  cases hc:F' v with
  | none=>simp [hc] at e
  | some c=>
   cases hl:F9 l with
   | none=>simp [hc,hl] at e
   | some q=>
    simp [hc,hl] at e
    subst e
    exact .cons (Hk hc h) (oo h hl)
theorem aC {h:PH} {ρ:RM} {s:St} {a:Act} (hs:bp h ρ s.slots a.tmps) {o:Operand} {x:SV} (he:s.ev o = some x):x.rel h ρ (a.eval o):=by
 cases o with
 | tmp t=>
  obtain ⟨v,hv,hr⟩:=hs _ _ (bh (show lk s.slots t = some x from he))
  have:a.eval (.tmp t) = v:=by simp [Act.eval,Array.getD_eq_getD_getElem?,hv]
  rw [this]; exact hr
 | const v=>
  cases v with
  | agg cs=>
   simp only [St.ev,Option.map_eq_some_iff] at he
   obtain ⟨ps,hps,rfl⟩:=he
   exact ⟨cs,rfl,oo h hps⟩
  | _=>
   simp only [St.ev,Option.map_eq_some_iff] at he
   obtain ⟨c,hc,rfl⟩:=he
   exact Hk hc h
 | global g=>simp [St.ev] at he
 | func f=>simp only [St.ev,Option.some.injEq] at he; subst he; exact ⟨rfl,rfl⟩
abbrev bF:=Exit → Act → World → Prop
def aR (P:Program) {TB:aF} (E:Env TB) (n:Sh) (o:Oper) (s s':St):Prop :=
 ∀ a w,R E n s a w → ∀ (next:Act → World → Prop) (Q:bF),(∀ a' w',R E n s' a' w' → next a' w') → o.wp P a w next Q
def Ops (P:Program) {TB:aF} (E:Env TB) (n:Sh) (ops:Array Oper) (is:List Nat) (s:St) (Q:bF):Prop:=∀ a w,R E n s a w → wpOps P ops Q is a w
def ah (P:Program) {TB:aF} (E:Env TB) (n:Sh) (c:Code) (s:St) (Q:bF):Prop:=∀ a w,R E n s a w → c.wp P Q a w
def Fin {TB:aF} (E:Env TB) (n:Sh) (e:Exit) (s:St) (Q:bF):Prop:=∀ a w,R E n s a w → Q e a w
section
variable {P:Program} {TB:aF} {E:Env TB} {n:Sh} {ops:Array Oper} {is:List Nat} {s s':St} {Q:bF} {i:Nat} {o:Oper} {c x y:Code}
theorem Ops.nil (h:Fin E n .normal s Q):Ops P E n ops [] s Q:=fun a w hr=>h a w hr
theorem Ops.keep (ks kos:List Nat) (hs:s.keep ks kos = s') (h:Ops P E n ops is s' Q):Ops P E n ops is s Q:=fun a w hr=>h a w (hs ▸ hr.keep ks kos)
theorem ah.keep (ks kos:List Nat) (hs:s.keep ks kos = s') (h:ah P E n c s' Q):ah P E n c s Q:=fun a w hr=>h a w (hs ▸ hr.keep ks kos)
theorem Fin.keep {e:Exit} (ks kos:List Nat) (hs:s.keep ks kos = s') (h:Fin E n e s' Q):Fin E n e s Q:=fun a w hr=>h a w (hs ▸ hr.keep ks kos)
theorem ah.region {id:Nat} (h:Ops P E n ops (List.range ops.size) s Q):ah P E n (.region id ops false) s Q:=fun a w hr=>wp_region (h a w hr)
theorem ah.seq (h:ah P E n x s (Exit.then (y.wp P Q) Q)):ah P E n (.seq x y) s Q:=fun a w hr=>wp_seq (h a w hr)
theorem ah.skip (h:Fin E n .normal s Q):ah P E n .skip s Q:=fun a w hr=>wp_skip (h a w hr)
theorem ah.ret (h:Fin E n .ret s Q):ah P E n .ret s Q:=fun a w hr=>wp_ret (h a w hr)
theorem ah.exit {id:Nat} (h:Fin E n (.exit id) s Q):ah P E n (.exit id) s Q:=fun a w hr=>wp_exit (h a w hr)
theorem ah.block {id:Nat} (h:ah P E n c s (Exit.inBlock id Q)):ah P E n (.block id c) s Q:=fun a w hr=>wp_block (h a w hr)
theorem ah.cond {t:Nat} {b:Bool} (hs:s.get t = some (.b (.one (.bool b)))) (h1:b = true → ah P E n x s Q) (h2:b = false → ah P E n y s Q):ah P E n (.cond (.tmp t) x y) s Q:=by
 intro a w hr
 obtain ⟨hdf,hn,h,ρ,hw,hsl⟩:=id hr
 have:a.eval (.tmp t) = .bool b:=aC hsl (o:=.tmp t) hs
 exact wp_cond_split this (fun e=>h1 e a w hr) (fun e=>h2 e a w hr)
theorem Fin.then (h:ah P E n y s Q):Fin E n .normal s (Exit.then (y.wp P Q) Q):=fun a w hr=>h a w hr
theorem Fin.cr {K:Act → World → Prop} (h:Fin E n .ret s Q):Fin E n .ret s (Exit.then K Q):=fun a w hr=>h a w hr
theorem Fin.bw {K:Act → World → Prop} {id:Nat} (h:Fin E n (.exit id) s Q):Fin E n (.exit id) s (Exit.then K Q):=fun a w hr=>h a w hr
theorem Fin.bD {id:Nat} (h:Fin E n .normal s Q):Fin E n .normal s (Exit.inBlock id Q):=fun a w hr=>h a w hr
theorem Fin.qF {id:Nat} (h:Fin E n .ret s Q):Fin E n .ret s (Exit.inBlock id Q):=fun a w hr=>h a w hr
theorem Fin.cJ {id:Nat} (h:Fin E n .normal s Q):Fin E n (.exit id) s (Exit.inBlock id Q):=fun a w hr=>by simp only [Exit.inBlock,if_true]; exact h a w hr
theorem Fin.eZ {id id':Nat} (hne:id' ≠ id) (h:Fin E n (.exit id') s Q):Fin E n (.exit id') s (Exit.inBlock id Q):=fun a w hr=>by simp only [Exit.inBlock,hne,if_false]; exact h a w hr
def Again {ι:Type} {TB:aF} (E:Env TB) (n:Sh) (S:ι → St) (I:ι → Prop) (μ:ι → Nat) (m:Nat) (a:Act) (w:World):Prop:=∃ j,I j ∧ μ j < m ∧ R E n (S j) a w
theorem ah.loop {ι:Type} (S:ι → St) (I:ι → Prop) (μ:ι → Nat) (j₀:ι) (h₀:I j₀) (hs:s = S j₀)
  (round:∀ j,I j → ah P E n c (S j) (Exit.then (Again E n S I μ (μ j)) Q)):ah P E n (.loop c) s Q:=by
 intro a w hr b k cs
 have key:∀ m j a w,μ j = m → I j → R E n (S j) a w → ∃ e a' w',Q e a' w' ∧ Arrives P (lone (b.at a (.code c :: .inLoop c :: k)) cs w) b k cs e a' w':=by
  intro m
  induction m using Nat.strongRecOn with
  | _ m ih=>
   intro j a w hm hI hr
   obtain ⟨e,a₁,w₁,hq,harr⟩:=round j hI a w hr b (.inLoop c :: k) cs
   cases e with
   | normal=>
    obtain ⟨j',hI',hlt,hr'⟩:=hq
    obtain ⟨e₂,a₂,w₂,hq₂,harr₂⟩:=ih (μ j') (hm ▸ hlt) j' a₁ w₁ rfl hI' hr'
    exact ⟨e₂,a₂,w₂,hq₂,.of_steps (Steps.trans harr (.one step_inLoop)) harr₂⟩
   | exit id=>exact ⟨_,a₁,w₁,hq,.pass (x:=.inLoop c) rfl (fun _ _=>.inl (by simp)) harr⟩
   | goto l=>exact ⟨_,a₁,w₁,hq,.pass (x:=.inLoop c) rfl (fun _ _=>.inl (by simp)) harr⟩
   | ret=>exact ⟨_,a₁,w₁,hq,.pass (x:=.inLoop c) rfl (fun _ _=>.inl (by simp)) harr⟩
   | panic ch=>exact ⟨_,a₁,w₁,hq,.pass (x:=.inLoop c) rfl (fun _ _=>.inl (by simp)) harr⟩
   | outgrown=>exact ⟨_,a₁,w₁,hq,.pass (x:=.inLoop c) rfl (fun _ _=>.inl (by simp)) harr⟩
 obtain ⟨e,a',w',hq,harr⟩:=key _ j₀ a w rfl h₀ (hs ▸ hr)
 exact ⟨e,a',w',hq,.of_steps (.one step_loop) harr⟩
theorem Fin.again {ι:Type} {S:ι → St} {I:ι → Prop} {μ:ι → Nat} {m:Nat} (j:ι) (hj:I j) (hm:μ j < m) (hs:s = S j):Fin E n .normal s (Exit.then (Again E n S I μ m) Q) :=
 fun _ _ hr=>⟨j,hj,hm,hs ▸ hr⟩
end
end Go.Sk
namespace Go.Sk
set_option linter.unusedSimpArgs false
set_option linter.unusedVariables false
open Go
def yx (P:Program) (ops:Array Oper) (Q:bF):List Oper → Act → World → Prop
 | [],a,w=>Q .normal a w
 | o :: rest,a,w=>if Region.wanted o (yielded ops a.tmps) then o.wp P a w (yx P ops Q rest) Q else yx P ops Q rest (a.put o.dst undef) w
def aj (P:Program) {TB:aF} (E:Env TB) (n:Sh) (ops:Array Oper) (l:List Oper) (s:St) (Q:bF):Prop:=∀ a w,R E n s a w → yx P ops Q l a w
theorem oq {P:Program} {ops:Array Oper} {Q:bF}:∀ (l:List Oper) (k:Nat),(∀ j,ops[k + j]? = l[j]?) → ∀ a w,yx P ops Q l a w → wpOps P ops Q (List.range' k l.length) a w
 | [],k,hl,a,w,h=>by simpa [wpOps,yx] using h
 | o :: l,k,hl,a,w,h=>by
  have h0:ops[k]? = some o:=by simpa using hl 0
  have hr:∀ j,ops[k + 1 + j]? = l[j]?:=fun j=>by have:=hl (j + 1); rw [Nat.add_assoc,Nat.add_comm 1 j]; simpa using this
  simp only [List.length_cons,List.range'_succ,wpOps,h0]
  unfold yx at h
  split
  ·rename_i hw
   simp only [hw,if_true] at h
   exact .inl (Oper.wp_mono (fun a w hh=>oq l (k + 1) hr a w hh) h)
  ·rename_i hw
   simp only [hw] at h
   exact oq l (k + 1) hr _ _ h
section
variable {P:Program} {TB:aF} {E:Env TB} {n:Sh} {ops:Array Oper} {l:List Oper} {s s':St} {Q:bF} {o:Oper}
def uN (P:Program) {TB:aF} (E:Env TB) (n:Sh) (ops:Array Oper) (s:St) (Q:bF):Prop:=∀ a w,R E n s a w → wpAny P .any ops Q ops.size (Array.replicate ops.size false) a { w with drawn:=w.drawn + 1 }
theorem ah.ofA {id:Nat} (hm:P.follows .mixedOrders = true) (h:uN P E n ops s Q):ah P E n (.region id ops true) s Q:=fun a w hr=>wp_region_any hm (h a w hr)
theorem ah.ab {id:Nat} {l:List Oper} (h:aj P E n l.toArray l s Q):ah P E n (.region id l.toArray false) s Q:=by
 refine ah.region fun a w hr=>?_
 have:=oq (P:=P) (ops:=l.toArray) (Q:=Q) l 0 (fun j=>by simp) a w (h a w hr)
 simpa [List.range_eq_range'] using this
theorem aj.cons (hg:o.guard = none) (h1:aR P E n o s s') (h2:aj P E n ops l s' Q):aj P E n ops (o :: l) s Q:=by
 intro a w hr
 unfold yx
 have:Region.wanted o (yielded ops a.tmps) = true:=by simp [Region.wanted,hg]
 simp only [this,if_true]
 exact h1 a w hr _ _ fun a' w' hr'=>h2 a' w' hr'
def uQ (ks:List Nat) (k:Nat):SV → SV
 | .opt c z=>if ks.contains k then .b z else .opt c z
 | y=>y
def uP:Nat → List Nat → List (Nat × SV) → List (Nat × SV)
 | 0,_,l=>l
 | _ + 1,_,[]=>[]
 | m + 1,ks,(k,x) :: l=>(k,uQ ks k x) :: uP m ks l
def eI:Nat → List Nat → List (Nat × SV) → Prop
 | 0,_,_=>True
 | _ + 1,_,[]=>True
 | m + 1,ks,(k,x) :: l=>match x with
  | .opt c _=>if ks.contains k then c = true ∧ eI m ks l else eI m ks l
  | _=>eI m ks l
def St.px (m:Nat) (ks:List Nat) (s:St):St:=⟨uP m ks s.slots,s.own⟩
theorem wg (ks:List Nat) (k:Nat) (x:SV):uQ ks k x = x ∨ ∃ c z,x = .opt c z ∧ ks.contains k = true ∧ uQ ks k x = .b z:=by
 cases x with
 | opt c z=>
  cases hk:ks.contains k with
  | true=>exact .inr ⟨c,z,rfl,rfl,by simp only [uQ,hk,if_true]⟩
  | false=>exact .inl (by simp only [uQ,hk,Bool.false_eq_true,if_false])
 | b z=>exact .inl rfl
 | kU z=>exact .inl rfl
 | jX z=>exact .inl rfl
theorem uw {m:Nat} {ks:List Nat} {k:Nat} {x:SV} {l:List (Nat × SV)} (h:eI (m + 1) ks ((k,x) :: l)):eI m ks l:=by
 unfold eI at h
 cases x with
 | opt c z=>
  dsimp only at h
  split at h
  ·exact h.2
  ·exact h
 | b z=>exact h
 | kU z=>exact h
 | jX z=>exact h
theorem As {ks:List Nat}:∀ {m:Nat} {l:List (Nat × SV)} {k:Nat} {y:SV},(k,y) ∈ uP m ks l → eI m ks l → (k,y) ∈ l ∨ ∃ c z,y = .b z ∧ (k,.opt c z) ∈ l ∧ c = true
 | 0,l,k,y,h,_=>.inl h
 | m + 1,[],k,y,h,_=>.inl h
 | m + 1,(j,x) :: l,k,y,h,hc=>by
  cases List.mem_cons.1 h with
  | inl e=>
   obtain ⟨rfl,rfl⟩:=Prod.mk.inj e
   rcases wg ks k x with h1 | ⟨c,z,rfl,hk,h1⟩
   ·rw [h1]; exact .inl List.mem_cons_self
   ·rw [h1]
    refine .inr ⟨c,z,rfl,List.mem_cons_self,?_⟩
    unfold eI at hc
    simp only [hk,if_true] at hc
    exact hc.1
  | inr e=>
   rcases As e (uw hc) with h | ⟨c',z',h1,h2,h3⟩
   ·exact .inl (List.mem_cons_of_mem _ h)
   ·exact .inr ⟨c',z',h1,List.mem_cons_of_mem _ h2,h3⟩
theorem re {ks:List Nat}:∀ {m:Nat} {l:List (Nat × SV)} {k:Nat} {y:SV},(k,y) ∈ l → eI m ks l → (k,y) ∈ uP m ks l ∨ ∃ c z,y = .opt c z ∧ c = true ∧ (k,.b z) ∈ uP m ks l
 | 0,l,k,y,h,_=>.inl h
 | m + 1,(j,x) :: l,k,y,h,hc=>by
  cases List.mem_cons.1 h with
  | inl e=>
   obtain ⟨rfl,rfl⟩:=Prod.mk.inj e
   rcases wg ks k y with h1 | ⟨c,z,rfl,hk,h1⟩
   ·refine .inl ?_
    show (k,y) ∈ (k,uQ ks k y) :: uP m ks l
    rw [h1]; exact List.mem_cons_self
   ·unfold eI at hc
    simp only [hk,if_true] at hc
    refine .inr ⟨c,z,rfl,hc.1,?_⟩
    show (k,SV.b z) ∈ (k,uQ ks k (.opt c z)) :: uP m ks l
    rw [h1]; exact List.mem_cons_self
  | inr e=>
   rcases re (ks:=ks) (m:=m) e (uw hc) with h | ⟨c,z,h1,h2,h3⟩
   ·exact .inl (List.mem_cons_of_mem _ h)
   ·exact .inr ⟨c,z,h1,h2,List.mem_cons_of_mem _ h3⟩
theorem R.px {a:Act} {w:World} {m:Nat} {ks:List Nat} (hr:R E n s a w) (hc:eI m ks s.slots):R E n (s.px m ks) a w:=by
 obtain ⟨h1,h2,h,ρ,hw,hs⟩:=hr
 refine ⟨h1,h2,h,ρ,hw,fun k y hy=>?_⟩
 rcases As hy hc with hm | ⟨c,z,rfl,hm,hct⟩
 ·exact hs k y hm
 ·obtain ⟨v,hv,hrel⟩:=hs k _ hm
  exact ⟨v,hv,hrel.1 hct⟩
theorem uL {a:Act} {w:World} {m:Nat} {ks:List Nat} {dst:Option Nat} {b:Bool} {z:BV} (hb:b = true) (hc:eI m ks s.slots) (hr:R E n ((s.px m ks).put n dst (.b z)) a w):R E n (s.put n dst (.opt b z)) a w:=by
 obtain ⟨h1,h2,h,ρ,hw,hs⟩:=hr
 have hback:∀ {L l:List (Nat × SV)},bp h ρ L a.tmps → (∀ p,p ∈ l → p ∈ L ∨ ∃ c z,p.2 = .opt c z ∧ c = true ∧ (p.1,.b z) ∈ L) → bp h ρ l a.tmps:=fun {L l} hl hsub k y hy=>by
  rcases hsub _ hy with hm | ⟨c,z,hyz,hct,hm⟩
  ·exact hl k y hm
  ·obtain ⟨v,hv,hrel⟩:=hl k _ hm
   have hy2:y = .opt c z:=hyz
   exact ⟨v,hv,by rw [hy2,hct]; exact ⟨fun _=>hrel,fun e=>by simp at e⟩⟩
 cases dst with
 | none=>exact ⟨h1,h2,h,ρ,hw,hback hs fun p hp=>re hp hc⟩
 | some d=>
  simp only [St.put,St.set,St.px] at hw hs ⊢
  split at hs
  ·rename_i hdn
   simp only [hdn,if_true] at hw ⊢
   refine ⟨h1,h2,h,ρ,hw,?_⟩
   refine hback hs fun p hp=>?_
   cases List.mem_cons.1 hp with
   | inl e=>subst e; exact .inr ⟨b,z,rfl,hb,List.mem_cons_self⟩
   | inr e=>
    obtain ⟨e1,e2⟩:=b9 e
    rcases re (m:=m) (ks:=ks) (k:=p.1) (y:=p.2) e1 hc with hm | ⟨c,z',h3,hct,hm⟩
    ·exact .inl (List.mem_cons_of_mem _ (cV hm e2))
    ·exact .inr ⟨c,z',h3,hct,List.mem_cons_of_mem _ (cV hm e2)⟩
  ·rename_i hdn
   simp only [hdn,if_false] at hw ⊢
   exact ⟨h1,h2,h,ρ,hw,hback hs fun p hp=>re hp hc⟩
inductive mK (s:St) (t:Nat) (want:Bool):Bool → Prop
 | plain {b:Bool} (h:s.get t = some (.b (.one (.bool b)))):mK s t want (b == want)
 | under {c b:Bool} (h:s.get t = some (.opt c (.one (.bool b)))):mK s t want (c && (b == want))
theorem mK.wanted {j t:Nat} {want gd:Bool} (hG:mK s t want gd) (hg:o.guard = some (j,want)) (hj:(ops[j]?).bind (·.dst) = some t) {a:Act} {w:World} (hr:R E n s a w):Region.wanted o (yielded ops a.tmps) = gd:=by
 obtain ⟨hdf,hn,h,ρ,hw,hsl⟩:=hr
 cases hG with
 | @plain b hs=>
  obtain ⟨v,hv,hrel⟩:=hsl _ _ (bh (show lk s.slots t = some _ from hs))
  have hvb:v = .bool b:=hrel
  subst hvb
  have hy:yielded ops a.tmps j = some b:=by simp [yielded,hj,hv]
  simp [Region.wanted,hg,hy]
 | @under c b hs=>
  obtain ⟨v,hv,hrel⟩:=hsl _ _ (bh (show lk s.slots t = some _ from hs))
  cases c with
  | true=>
   have hvb:v = .bool b:=hrel.1 rfl
   subst hvb
   have hy:yielded ops a.tmps j = some b:=by simp [yielded,hj,hv]
   simp [Region.wanted,hg,hy]
  | false=>
   have hvb:v = undef:=hrel.2 rfl
   subst hvb
   have hy:yielded ops a.tmps j = none:=by simp [yielded,hj,hv,undef]
   simp [Region.wanted,hg,hy]
theorem aj.pA {j t:Nat} {want gd:Bool} {z:BV} (gd':Bool) (m:Nat) (ks:List Nat) (hG:mK s t want gd) (hgd:gd = gd') (hg:o.guard = some (j,want)) (hj:(ops[j]?).bind (·.dst) = some t)
  (hc:gd' = true → eI m ks s.slots) (h1:gd' = true → aR P E n o (s.px m ks) ((s.px m ks).put n o.dst (.b z))) (h2:aj P E n ops l (s.put n o.dst (.opt gd' z)) Q) :
  aj P E n ops (o :: l) s Q:=by
 subst hgd
 intro a w hr
 unfold yx
 have hwant:=hG.wanted hg hj hr
 cases hb:gd with
 | true=>
  rw [hb] at hwant
  simp only [hwant,if_true]
  exact h1 hb a w (hr.px (hc hb)) _ _ fun a' w' hr'=>h2 a' w' (uL hb (hc hb) hr')
 | false=>
  rw [hb] at hwant
  simp only [hwant,Bool.false_eq_true,if_false]
  refine h2 _ _ ?_
  rw [hb]
  obtain ⟨hdf,hn,h,ρ,hw,hsl⟩:=hr
  exact R.put (s:=s) hdf hn hw hsl ⟨fun e=>by simp at e,fun _=>rfl⟩
theorem ji (b:Bool):(b == true) = b:=by cases b <;> rfl
theorem eq_f (b:Bool):(b == false) = !b:=by cases b <;> rfl
theorem and_t (c b:Bool):(c && (b == true)) = (c && b):=by cases b <;> rfl
theorem aj.nil (h:Fin E n .normal s Q):aj P E n ops [] s Q:=fun a w hr=>h a w hr
theorem aj.nilK {y:Code} (ks kos:List Nat) (hs:s.keep ks kos = s') (h:ah P E n y s' Q):aj P E n ops [] s (Exit.then (y.wp P Q) Q):=fun a w hr=>h a w (hs ▸ hr.keep ks kos)
theorem aj.keep (ks kos:List Nat) (hs:s.keep ks kos = s') (h:aj P E n ops l s' Q):aj P E n ops l s Q:=fun a w hr=>h a w (hs ▸ hr.keep ks kos)
theorem aR.val {x:SV} (H:∀ (a:Act) (w:World) (h:PH) (ρ:RM),WR E n s.own h ρ w → bp h ρ s.slots a.tmps → ∃ v,(execOp a.eval o).run P w = .ok (.value v) w ∧ x.rel h ρ v):aR P E n o s (s.put n o.dst x):=by
 intro a w ⟨hdf,hn,h,ρ,hw,hs⟩ next Q hnext
 obtain ⟨v,hv,hx⟩:=H a w h ρ hw hs
 unfold Oper.wp
 rw [hv]
 exact hnext _ _ (R.put (s:=s) hdf hn hw hs hx)
end
theorem vC (a b:Int):(a == b) = decide (a = b):=by rw [Bool.eq_iff_iff]; simp
theorem xm (l:Str):(⟨⟨l⟩⟩:ByteArray).toList = l:=by rw [ByteArray.toList_eq]
theorem yT (a b:Str):((⟨⟨a⟩⟩:ByteArray).toList == (⟨⟨b⟩⟩:ByteArray).toList) = decide (a = b):=by
 rw [xm,xm,Bool.eq_iff_iff]
 simp
theorem lj (k:IntKind) (z:Int):kX k (k.wrap z):=by
 unfold kX
 cases k <;> simp [IntKind.wrap,IntKind.min,IntKind.max,IntKind.signed,IntKind.bits] <;> (try split) <;> omega
theorem Ei {k:IntKind} {z:Int} (h:kX k z):k.wrap z = z:=by
 unfold kX at h
 cases k <;> simp [IntKind.wrap,IntKind.min,IntKind.max,IntKind.signed,IntKind.bits] at h ⊢ <;> (try split) <;> omega
theorem Cx {z:Int} (h1:-9223372036854775808 ≤ z) (h2:z ≤ 9223372036854775807):kX .i64 z:=by
 simp [kX,IntKind.min,IntKind.max,IntKind.signed,IntKind.bits]; omega
theorem EN {z:Int}:kX .i64 z ↔ -9223372036854775808 ≤ z ∧ z ≤ 9223372036854775807:=by
 simp [kX,IntKind.min,IntKind.max,IntKind.signed,IntKind.bits]
abbrev I (n:Int):SV:=.b (.one (.int .i64 n))
abbrev B (b:Bool):SV:=.b (.one (.bool b))
abbrev CP.i (n:Int):CP:=.int .i64 n
section
variable {P:Program} {TB:aF} {E:Env TB} {n:Sh} {s:St} {dst:Option Nat} {t ty yt:TypeId} {pos:String} {after:Array Edge} {g:Option (Nat × Bool)} {x y c:Operand} {k:IntKind} {a b:Int}
theorem cE {z:SV} (hx:s.ev x = some z):aR P E n ⟨dst,.move x,ty,pos,after,g⟩ s (s.put n dst z) :=
 aR.val (o:=⟨dst,.move x,ty,pos,after,g⟩) fun _ _ _ _ _ hs=>⟨_,rfl,aC hs hx⟩
theorem xk {z:SV} (hx:s.ev x = some z):aR P E n ⟨dst,.assign x,ty,pos,after,g⟩ s (s.put n dst z) :=
 aR.val (o:=⟨dst,.assign x,ty,pos,after,g⟩) fun _ _ _ _ _ hs=>⟨_,rfl,aC hs hx⟩
theorem bG {h:PH} {ρ:RM} {ac:Act} (hs:bp h ρ s.slots ac.tmps) (hx:s.ev x = some (.b (.one (.int k a)))):ac.eval x = .int k a ∧ kX k a:=aC hs hx
theorem oi {h:PH} {ρ:RM} {ac:Act} {b:Bool} (hs:bp h ρ s.slots ac.tmps) (hx:s.ev x = some (B b)):ac.eval x = .bool b:=aC hs hx
theorem la {h:PH} {ρ:RM} {ac:Act} {z:Str} (hs:bp h ρ s.slots ac.tmps) (hx:s.ev x = some (.b (.one (.str z)))):ac.eval x = .string ⟨⟨z⟩⟩ ∧ z.length ≤ maxLen:=aC hs hx
theorem Ek {op:BinOp} {f:Int → Int → Int} (w:World) (u v:Operand) (hop:op = .add ∧ f = (· + ·) ∨ op = .sub ∧ f = (· - ·) ∨ op = .mul ∧ f = (· * ·)) :
  (do eqGuard op t u v (.int k a) (.int k b); binOp op t (.int k a) (.int k b):Sem Value).run P w = .ok (.int k (k.wrap (f a b))) w:=by
 rcases hop with ⟨rfl,rfl⟩ | ⟨rfl,rfl⟩ | ⟨rfl,rfl⟩ <;> simp [eqGuard,binOp,Op.intArith]
theorem zP {op:BinOp} {f:Int → Int → Int} (hop:op = .add ∧ f = (· + ·) ∨ op = .sub ∧ f = (· - ·) ∨ op = .mul ∧ f = (· * ·)) (hx:s.ev x = some (.b (.one (.int k a)))) (hy:s.ev y = some (.b (.one (.int k b)))) :
  aR P E n ⟨dst,.binOp op t x y yt,ty,pos,after,g⟩ s (s.put n dst (.b (.one (.int k (k.wrap (f a b)))))) :=
 aR.val (o:=⟨dst,.binOp op t x y yt,ty,pos,after,g⟩) fun ac w h ρ hw hs=>by
  refine ⟨.int k (k.wrap (f a b)),?_,rfl,lj _ _⟩
  have:=Ek (P:=P) (t:=t) (k:=k) (a:=a) (b:=b) (f:=f) w x y hop
  simp only [execOp,(bG hs hx).1,(bG hs hy).1]
  rw [Sem.run_bind,this]; rfl
theorem ef (hx:s.ev x = some (.b (.one (.int k a)))) (hy:s.ev y = some (.b (.one (.int k b)))):aR P E n ⟨dst,.binOp .add t x y yt,ty,pos,after,g⟩ s (s.put n dst (.b (.one (.int k (k.wrap (a + b)))))) :=
 zP (f:=(· + ·)) (.inl ⟨rfl,rfl⟩) hx hy
theorem wW (hx:s.ev x = some (.b (.one (.int k a)))) (hy:s.ev y = some (.b (.one (.int k b)))):aR P E n ⟨dst,.binOp .sub t x y yt,ty,pos,after,g⟩ s (s.put n dst (.b (.one (.int k (k.wrap (a - b)))))) :=
 zP (f:=(· - ·)) (.inr (.inl ⟨rfl,rfl⟩)) hx hy
theorem I9 (hx:s.ev x = some (.b (.one (.int k a)))) (hy:s.ev y = some (.b (.one (.int k b)))):aR P E n ⟨dst,.binOp .mul t x y yt,ty,pos,after,g⟩ s (s.put n dst (.b (.one (.int k (k.wrap (a * b)))))) :=
 zP (f:=(· * ·)) (.inr (.inr ⟨rfl,rfl⟩)) hx hy
theorem wY {op:BinOp} {f:Int → Int → Bool} (hop:(do eqGuard op t x y (.int k a) (.int k b); binOp op t (.int k a) (.int k b):Sem Value) = (pure (.bool (f a b)):Sem Value))
  (hx:s.ev x = some (.b (.one (.int k a)))) (hy:s.ev y = some (.b (.one (.int k b)))) :
  aR P E n ⟨dst,.binOp op t x y yt,ty,pos,after,g⟩ s (s.put n dst (B (f a b))) :=
 aR.val (o:=⟨dst,.binOp op t x y yt,ty,pos,after,g⟩) fun ac w h ρ hw hs=>by
  refine ⟨.bool (f a b),?_,rfl⟩
  simp only [execOp,(bG hs hx).1,(bG hs hy).1]
  rw [Sem.run_bind,hop]; rfl
theorem k8 (hx:s.ev x = some (.b (.one (.int k a)))) (hy:s.ev y = some (.b (.one (.int k b)))):aR P E n ⟨dst,.binOp .lss t x y yt,ty,pos,after,g⟩ s (s.put n dst (B (decide (a < b)))) :=
 wY (f:=fun a b=>decide (a < b)) (by simp [eqGuard,binOp,Op.intCmp]) hx hy
theorem op_leq (hx:s.ev x = some (.b (.one (.int k a)))) (hy:s.ev y = some (.b (.one (.int k b)))):aR P E n ⟨dst,.binOp .leq t x y yt,ty,pos,after,g⟩ s (s.put n dst (B (decide (a ≤ b)))) :=
 wY (f:=fun a b=>decide (a ≤ b)) (by simp [eqGuard,binOp,Op.intCmp]) hx hy
theorem oJ (hx:s.ev x = some (.b (.one (.int k a)))) (hy:s.ev y = some (.b (.one (.int k b)))):aR P E n ⟨dst,.binOp .gtr t x y yt,ty,pos,after,g⟩ s (s.put n dst (B (decide (b < a)))) :=
 wY (f:=fun a b=>decide (b < a)) (by simp [eqGuard,binOp,Op.intCmp]) hx hy
theorem I' (hx:s.ev x = some (.b (.one (.int k a)))) (hy:s.ev y = some (.b (.one (.int k b)))):aR P E n ⟨dst,.binOp .geq t x y yt,ty,pos,after,g⟩ s (s.put n dst (B (decide (b ≤ a)))) :=
 wY (f:=fun a b=>decide (b ≤ a)) (by simp [eqGuard,binOp,Op.intCmp]) hx hy
theorem nF (hx:s.ev x = some (.b (.one (.int k a)))) (hy:s.ev y = some (.b (.one (.int k b)))):aR P E n ⟨dst,.binOp .eql t x y yt,ty,pos,after,g⟩ s (s.put n dst (B (decide (a = b)))) :=
 wY (f:=fun a b=>decide (a = b)) (by simp [eqGuard,binOp,Op.intCmp,vC]) hx hy
theorem wX (hx:s.ev x = some (.b (.one (.int k a)))) (hy:s.ev y = some (.b (.one (.int k b)))):aR P E n ⟨dst,.binOp .neq t x y yt,ty,pos,after,g⟩ s (s.put n dst (B (decide (a ≠ b)))) :=
 wY (f:=fun a b=>decide (a ≠ b)) (by simp [eqGuard,binOp,Op.intCmp,bne,vC]) hx hy
theorem Cd {b:Bool} (hx:s.ev x = some (B b)):aR P E n ⟨dst,.unOp .not t x,ty,pos,after,g⟩ s (s.put n dst (B (!b))) :=
 aR.val (o:=⟨dst,.unOp .not t x,ty,pos,after,g⟩) fun ac w h ρ hw hs=>⟨.bool (!b),by simp [execOp,oi hs hx,Op.unary],rfl⟩
theorem op_neg (hx:s.ev x = some (.b (.one (.int k a)))):aR P E n ⟨dst,.unOp .neg t x,ty,pos,after,g⟩ s (s.put n dst (.b (.one (.int k (k.wrap (-a)))))) :=
 aR.val (o:=⟨dst,.unOp .neg t x,ty,pos,after,g⟩) fun ac w h ρ hw hs=>⟨.int k (k.wrap (-a)),by simp [execOp,(bG hs hx).1,Op.unary,Op.intArith],rfl,lj _ _⟩
theorem fJ {b z gd:Bool} {d:SV} (hg:b = true → gd = true) (hx:s.ev x = some (B b)) (hy:s.ev y = some (.opt gd (.one (.bool z)))) (hc:s.ev c = some d) (hd:d = B false:=by rfl) :
  aR P E n ⟨dst,.pick x y c,ty,pos,after,g⟩ s (s.put n dst (B (b && z))) :=
 aR.val (o:=⟨dst,.pick x y c,ty,pos,after,g⟩) fun ac w h ρ hw hs=>by
  subst hd
  refine ⟨.bool (b && z),?_,rfl⟩
  have h2:gd = true → ac.eval y = .bool z:=(aC hs hy).1
  have h3:ac.eval c = .bool false:=aC hs hc
  cases b
  ·simp [execOp,oi hs hx,asBool,h3]
  ·simp [execOp,oi hs hx,asBool,h2 (hg rfl)]
theorem ff {b z gd:Bool} {d:SV} (hg:b = false → gd = true) (hx:s.ev x = some (B b)) (hy:s.ev y = some d) (hc:s.ev c = some (.opt gd (.one (.bool z)))) (hd:d = B true:=by rfl) :
  aR P E n ⟨dst,.pick x y c,ty,pos,after,g⟩ s (s.put n dst (B (b || z))) :=
 aR.val (o:=⟨dst,.pick x y c,ty,pos,after,g⟩) fun ac w h ρ hw hs=>by
  subst hd
  refine ⟨.bool (b || z),?_,rfl⟩
  have h2:gd = true → ac.eval c = .bool z:=(aC hs hc).1
  have h3:ac.eval y = .bool true:=aC hs hy
  cases b
  ·simp [execOp,oi hs hx,asBool,h2 (hg rfl)]
  ·simp [execOp,oi hs hx,asBool,h3]
theorem Ez {b d:Bool} (ht:P.underlying t = some .bool) (hx:s.ev x = some (B b)) (hy:s.ev y = some (B d)):aR P E n ⟨dst,.binOp .eql t x y yt,ty,pos,after,g⟩ s (s.put n dst (B (b == d))) :=
 aR.val (o:=⟨dst,.binOp .eql t x y yt,ty,pos,after,g⟩) fun ac w h ρ hw hs=>by
  refine ⟨.bool (b == d),?_,rfl⟩
  simp only [execOp,oi hs hx,oi hs hy]
  simp [eqGuard,binOp,run_equal_bool _ _ _ _ ht]
theorem yb {b d:Bool} (ht:P.underlying t = some .bool) (hx:s.ev x = some (B b)) (hy:s.ev y = some (B d)):aR P E n ⟨dst,.binOp .neq t x y yt,ty,pos,after,g⟩ s (s.put n dst (B (b != d))) :=
 aR.val (o:=⟨dst,.binOp .neq t x y yt,ty,pos,after,g⟩) fun ac w h ρ hw hs=>by
  refine ⟨.bool (b != d),?_,rfl⟩
  simp only [execOp,oi hs hx,oi hs hy]
  simp [eqGuard,binOp,bne,run_equal_bool _ _ _ _ ht]
theorem u5 {u v:Str} (hx:s.ev x = some (.b (.one (.str u)))) (hy:s.ev y = some (.b (.one (.str v)))):aR P E n ⟨dst,.binOp .eql t x y yt,ty,pos,after,g⟩ s (s.put n dst (B (decide (u = v)))) :=
 aR.val (o:=⟨dst,.binOp .eql t x y yt,ty,pos,after,g⟩) fun ac w h ρ hw hs=>by
  refine ⟨.bool (decide (u = v)),?_,rfl⟩
  simp only [execOp,(la hs hx).1,(la hs hy).1]
  simp [eqGuard,binOp,Op.stringOp,← yT]
theorem uZ {u v:Str} (hx:s.ev x = some (.b (.one (.str u)))) (hy:s.ev y = some (.b (.one (.str v)))):aR P E n ⟨dst,.binOp .neq t x y yt,ty,pos,after,g⟩ s (s.put n dst (B (decide (u ≠ v)))) :=
 aR.val (o:=⟨dst,.binOp .neq t x y yt,ty,pos,after,g⟩) fun ac w h ρ hw hs=>by
  refine ⟨.bool (decide (u ≠ v)),?_,rfl⟩
  simp only [execOp,(la hs hx).1,(la hs hy).1]
  simp [eqGuard,binOp,Op.stringOp,← yT]
end
end Go.Sk
namespace Go.Sk
set_option linter.unusedSimpArgs false
set_option linter.unusedVariables false
open Go
def ins {α:Type} (k:Nat) (c:α):List (Nat × α) → List (Nat × α)
 | []=>[(k,c)]
 | (j,x) :: l=>if k == j then (k,c) :: del k l else (j,x) :: ins k c l
theorem iu {α:Type} {k:Nat} {c:α}:∀ {l:List (Nat × α)} {j:Nat} {x:α},(j,x) ∈ ins k c l → (j = k ∧ x = c) ∨ (j ≠ k ∧ (j,x) ∈ l)
 | [],j,x,h=>by simp [ins] at h; exact .inl h
 | (i,y) :: l,j,x,h=>by
  unfold ins at h
  split at h
  ·cases List.mem_cons.1 h with
   | inl e=>obtain ⟨rfl,rfl⟩:=Prod.mk.inj e; exact .inl ⟨rfl,rfl⟩
   | inr e=>exact .inr ⟨(b9 e).2,List.mem_cons_of_mem _ (b9 e).1⟩
  ·rename_i hne
   cases List.mem_cons.1 h with
   | inl e=>
    obtain ⟨rfl,rfl⟩:=Prod.mk.inj e
    exact .inr ⟨fun e=>hne (by simp [e]),List.mem_cons_self⟩
   | inr e=>
    rcases iu e with h | ⟨h1,h2⟩
    ·exact .inl h
    ·exact .inr ⟨h1,List.mem_cons_of_mem _ h2⟩
def oy (ρ:RM) (k:Nat) (v:Value):RM:=fun j=>if j = k then v else ρ j
theorem cG (ρ:RM) (k:Nat) (v:Value):oy ρ k v k = v:=by simp [oy]
theorem eX (ρ:RM) {j k:Nat} (v:Value) (h:j ≠ k):oy ρ k v j = ρ j:=by simp [oy,h]
def cn (k:Nat):List (Nat × SV) → List (Nat × SV)
 | []=>[]
 | (j,x) :: l=>if x.bd k then cn k l else (j,x) :: cn k l
theorem fF {k:Nat}:∀ {l:List (Nat × SV)} {p:Nat × SV},p ∈ cn k l → p ∈ l ∧ p.2.bd k = false
 | (j,x) :: l,p,h=>by
  unfold cn at h
  split at h
  ·exact ⟨List.mem_cons_of_mem _ (fF h).1,(fF h).2⟩
  ·rename_i hx
   cases List.mem_cons.1 h with
   | inl e=>subst e; exact ⟨List.mem_cons_self,by simpa using hx⟩
   | inr e=>exact ⟨List.mem_cons_of_mem _ (fF e).1,(fF e).2⟩
theorem bp.cn {h:PH} {ρ:RM} {slots:List (Nat × SV)} {tmps:Array Value} (hs:bp h ρ slots tmps) (k:Nat) (v:Value):bp h (oy ρ k v) (cn k slots) tmps:=by
 intro j x hx
 obtain ⟨h1,h2⟩:=fF hx
 obtain ⟨u,hu,hr⟩:=hs j x h1
 exact ⟨u,hu,SV.mono (PH.le_refl h) (fun i hi=>eX ρ v (fun e=>by subst e; simp [h2] at hi)) hr⟩
theorem bp.mono {h h':PH} {ρ:RM} {slots:List (Nat × SV)} {tmps:Array Value} (hl:h.le h') (hs:bp h ρ slots tmps):bp h' ρ slots tmps :=
 fun j x hx=>let ⟨u,hu,hr⟩:=hs j x hx; ⟨u,hu,SV.mono hl (fun _ _=>rfl) hr⟩
theorem uv {w w':World} {e:TypeId} {size n:Nat} {v:Value} {xs:List Value} (ho:w.ownsRow 0 e size v n xs) (hb:∀ b,aZ v = some b → w'.heap[b]? = w.heap[b]?):w'.ownsRow 0 e size v n xs:=by
 refine ⟨ho.1,?_⟩
 rcases ho.2 with h | ⟨g,cap,cur,rfl,h1,h2,h3⟩
 ·exact .inl h
 ·exact .inr ⟨g,cap,cur,rfl,h1,by rw [hb g rfl]; exact h2,h3⟩
theorem Gv.congr {h:PH} {w w':World} {e:TypeId} {size:Nat} {u:Value} {es:List (List CP)} (x:Gv h w e size u es) (hb:∀ b,aZ u = some b → w'.heap[b]? = w.heap[b]?):Gv h w' e size u es :=
 ⟨x.uni,let ⟨xs,h1,h2⟩:=x.row; ⟨xs,uv h1 hb,h2⟩⟩
theorem ze.inner {h:PH} {v:Value} {w:World} {T e:TypeId} {size:Nat} {hole:Dm} {ess:List (List (List CP))} {us:List Value} (x:ze h v w T e size hole ess us) {b:Nat} :
  (OC.rr T e size hole ess).inner v w b ↔ ∃ (i:Nat) (u:Value),us[i]? = some u ∧ ¬ hole.has i ∧ aZ u = some b:=by
 have hout:=x.out
 constructor
 ·rintro ⟨g,cur,T',fr,i,u,h1,h2,h3,h4,h5⟩
  rcases hout.2 with ⟨rfl,hn⟩ | ⟨g',cap,cur',rfl,_,h6,h7,h8,h9,h10⟩
  ·simp [aZ] at h1
  ·simp [aZ] at h1
   subst h1
   rw [h6] at h2
   cases h2
   refine ⟨i,u,?_,h5⟩
   rw [← h10,List.getElem?_take,if_pos (by omega)]
   simpa using h4
 ·rintro ⟨i,u,h1,h2,h3⟩
  rcases hout.2 with ⟨rfl,hn⟩ | ⟨g',cap,cur',rfl,_,h6,h7,h8,h9,h10⟩
  ·have:=hout.1
   have h4:i < us.length:=(List.getElem?_eq_some_iff.1 h1).1
   omega
  ·have h4:i < us.length:=(List.getElem?_eq_some_iff.1 h1).1
   have h5:=hout.1
   refine ⟨g',cur',T,(0,0),i,u,rfl,h6,by omega,?_,h2,h3⟩
   rw [← h10,List.getElem?_take,if_pos (by omega)] at h1
   simpa using h1
theorem OC.ok.congr {c:OC} {h:PH} {ρ:RM} {v:Value} {w w':World} (hc:c.ok h ρ v w) (hf:∀ b,c.du v w b → w'.heap[b]? = w.heap[b]?):c.ok h ρ v w':=by
 have hb:∀ b,aZ v = some b → w'.heap[b]? = w.heap[b]?:=fun b h=>hf b (.inl h)
 cases c with
 | AR j m rest cur=>
  obtain ⟨b,ms,clk,D,seen,x⟩:=hc
  exact ⟨b,ms,clk,D,seen,x.ptr,by rw [hb D (by rw [x.ptr]; rfl)]; exact x.it,x.map,by rw [hf b (.inr ⟨D,clk,seen,clk,by rw [x.ptr]; rfl,x.it⟩)]; exact x.obj,x.ents,x.born,x.left,x.at_⟩
 | rr T e size hole ess=>
  obtain ⟨us,x⟩:=hc
  refine ⟨us,x.pos,uv x.out hb,x.one,fun i u es h1 h2 h3=>(x.rows i u es h1 h2 h3).congr fun b h4=>hf b (.inr (x.inner.2 ⟨i,u,h1,h3,h4⟩)),x.sep,x.self⟩
 | box T ps=>
  obtain ⟨b,cur,rfl,h2,h3⟩:=hc
  exact ⟨b,cur,rfl,by rw [hb b rfl]; exact h2,h3⟩
 | sit q pos=>
  obtain ⟨b,rfl,h2,h3⟩:=hc
  exact ⟨b,rfl,by rw [hb b rfl]; exact h2,h3⟩
 | mp es=>
  obtain ⟨b,ms,clk,rfl,h2,h3⟩:=hc
  exact ⟨b,ms,clk,rfl,by rw [hb b rfl]; exact h2,h3⟩
 | mq m=>
  obtain ⟨b,ms,clk,rfl,h2,h3⟩:=hc
  exact ⟨b,ms,clk,rfl,by rw [hb b rfl]; exact h2,h3⟩
 | ba T ps=>
  obtain ⟨b,cur,rfl,h2,h3⟩:=hc
  exact ⟨b,cur,rfl,by rw [hb b rfl]; exact h2,h3⟩
 | row T size es=>
  obtain ⟨hu,hz,xs,⟨hl,ho⟩,hr⟩:=hc
  refine ⟨hu,hz,xs,⟨hl,?_⟩,hr⟩
  rcases ho with ho | ⟨g,cap,cur,rfl,h1,h2,h3⟩
  ·exact .inl ho
  ·exact .inr ⟨g,cap,cur,rfl,h1,by rw [hb g rfl]; exact h2,h3⟩
 | oe T size es=>
  obtain ⟨hu,hz,xs,⟨hl,ho⟩,hr⟩:=hc
  refine ⟨hu,hz,xs,⟨hl,?_⟩,hr⟩
  rcases ho with ho | ⟨g,cap,cur,rfl,h1,h2,h3⟩
  ·exact .inl ho
  ·exact .inr ⟨g,cap,cur,rfl,h1,by rw [hb g rfl]; exact h2,h3⟩
 | B3 T size es=>
  obtain ⟨hu,hz,xs,⟨hl,ho⟩,hr⟩:=hc
  refine ⟨hu,hz,xs,⟨hl,?_⟩,hr⟩
  rcases ho with ho | ⟨g,off,cap,cur,rfl,h2,h3⟩
  ·exact .inl ho
  ·exact .inr ⟨g,off,cap,cur,rfl,by rw [hb g rfl]; exact h2,h3⟩
theorem OC.ok.mono {c:OC} {h h':PH} {ρ:RM} {v:Value} {w:World} (hl:h.le h') (hc:c.ok h ρ v w):c.ok h' ρ v w:=by
 cases c with
 | box T ps=>obtain ⟨b,cur,e,h2,h3⟩:=hc; exact ⟨b,cur,e,h2,h3.mono hl⟩
 | AR j m rest cur=>exact hc
 | rr T e size hole ess=>obtain ⟨us,x⟩:=hc; exact ⟨us,x.pos,x.out,x.one,fun i u es h1 h2 h3=>let y:=x.rows i u es h1 h2 h3; ⟨y.uni,let ⟨xs,h4,h5⟩:=y.row; ⟨xs,h4,h5.mono hl⟩⟩,x.sep,x.self⟩
 | sit q pos=>exact hc
 | mq m=>exact hc
 | mp es=>obtain ⟨b,ms,clk,e,h2,h3,h4⟩:=hc; exact ⟨b,ms,clk,e,h2,aQ.mono h3 fun p e hp=>⟨p.1.mono hl hp.1,BV.mono hl (fun _ _=>rfl) hp.2⟩,h4⟩
 | ba T ps=>obtain ⟨b,cur,e,h2,h3⟩:=hc; exact ⟨b,cur,e,h2,aQ.mono h3 fun z u hz=>⟨BV.mono hl (fun _ _=>rfl) hz.1,hz.2⟩⟩
 | row T size es=>obtain ⟨hu,hz,xs,ho,hr⟩:=hc; exact ⟨hu,hz,xs,ho,hr.mono hl⟩
 | oe T size es=>obtain ⟨hu,hz,xs,ho,hr⟩:=hc; exact ⟨hu,hz,xs,ho,hr.mono hl⟩
 | B3 T size es=>obtain ⟨hu,hz,xs,ho,hr⟩:=hc; exact ⟨hu,hz,xs,ho,hr.mono hl⟩
theorem uY {w:World} {e:TypeId} {size n:Nat} {v:Value} {xs:List Value} (ho:w.ownsRow 0 e size v n xs) {b:Nat} (hb:aZ v = some b):b < w.heap.size:=by
 rcases ho.2 with ⟨rfl,_⟩ | ⟨g,cap,cur,rfl,h1,h2,h3⟩
 ·simp [aZ] at hb
 ·simp [aZ] at hb
  subst hb
  rcases Nat.lt_or_ge g w.heap.size with h | h
  ·exact h
  ·simp [Array.getElem?_eq_none h] at h2
theorem OC.ok.lt {c:OC} {h:PH} {ρ:RM} {v:Value} {w:World} (hc:c.ok h ρ v w) {b:Nat} (hf:c.du v w b):b < w.heap.size:=by
 rcases hf with hb | hi
 rotate_left
 ·cases c with
  | rr T e size hole ess=>
   obtain ⟨us,x⟩:=hc
   obtain ⟨i,u,h1,h2,h3⟩:=x.inner.1 hi
   obtain ⟨es,hes⟩:∃ es,ess[i]? = some es:=by
    have h4:i < us.length:=(List.getElem?_eq_some_iff.1 h1).1
    have h5:=x.out.1
    exact ⟨_,List.getElem?_eq_getElem (by omega)⟩
   obtain ⟨xs,h6,_⟩:=(x.rows i u es h1 hes h2).row
   exact uY h6 h3
  | AR j m rest cur=>
   obtain ⟨b',ms,clk,D,seen,x⟩:=hc
   obtain ⟨D',s1,s2,s3,h1,h2⟩:=hi
   rw [x.ptr] at h1
   cases h1
   rw [x.it] at h2
   cases h2
   rcases Nat.lt_or_ge b w.heap.size with h | h
   ·exact h
   ·have:=x.obj; simp [Array.getElem?_eq_none h] at this
  | _=>exact hi.elim
 have key:∀ {o:Obj},w.heap[b]? = some o → b < w.heap.size:=fun e=>by
  rcases Nat.lt_or_ge b w.heap.size with h | h
  ·exact h
  ·simp [Array.getElem?_eq_none h] at e
 cases c with
 | rr T e size hole ess=>obtain ⟨us,x⟩:=hc; exact uY x.out hb
 | AR j m rest cur=>obtain ⟨b',ms,clk,D,seen,x⟩:=hc; rw [x.ptr] at hb; cases hb; exact key x.it
 | box T ps=>obtain ⟨b',cur,rfl,h2,h3⟩:=hc; simp [aZ] at hb; subst hb; exact key h2
 | sit q pos=>obtain ⟨b',rfl,h2,h3⟩:=hc; simp [aZ] at hb; subst hb; exact key h2
 | mp es=>obtain ⟨b',ms,clk,rfl,h2,h3⟩:=hc; simp [aZ] at hb; subst hb; exact key h2
 | mq m=>obtain ⟨b',ms,clk,rfl,h2,h3⟩:=hc; simp [aZ] at hb; subst hb; exact key h2
 | ba T ps=>obtain ⟨b',cur,rfl,h2,h3⟩:=hc; simp [aZ] at hb; subst hb; exact key h2
 | row T size es=>
  obtain ⟨hu,hz,xs,⟨hl,ho⟩,hr⟩:=hc
  rcases ho with ⟨rfl,_⟩ | ⟨g,cap,cur,rfl,h1,h2,h3⟩
  ·simp [aZ] at hb
  ·simp [aZ] at hb; subst hb; exact key h2
 | oe T size es=>
  obtain ⟨hu,hz,xs,⟨hl,ho⟩,hr⟩:=hc
  rcases ho with ⟨rfl,_⟩ | ⟨g,cap,cur,rfl,h1,h2,h3⟩
  ·simp [aZ] at hb
  ·simp [aZ] at hb; subst hb; exact key h2
 | B3 T size es=>
  obtain ⟨hu,hz,xs,⟨hl,ho⟩,hr⟩:=hc
  rcases ho with ⟨rfl,_⟩ | ⟨g,off,cap,cur,rfl,h2,h3⟩
  ·simp [aZ] at hb
  ·simp [aZ] at hb; subst hb; exact key h2
theorem FW {w:World} {b o:Nat} {v:Value} (h:w.cell? ⟨b,o,none⟩ = some v):b < w.heap.size:=block_lt_of_cell h
theorem WR.stepF {TB:aF} {E:Env TB} {n:Sh} {own:List (Nat × OC)} {h:PH} {ρ:RM} {w w':World} (hw:WR E n own h ρ w) (k:Nat) (v':Value) (c':OC) (row:Option Nat)
  (hrow:∀ b,row = some b → ∃ c,(k,c) ∈ own ∧ c.du (ρ k) w b)
  (hsize:w.heap.size ≤ w'.heap.size) (hos:w'.os = w.os) (hout:w'.output = w.output) (hsame:∀ b,b < w.heap.size → some b ≠ row → w'.heap[b]? = w.heap[b]?)
  (hc:c'.ok h (oy ρ k v') v' w') (hblk:∀ b,c'.du v' w' b → (∃ c,(k,c) ∈ own ∧ c.du (ρ k) w b) ∨ w.heap.size ≤ b) (hfx:v' = ρ k ∨ k ∉ n.fix) (hnu:v' = ρ k ∨ di k own = true):WR E n (ins k c' own) h (oy ρ k v') w':=by
 have hren:∀ j x,(j,x) ∈ own → ∀ i,x.bd i = true → oy ρ k v' i = ρ i:=fun j x hx i hi=>by
  by_cases e:i = k
  ·subst e
   rcases hnu with h | h
   ·rw [cG]; exact h
   ·rw [qE h hx] at hi; simp at hi
  ·exact eX _ _ e
 have holdx:∀ b,(∃ c,(k,c) ∈ own ∧ c.du (ρ k) w b) → (E.w0.heap.size ≤ b ∨ qR E n b) ∧ (∀ o,h b o = none):=fun b ⟨c,hc1,hc2⟩=>(hw.owned k c hc1).2.1 b hc2
 have hrowx:∀ b,row = some b → (E.w0.heap.size ≤ b ∨ qR E n b) ∧ (∀ o,h b o = none):=fun b hb=>holdx b (hrow b hb)
 have hnew:∀ b,w.heap.size ≤ b → ∀ o,h b o = none:=fun b hb o=>by
  cases e:h b o with
  | none=>rfl
  | some u=>have:=gM (hw.agree b o u e); omega
 have hothers:∀ j x,(j,x) ∈ own → j ≠ k → x.ok h (oy ρ k v') (ρ j) w' ∧ (∀ b,x.du (ρ j) w' b → x.du (ρ j) w b) ∧ ∀ b,x.du (ρ j) w b → (¬ ∃ c,(k,c) ∈ own ∧ c.du (ρ k) w b) ∧ b < w.heap.size:=fun j x hx hj=>by
  have h1:=hw.owned j x hx
  have h2:∀ b,x.du (ρ j) w b → (¬ ∃ c,(k,c) ∈ own ∧ c.du (ρ k) w b) ∧ b < w.heap.size:=fun b hb=>by
   refine ⟨fun ⟨c,hc1,hc2⟩=>?_,h1.1.lt hb⟩
   exact h1.2.2 k c hc1 (fun e=>hj e.symm) b hb hc2
  have h3:∀ b,x.du (ρ j) w b → w'.heap[b]? = w.heap[b]?:=fun b hb=>hsame b (h2 b hb).2 fun e=>(h2 b hb).1 (hrow b e.symm)
  exact ⟨(h1.1.congr h3).Ij (hren j x hx),fun b=>OC.du.congr fun b hb=>h3 b (.inl hb),h2⟩
 refine ⟨?_,hw.le,hw.fresh,Nat.le_trans hw.size hsize,?_,?_,hos.trans hw.os,hout.trans hw.out,hw.nl,?_⟩
 ·intro b o u hu
  have hcell:=hw.agree b o u hu
  have hlt:=gM hcell
  have hne:some b ≠ row:=fun e=>by have:=(hrowx b e.symm).2 o; rw [this] at hu; simp at hu
  rw [mD (hsame b hlt hne)]; exact hcell
 ·intro b hb hl
  have hlt:b < w.heap.size:=Nat.lt_of_lt_of_le hb hw.size
  have hne:some b ≠ row:=fun e=>by
   rcases (hrowx b e.symm).1 with h1 | h1
   ·omega
   ·exact hl h1
  rw [hsame b hlt hne]; exact hw.same b hb hl
 ·intro j hj
  by_cases e:j = k
  ·subst e
   rw [cG]
   rcases hfx with h | h
   ·rw [h]; exact hw.fixed j hj
   ·exact absurd hj h
  ·rw [eX _ _ e]; exact hw.fixed j hj
 ·intro j x hx
  rcases iu hx with ⟨rfl,rfl⟩ | ⟨hj,hx⟩
  ·rw [cG]
   refine ⟨hc,?_,?_⟩
   ·intro b hb
    rcases hblk b hb with h1 | h1
    ·exact holdx b h1
    ·exact ⟨.inl (Nat.le_trans hw.size h1),hnew b h1⟩
   ·intro i y hy hij b hb
    rcases iu hy with ⟨h1,_⟩ | ⟨h1,h2⟩
    ·exact absurd h1 hij
    ·rw [eX _ _ h1]
     intro hb'
     have h3:=(hothers i y h2 h1).2.2 b ((hothers i y h2 h1).2.1 b hb')
     rcases hblk b hb with h4 | h4
     ·exact h3.1 h4
     ·omega
  ·rw [eX _ _ hj]
   obtain ⟨h1,h2,h3⟩:=hothers j x hx hj
   refine ⟨h1,fun b hb=>(hw.owned j x hx).2.1 b (h2 b hb),?_⟩
   intro i y hy hij b hb
   rcases iu hy with ⟨rfl,rfl⟩ | ⟨hik,h5⟩
   ·rw [cG]
    intro hb'
    rcases hblk b hb' with h4 | h4
    ·exact (h3 b (h2 b hb)).1 h4
    ·have:=(h3 b (h2 b hb)).2; omega
   ·rw [eX _ _ hik]
    exact fun hb'=>(hw.owned j x hx).2.2 i y h5 hij b (h2 b hb) ((hothers i y h5 hik).2.1 b hb')
theorem WR.step {TB:aF} {E:Env TB} {n:Sh} {own:List (Nat × OC)} {h:PH} {ρ:RM} {w w':World} (hw:WR E n own h ρ w) (k:Nat) (v':Value) (c':OC) (row:Option Nat)
  (hrow:∀ b,row = some b → ∃ c,(k,c) ∈ own ∧ aZ (ρ k) = some b)
  (hsize:w.heap.size ≤ w'.heap.size) (hos:w'.os = w.os) (hout:w'.output = w.output) (hsame:∀ b,b < w.heap.size → some b ≠ row → w'.heap[b]? = w.heap[b]?)
  (hc:c'.ok h (oy ρ k v') v' w') (hblk:∀ b,aZ v' = some b → row = some b ∨ w.heap.size ≤ b) (hfx:v' = ρ k ∨ k ∉ n.fix) (hnu:v' = ρ k ∨ di k own = true) (hpl:c'.plain = true:=by rfl):WR E n (ins k c' own) h (oy ρ k v') w' :=
 hw.stepF k v' c' row (fun b hb=>let ⟨c,h1,h2⟩:=hrow b hb; ⟨c,h1,.inl h2⟩) hsize hos hout hsame hc (fun b hb=>(hblk b (hb.zQ hpl)).imp (fun h=>let ⟨c,h1,h2⟩:=hrow b h; ⟨c,h1,.inl h2⟩) id) hfx hnu
def aggD:TypeDesc → Bool
 | .struct _ | .array _ _=>true
 | _=>false
structure gg (P:Program) (t:TypeId) (n:Nat):Prop where
 und:∃ d,P.underlying t = some d ∧ aggD d = true
 size:∃ i,P.info? t = some i ∧ i.size = n
structure cS (P:Program) (t:TypeId):Prop where
 und:∃ d,P.underlying t = some d ∧ aggD d = false
 size:∃ i,P.info? t = some i ∧ i.size = 1
structure eF (P:Program) (t:TypeId) (f off:Nat) (ft:TypeId):Prop where
 und:∃ fs fd i,P.underlying t = some (.struct fs) ∧ fs[f]? = some fd ∧ fd.offset = off ∧ fd.type = ft ∧ P.info? ft = some i ∧ 0 < i.size
structure kV (P:Program) (t e:TypeId) (size bytes:Nat) (zs:List CP):Prop where
 und:P.underlying t = some (.slice e)
 info:∃ i z,P.info? e = some i ∧ i.size = size ∧ i.bytes = bytes ∧ i.zero = some z ∧ z.cells.size = size ∧ 0 < size ∧ F9 z.cells.toList = some zs
structure qZ (P:Program) (t:TypeId) (zs:List CP):Prop where
 info:∃ i z,P.info? t = some i ∧ i.zero = some z ∧ F9 z.cells.toList = some zs
theorem mr {P:Program} {t:TypeId} {d:TypeDesc} (hd:P.underlying t = some d) (w:World):(isAgg t).run P w = .ok (aggD d) w:=by
 unfold isAgg
 rw [Sem.run_bind,run_underlying hd]
 cases d <;> rfl
theorem run_sizeOf {P:Program} {t:TypeId} {i:TypeInfo} (hi:P.info? t = some i) (w:World):(sizeOf t).run P w = .ok i.size w:=by
 simp [sizeOf,typeInfo,hi]
theorem Reads.list {h:PH} {b:Nat}:∀ {ps:List CP} {o:Nat},Reads h b o ps → ∃ cs,aA h ps cs ∧ ∀ j v,cs[j]? = some v → h b (o + j) = some v
 | [],_,_=>⟨[],.nil,fun j v hv=>by simp at hv⟩
 | p :: ps,o,hr=>by
  obtain ⟨u,hu,hpu⟩:=hr 0 p (by simp)
  obtain ⟨cs,h1,h2⟩:=Reads.list (ps:=ps) (o:=o + 1) (fun j c hc=>by
   obtain ⟨u,hu,hr⟩:=hr (j + 1) c (by simpa using hc)
   exact ⟨u,by rw [Nat.add_assoc,Nat.add_comm 1 j]; exact hu,hr⟩)
  refine ⟨u :: cs,.cons hpu h1,fun j v hv=>?_⟩
  cases j with
  | zero=>simp at hv; subst hv; exact hu
  | succ j=>have:=h2 j v (by simpa using hv); rw [Nat.add_assoc,Nat.add_comm 1 j] at this; exact this
theorem jy {P:Program} {t:TypeId} {n:Nat} (ht:gg P t n) {w:World} {b o:Nat} {cs:List Value} (hl:cs.length = n) (hc:∀ j v,cs[j]? = some v → w.cell? ⟨b,o + j,none⟩ = some v) :
  (loadVar t ⟨b,o,none⟩).run P w = .ok (.agg cs.toArray) w:=by
 obtain ⟨d,hd,ha⟩:=ht.und
 obtain ⟨i,hi,hn⟩:=ht.size
 have hh:∀ j v,cs[j]? = some v → w.cell? ((⟨b,o,none⟩:Addr).add j) = some v:=fun j v hv=>by rw [Addr.add_lit]; exact hc j v hv
 have hrun:=run_loadCells_list (P:=P) w ⟨b,o,none⟩ cs hh
 unfold loadVar
 rw [Sem.run_bind,mr hd,Result.andThen,ha]
 simp only [if_true]
 rw [Sem.run_bind,run_sizeOf hi,Result.andThen,hn,← hl,Sem.run_bind,hrun]
 rfl
theorem jx {P:Program} {t:TypeId} (ht:cS P t) {w:World} {b o:Nat} {v:Value} (hc:w.cell? ⟨b,o,none⟩ = some v):(loadVar t ⟨b,o,none⟩).run P w = .ok v w:=by
 obtain ⟨d,hd,ha⟩:=ht.und
 unfold loadVar
 rw [Sem.run_bind,mr hd,Result.andThen,ha]
 simp [load,Sem.run,hc]
section
variable {P:Program} {TB:aF} {E:Env TB} {n:Sh} {s:St} {dst:Option Nat} {t ty yt:TypeId} {pos:String} {after:Array Edge} {g:Option (Nat × Bool)} {x y c:Operand}
theorem HU {ps qs:List CP} {m:Nat} (ht:gg P t m) (hx:s.ev x = some (.b (.jY ps))) (hp:ps.take m = qs) (hq:qs.length = m) :
  aR P E n ⟨dst,.load t x,ty,pos,after,g⟩ s (s.put n dst (.b (.agg qs))) :=
 aR.val (o:=⟨dst,.load t x,ty,pos,after,g⟩) fun ac w h ρ hw hs=>by
  obtain ⟨b,o,he,hr⟩:=(aC hs hx:BV.rel h ρ (.jY ps) _)
  have hr':Reads h b o qs:=fun j c hc=>hr j c (by
   rw [← hp] at hc
   rw [List.getElem?_take] at hc
   split at hc
   ·exact hc
   ·simp at hc)
  obtain ⟨cs,h1,h2⟩:=hr'.list
  refine ⟨.agg cs.toArray,?_,cs.toArray,rfl,by simpa using h1⟩
  have:=jy ht (w:=w) (b:=b) (o:=o) (cs:=cs) (by rw [← h1.length,hq]) (fun j v hv=>hw.agree.cell (h2 j v hv) (h1.one v (List.mem_of_getElem? hv)))
  simp only [execOp,he,Instr.loadAt,Instr.sureAddr]
  simp [this]
theorem kD {ps:List CP} {p:CP} (ht:cS P t) (hx:s.ev x = some (.b (.jY ps))) (hp:ps[0]? = some p) :
  aR P E n ⟨dst,.load t x,ty,pos,after,g⟩ s (s.put n dst (.b (.one p))) :=
 aR.val (o:=⟨dst,.load t x,ty,pos,after,g⟩) fun ac w h ρ hw hs=>by
  obtain ⟨b,o,he,hr⟩:=(aC hs hx:BV.rel h ρ (.jY ps) _)
  obtain ⟨u,hu,hpu⟩:=hr 0 p hp
  have:=jx ht (w:=w) (b:=b) (o:=o) (v:=u) (hw.agree.cell hu (p.one hpu))
  refine ⟨u,?_,hpu⟩
  simp only [execOp,he,Instr.loadAt,Instr.sureAddr]
  simp [this]
theorem hX {h:PH} {ρ:RM} {own:List (Nat × OC)} {w:World} (hw:WR E n own h ρ w) {k:Nat} {T:TypeId} {ps:List CP} (hk:lk own k = some (.box T ps)) :
  ∃ b cur,ρ k = .pointer (some ⟨b,0,none⟩) ∧ w.heap[b]? = some (.cells cur T (0,0)) ∧ aA h ps cur.toList :=
 (hw.owned k _ (bh hk)).1
theorem gr {w:World} {b:Nat} {cur:Array Value} {T:TypeId} {fr:Nat × Nat} (hb:w.heap[b]? = some (.cells cur T fr)) (o:Nat):w.cell? ⟨b,o,none⟩ = cur[o]?:=by simp [World.cell?,hb]
theorem tF {k off:Nat} {T:TypeId} {ps qs:List CP} {m:Nat} (ht:gg P t m) (hx:s.ev x = some (.b (.ptr k off))) (hk:lk s.own k = some (.box T ps)) (hp:(ps.drop off).take m = qs) (hq:qs.length = m) :
  aR P E n ⟨dst,.load t x,ty,pos,after,g⟩ s (s.put n dst (.b (.agg qs))) :=
 aR.val (o:=⟨dst,.load t x,ty,pos,after,g⟩) fun ac w h ρ hw hs=>by
  obtain ⟨b,he,hv⟩:=(aC hs hx:BV.rel h ρ (.ptr k off) _)
  obtain ⟨b',cur,hb1,hb2,hb3⟩:=hX hw hk
  have:b' = b:=by rw [hb1] at he; simpa using he
  subst this
  have hc:aA h qs ((cur.toList.drop off).take m):=by rw [← hp]; exact aQ.take (aQ.drop hb3 off) m
  refine ⟨.agg ((cur.toList.drop off).take m).toArray,?_,_,rfl,by simpa using hc⟩
  have:=jy ht (w:=w) (b:=b') (o:=off) (cs:=(cur.toList.drop off).take m) (by rw [← hc.length,hq]) (fun j v hv=>by
   rw [gr hb2]
   rw [List.getElem?_take] at hv
   split at hv
   ·simpa using hv
   ·simp at hv)
  simp only [execOp,hv,Instr.loadAt,Instr.sureAddr]
  simp [this]
theorem aI {k off:Nat} {T:TypeId} {ps:List CP} {p:CP} (ht:cS P t) (hx:s.ev x = some (.b (.ptr k off))) (hk:lk s.own k = some (.box T ps)) (hp:ps[off]? = some p) :
  aR P E n ⟨dst,.load t x,ty,pos,after,g⟩ s (s.put n dst (.b (.one p))) :=
 aR.val (o:=⟨dst,.load t x,ty,pos,after,g⟩) fun ac w h ρ hw hs=>by
  obtain ⟨b,he,hv⟩:=(aC hs hx:BV.rel h ρ (.ptr k off) _)
  obtain ⟨b',cur,hb1,hb2,hb3⟩:=hX hw hk
  have:b' = b:=by rw [hb1] at he; simpa using he
  subst this
  obtain ⟨u,hu,hpu⟩:=hb3.get off p hp
  have:=jx ht (w:=w) (b:=b') (o:=off) (v:=u) (by rw [gr hb2]; simpa using hu)
  refine ⟨u,?_,hpu⟩
  simp only [execOp,hv,Instr.loadAt,Instr.sureAddr]
  simp [this]
theorem sU {f off:Nat} {ft:TypeId} (ht:eF P t f off ft) (w:World) (b o:Nat):(Instr.fieldAt t (.pointer (some ⟨b,o,none⟩)) f).run P w = .ok (.pointer (some ⟨b,o + off,none⟩)) w:=by
 obtain ⟨fs,fd,i,h1,h2,rfl,rfl,h5,h6⟩:=ht.und
 unfold Instr.fieldAt
 rw [Sem.run_bind,run_underlying h1,Result.andThen]
 simp only [h2]
 have hz:¬ i.size = 0:=by omega
 simp [Instr.sureAddr,fieldPlace,sizeOf,typeInfo,h5,hz,Addr.add_lit]
theorem FN {f off:Nat} {ft:TypeId} {ps qs:List CP} (ht:eF P t f off ft) (hx:s.ev x = some (.b (.jY ps))) (hq:ps.drop off = qs) :
  aR P E n ⟨dst,.fieldAddr t x f,ty,pos,after,g⟩ s (s.put n dst (.b (.jY qs))) :=
 aR.val (o:=⟨dst,.fieldAddr t x f,ty,pos,after,g⟩) fun ac w h ρ hw hs=>by
  obtain ⟨b,o,he,hr⟩:=(aC hs hx:BV.rel h ρ (.jY ps) _)
  refine ⟨.pointer (some ⟨b,o + off,none⟩),?_,b,o + off,rfl,hq ▸ hr.drop off⟩
  simp only [execOp,he]
  simp [sU ht]
theorem ax {f off k o o':Nat} {ft:TypeId} (ht:eF P t f off ft) (hx:s.ev x = some (.b (.ptr k o))) (ho:o + off = o') :
  aR P E n ⟨dst,.fieldAddr t x f,ty,pos,after,g⟩ s (s.put n dst (.b (.ptr k o'))) :=
 aR.val (o:=⟨dst,.fieldAddr t x f,ty,pos,after,g⟩) fun ac w h ρ hw hs=>by
  obtain ⟨b,he,hv⟩:=(aC hs hx:BV.rel h ρ (.ptr k o) _)
  refine ⟨.pointer (some ⟨b,o + off,none⟩),?_,b,he,by rw [ho]⟩
  simp only [execOp,hv]
  simp [sU ht]
theorem FM {f off k o o':Nat} {ft:TypeId} (ht:eF P t f off ft) (hx:s.ev x = some (.b (.gh k o))) (ho:o + off = o') :
  aR P E n ⟨dst,.fieldAddr t x f,ty,pos,after,g⟩ s (s.put n dst (.b (.gh k o'))) :=
 aR.val (o:=⟨dst,.fieldAddr t x f,ty,pos,after,g⟩) fun ac w h ρ hw hs=>by
  obtain ⟨b,m,c,he,hv⟩:=(aC hs hx:BV.rel h ρ (.gh k o) _)
  refine ⟨.pointer (some ⟨b,o + off,none⟩),?_,b,m,c,he,by rw [ho]⟩
  simp only [execOp,hv]
  simp [sU ht]
theorem sY {e:TypeId} {size bytes:Nat} {zs:List CP} (ht:kV P t e size bytes zs) (w:World) (b o len cap:Nat) (k:IntKind) (i:Int) (h0:0 ≤ i) (h1:i < len) :
  (Instr.indexAt t (.slice (some ⟨b,o,none⟩) len cap) (.int k i)).run P w = .ok (.pointer (some ⟨b,o + i.toNat * size,none⟩)) w:=by
 obtain ⟨inf,z,hi,rfl,_⟩:=ht.info
 have hel:P.underlying t = some (.slice e):=ht.und
 simp [Instr.indexAt,run_underlying hel,asIntOf,h0,h1,sizeOf,typeInfo,hi,Addr.add_lit]
theorem rh {e:TypeId} {size bytes:Nat} {zs ps:List CP} {es:List (List CP)} {k:IntKind} {i:Int} (ht:kV P t e size bytes zs) (h0:0 ≤ i) (hi:es[i.toNat]? = some ps)
  (hx:s.ev x = some (.b (.one (.sl size es)))) (hy:s.ev y = some (.b (.one (.int k i)))) :
  aR P E n ⟨dst,.indexAddr t x y,ty,pos,after,g⟩ s (s.put n dst (.b (.jY ps))) :=
 aR.val (o:=⟨dst,.indexAddr t x y,ty,pos,after,g⟩) fun ac w h ρ hw hs=>by
  obtain ⟨hu,hz,hv⟩:=(aC hs hx:(CP.sl size es).rel h _)
  have hlt:=(List.getElem?_eq_some_iff.1 hi).1
  rcases hv with ⟨_,rfl⟩ | ⟨b,o,c,hv,hc1,hc2,hr⟩ | ⟨_,_,rfl⟩
  ·simp at hlt
  ·refine ⟨.pointer (some ⟨b,o + i.toNat * size,none⟩),?_,b,_,rfl,hr.elem hu _ _ hi⟩
   simp only [execOp,hv,(bG hs hy).1]
   simp [sY ht w b o es.length c k i h0 (by omega)]
  ·simp at hlt
theorem oR {e T:TypeId} {j size size' bytes o:Nat} {zs:List CP} {es:List (List CP)} {k:IntKind} {i:Int} (ht:kV P t e size bytes zs) (h0:0 ≤ i) (h1:i < es.length)
  (hx:s.ev x = some (.b (.row j))) (hk:lk s.own j = some (.row T size' es)) (hy:s.ev y = some (.b (.one (.int k i)))) (ho:i.toNat * size = o) :
  aR P E n ⟨dst,.indexAddr t x y,ty,pos,after,g⟩ s (s.put n dst (.b (.gh j o))) :=
 aR.val (o:=⟨dst,.indexAddr t x y,ty,pos,after,g⟩) fun ac w h ρ hw hs=>by
  have hv:ac.eval x = ρ j:=(aC hs hx:BV.rel h ρ (.row j) _)
  obtain ⟨hu,hz,xs,⟨_,how⟩,hr⟩:=(hw.owned j _ (bh hk)).1
  rcases how with ⟨_,he⟩ | ⟨b,cap,cur,hρ,_,hb,hc1,hc2,hc3,hc4⟩
  ·omega
  ·refine ⟨.pointer (some ⟨b,i.toNat * size,none⟩),?_,b,es.length,cap,hρ,by rw [ho]⟩
   simp only [execOp,hv,hρ,(bG hs hy).1]
   simp [sY ht w b 0 es.length cap k i h0 (by omega)]
theorem nJ {e:TypeId} {m size:Nat} {inf:TypeInfo} (hu:P.underlying t = some (.array m e)) (hi:P.info? e = some inf) (hs:inf.size = size) (w:World) (b o:Nat) (k:IntKind) (i:Int) (h0:0 ≤ i) (h1:i < m) :
  (Instr.indexAt t (.pointer (some ⟨b,o,none⟩)) (.int k i)).run P w = .ok (.pointer (some ⟨b,o + i.toNat * size,none⟩)) w:=by
 subst hs
 simp [Instr.indexAt,run_underlying hu,asIntOf,Instr.sureAddr,h0,h1,sizeOf,typeInfo,hi,Addr.add_lit]
structure k7 (P:Program) (t e:TypeId) (m size:Nat):Prop where
 und:P.underlying t = some (.array m e)
 info:∃ i,P.info? e = some i ∧ i.size = size
theorem mB {e:TypeId} {m size j o o':Nat} {k:IntKind} {i:Int} (ht:k7 P t e m size) (h0:0 ≤ i) (h1:i < m) (hx:s.ev x = some (.b (.ptr j o))) (hy:s.ev y = some (.b (.one (.int k i)))) (ho:o + i.toNat * size = o') :
  aR P E n ⟨dst,.indexAddr t x y,ty,pos,after,g⟩ s (s.put n dst (.b (.ptr j o'))) :=
 aR.val (o:=⟨dst,.indexAddr t x y,ty,pos,after,g⟩) fun ac w h ρ hw hs=>by
  obtain ⟨b,he,hv⟩:=(aC hs hx:BV.rel h ρ (.ptr j o) _)
  obtain ⟨inf,hi,hsz⟩:=ht.info
  refine ⟨.pointer (some ⟨b,o + i.toNat * size,none⟩),?_,b,he,by rw [ho]⟩
  simp only [execOp,hv,(bG hs hy).1]
  simp [nJ ht.und hi hsz w b o k i h0 h1]
theorem au {j o:Nat} (hx:s.ev x = some (.b (.ptr j o))):aR P E n ⟨dst,.nilCheck x,ty,pos,after,g⟩ s (s.put n dst (.b (.ptr j o))) :=
 aR.val (o:=⟨dst,.nilCheck x,ty,pos,after,g⟩) fun ac w h ρ hw hs=>by
  obtain ⟨b,he,hv⟩:=(aC hs hx:BV.rel h ρ (.ptr j o) _)
  refine ⟨.pointer (some ⟨b,o,none⟩),?_,b,he,rfl⟩
  simp only [execOp,hv]; rfl
end
end Go.Sk
namespace Go.Sk
set_option linter.unusedSimpArgs false
set_option linter.unusedVariables false
open Go Go.BigFrame
theorem tt (l:Str):(⟨⟨l⟩⟩:ByteArray).size = l.length:=rfl
section
variable {P:Program} {TB:aF} {E:Env TB} {n:Sh} {s:St} {dst:Option Nat} {t ty yt:TypeId} {pos:String} {after:Array Edge} {g:Option (Nat × Bool)} {x y c:Operand}
theorem len_le {h:PH} {size:Nat} {es:List (List CP)} {v:Value} (hv:(CP.sl size es).rel h v):es.length ≤ maxLen:=by
 rcases hv.2.2 with ⟨_,rfl⟩ | ⟨b,o,c,_,h1,h2,_⟩ | ⟨_,_,rfl⟩
 ·simp
 ·omega
 ·simp
theorem c7:maxLen = 9223372036854775807:=by simp [maxLen]
theorem y2 {m:Nat} (h:m ≤ maxLen):kX .i64 (m:Int):=by rw [c7] at h; exact Cx (by omega) (by omega)
theorem J6 {size:Nat} {es:List (List CP)} {e:TypeId} (ht:P.underlying t = some (.slice e)) (hx:s.ev x = some (.b (.one (.sl size es)))) :
  aR P E n ⟨dst,.call ⟨.builtin .len,#[x],#[t]⟩,ty,pos,after,g⟩ s (s.put n dst (I (es.length:Int))) :=
 aR.val (o:=⟨dst,.call ⟨.builtin .len,#[x],#[t]⟩,ty,pos,after,g⟩) fun ac w h ρ hw hs=>by
  have hv:=(aC hs hx:(CP.sl size es).rel h _)
  have hl:=len_le hv
  refine ⟨.int .i64 es.length,?_,rfl,y2 hl⟩
  rw [execOp_builtin,builtin_len]
  rcases hv.2.2 with ⟨hv1,rfl⟩ | ⟨b,o,c,hv1,_⟩ | ⟨a,hv1,rfl⟩ <;> simp [hv1,Builtin.len_,run_underlying ht,goInt]
theorem fY {z:Str} (ht:P.underlying t = some .string) (hx:s.ev x = some (.b (.one (.str z)))) :
  aR P E n ⟨dst,.call ⟨.builtin .len,#[x],#[t]⟩,ty,pos,after,g⟩ s (s.put n dst (I (z.length:Int))) :=
 aR.val (o:=⟨dst,.call ⟨.builtin .len,#[x],#[t]⟩,ty,pos,after,g⟩) fun ac w h ρ hw hs=>by
  obtain ⟨hv,hl⟩:=la hs hx
  refine ⟨.int .i64 z.length,?_,rfl,y2 hl⟩
  rw [execOp_builtin,builtin_len]
  simp [hv,Builtin.len_,run_underlying ht,goInt,tt]
theorem mP {TB:aF} {E:Env TB} {n:Sh} {h:PH} {ρ:RM} {own:List (Nat × OC)} {w:World} (hw:WR E n own h ρ w) {k:Nat} {T:TypeId} {size:Nat} {es:List (List CP)} (hk:lk own k = some (.row T size es)) :
  cb size es ∧ 0 < size ∧ ((ρ k = .slice none 0 0 ∧ es = []) ∨ ∃ b cap cur,ρ k = .slice (some ⟨b,0,none⟩) es.length cap ∧ w.heap[b]? = some (.cells cur T (0,0)) ∧ es.length ≤ cap ∧ cap ≤ maxLen ∧ cur.size = cap * size ∧
   aA h es.flatten (cur.toList.take (es.length * size))):=by
 obtain ⟨hu,hz,xs,⟨hl,how⟩,hr⟩:=(hw.owned k _ (bh hk)).1
 refine ⟨hu,hz,?_⟩
 rcases how with ⟨h1,he⟩ | ⟨b,cap,cur,h1,_,h3,h4,h5,h6,h7⟩
 ·exact .inl ⟨h1,by cases es <;> simp_all⟩
 ·exact .inr ⟨b,cap,cur,h1,h3,h4,h5,h6,by rw [h7]; exact hr⟩
theorem J5 {k size:Nat} {T e:TypeId} {es:List (List CP)} (ht:P.underlying t = some (.slice e)) (hx:s.ev x = some (.b (.row k))) (hk:lk s.own k = some (.row T size es)) :
  aR P E n ⟨dst,.call ⟨.builtin .len,#[x],#[t]⟩,ty,pos,after,g⟩ s (s.put n dst (I (es.length:Int))) :=
 aR.val (o:=⟨dst,.call ⟨.builtin .len,#[x],#[t]⟩,ty,pos,after,g⟩) fun ac w h ρ hw hs=>by
  have hv:ac.eval x = ρ k:=(aC hs hx:BV.rel h ρ (.row k) _)
  obtain ⟨_,_,hf⟩:=mP hw hk
  rw [execOp_builtin,builtin_len]
  rcases hf with ⟨h1,rfl⟩ | ⟨b,cap,cur,h1,_,h2,h3,_⟩
  ·exact ⟨.int .i64 0,by simp [hv,h1,Builtin.len_,run_underlying ht,goInt],rfl,y2 (by simp)⟩
  ·exact ⟨.int .i64 es.length,by simp [hv,h1,Builtin.len_,run_underlying ht,goInt],rfl,y2 (by omega)⟩
theorem cI {l:List BV} {i:Nat} {z:BV} (hx:s.ev x = some (.kU l)) (hi:l[i]? = some z):aR P E n ⟨dst,.extract x i,ty,pos,after,g⟩ s (s.put n dst (.b z)) :=
 aR.val (o:=⟨dst,.extract x i,ty,pos,after,g⟩) fun ac w h ρ hw hs=>by
  obtain ⟨vs,hv,ha⟩:=(aC hs hx:SV.rel h ρ (.kU l) _)
  obtain ⟨u,hu,hr⟩:=ha.get i z hi
  have:vs[i]? = some u:=by simpa using hu
  exact ⟨u,by simp only [execOp,hv]; simp [Instr.extract,this],hr⟩
theorem FL {f off:Nat} {ft:TypeId} {ps:List CP} {p:CP} (ht:eF P t f off ft) (h1:cS P ft) (hx:s.ev x = some (.b (.agg ps))) (hp:ps[off]? = some p) :
  aR P E n ⟨dst,.field t x f,ty,pos,after,g⟩ s (s.put n dst (.b (.one p))) :=
 aR.val (o:=⟨dst,.field t x f,ty,pos,after,g⟩) fun ac w h ρ hw hs=>by
  obtain ⟨cs,hv,ha⟩:=(aC hs hx:BV.rel h ρ (.agg ps) _)
  obtain ⟨fs,fd,i,e1,e2,rfl,rfl,e5,e6⟩:=ht.und
  obtain ⟨d,hd,hag⟩:=h1.und
  obtain ⟨u,hu,hr⟩:=ha.get _ p hp
  have hcu:cs[fd.offset]? = some u:=by simpa using hu
  refine ⟨u,?_,hr⟩
  simp only [execOp,hv]
  have:(part fd.type cs fd.offset).run P w = .ok u w:=by
   unfold part
   rw [Sem.run_bind,mr hd,Result.andThen,hag]
   simp [hcu]
  simp [Instr.field,run_underlying e1,e2,asAgg,this]
theorem HV {f off m:Nat} {ft:TypeId} {ps qs:List CP} (ht:eF P t f off ft) (h1:gg P ft m) (hx:s.ev x = some (.b (.agg ps))) (hp:(ps.drop off).take m = qs) :
  aR P E n ⟨dst,.field t x f,ty,pos,after,g⟩ s (s.put n dst (.b (.agg qs))) :=
 aR.val (o:=⟨dst,.field t x f,ty,pos,after,g⟩) fun ac w h ρ hw hs=>by
  obtain ⟨cs,hv,ha⟩:=(aC hs hx:BV.rel h ρ (.agg ps) _)
  obtain ⟨fs,fd,i,e1,e2,rfl,rfl,e5,e6⟩:=ht.und
  obtain ⟨d,hd,hag⟩:=h1.und
  obtain ⟨i',hi',hm⟩:=h1.size
  have hr:aA h qs ((cs.toList.drop fd.offset).take m):=by rw [← hp]; exact aQ.take (aQ.drop ha _) m
  have hex:(cs.extract fd.offset (fd.offset + m)).toList = (cs.toList.drop fd.offset).take m:=by
   simp [List.take_drop]
  refine ⟨.agg (cs.extract fd.offset (fd.offset + m)),?_,_,rfl,by rw [hex]; exact hr⟩
  simp only [execOp,hv]
  have:(part fd.type cs fd.offset).run P w = .ok (.agg (cs.extract fd.offset (fd.offset + m))) w:=by
   unfold part
   rw [Sem.run_bind,mr hd,Result.andThen,hag]
   simp [sizeOf,typeInfo,hi',hm]
  simp [Instr.field,run_underlying e1,e2,asAgg,this]
theorem gP {z:Str} {k:IntKind} {i:Int} {b:UInt8} (ht:P.underlying t = some .string) (hx:s.ev x = some (.b (.one (.str z)))) (hy:s.ev y = some (.b (.one (.int k i)))) (h0:0 ≤ i) (hi:z[i.toNat]? = some b) :
  aR P E n ⟨dst,.index t x y,ty,pos,after,g⟩ s (s.put n dst (.b (.one (.int .u8 b.toNat)))) :=
 aR.val (o:=⟨dst,.index t x y,ty,pos,after,g⟩) fun ac w h ρ hw hs=>by
  obtain ⟨hv,hl⟩:=la hs hx
  have hlt:=(List.getElem?_eq_some_iff.1 hi).1
  have hsz:(⟨⟨z⟩⟩:ByteArray)[i.toNat]? = some b:=by
   have:i.toNat < (⟨⟨z⟩⟩:ByteArray).size:=hlt
   rw [getElem?_pos (⟨⟨z⟩⟩:ByteArray) i.toNat this]
   exact congrArg some (List.getElem?_eq_some_iff.1 hi).2
  refine ⟨.int .u8 b.toNat,?_,rfl,?_⟩
  ·simp only [execOp,hv,(bG hs hy).1]
   simp [Instr.index,asIntOf,run_underlying ht,h0,hsz]
  ·have:=b.toNat_lt
   simp [kX,IntKind.min,IntKind.max,IntKind.signed,IntKind.bits]
   omega
def aN {α:Type} (ps:List α) (off:Nat) (qs:List α):List α:=ps.take off ++ qs ++ ps.drop (off + qs.length)
theorem aQ.aN {α β:Type} {r:α → β → Prop} {as:List α} {bs:List β} {qs:List α} {us:List β} (h:aQ r as bs) (hq:aQ r qs us) (off:Nat):aQ r (Sk.aN as off qs) (Sk.aN bs off us):=by
 unfold Sk.aN
 rw [hq.length]
 exact ((h.take off).append hq).append (h.drop _)
theorem ju {m:Nat} {i:TypeInfo} (hi:P.info? t = some i) (hm:i.size = m) {w:World} {b o:Nat} {cur:Array Value} {T:TypeId} (hb:w.heap[b]? = some (.cells cur T (0,0))) {v:Value} (hl:v.cells.size = m)
  (ho:o + m ≤ cur.size) (h1:∀ u ∈ v.cells.toList,u.oneCell' = true) :
  (storeVar t ⟨b,o,none⟩ v).run P w = .ok () (w.setRow b (Sk.aN cur.toList o v.cells.toList).toArray):=by
 subst hm
 have:=run_storeCells_at P b o T v.cells.toList 0 cur w hb (by simp; omega) h1
 simp [storeVar,sizeOf,typeInfo,hi,hl,this,Sk.aN]
structure JH (P:Program) (t:TypeId) (m:Nat):Prop where
 info:∃ i,P.info? t = some i ∧ i.size = m
theorem gg.sz {m:Nat} (h:gg P t m):JH P t m:=⟨h.size⟩
theorem cS.sz (h:cS P t):JH P t 1:=⟨h.size⟩
theorem WR.I5 {h:PH} {ρ:RM} {own:List (Nat × OC)} {w:World} (hw:WR E n own h ρ w) {k b:Nat} {T:TypeId} {ps ps':List CP} {cur:Array Value} {cs:List Value} (hk:lk own k = some (.box T ps)) (hρ:ρ k = .pointer (some ⟨b,0,none⟩))
  (hb:w.heap[b]? = some (.cells cur T (0,0))) (hr:aA h ps' cs):WR E n (ins k (.box T ps') own) h ρ (w.setRow b cs.toArray):=by
 have hst:=hw.step (w':=w.setRow b cs.toArray) k (ρ k) (.box T ps') (some b) (fun b' e=>by cases e; exact ⟨_,bh hk,by rw [hρ]; rfl⟩) (by simp) rfl rfl
  (fun b' _ hne=>setRow_other _ _ _ _ (fun e=>hne (by rw [e]))) ⟨b,cs.toArray,hρ,setRow_heap _ _ _ _ _ _ hb,by simpa using hr⟩ (fun b' hb'=>by rw [hρ] at hb'; simp [aZ] at hb'; exact .inl (by rw [hb'])) (.inl rfl) (.inl rfl)
 have:oy ρ k (ρ k) = ρ:=by funext j; simp only [oy]; split <;> simp_all
 rwa [this] at hst
theorem aR.store {o:Oper} {own':List (Nat × OC)} (hd:o.dst = none)
  (H:∀ (a:Act) (w:World) (h:PH) (ρ:RM),WR E n s.own h ρ w → bp h ρ s.slots a.tmps → ∃ w',(execOp a.eval o).run P w = .ok .skip w' ∧ WR E n own' h ρ w'):aR P E n o s ⟨s.slots,own'⟩:=by
 intro a w ⟨hdf,hn,h,ρ,hw,hs⟩ next Q hnext
 obtain ⟨w',hv,hw'⟩:=H a w h ρ hw hs
 unfold Oper.wp
 rw [hv]
 refine hnext _ _ ?_
 rw [hd]
 exact ⟨hdf,hn,h,ρ,hw',hs⟩
theorem dK {k off:Nat} {T:TypeId} {ps ps':List CP} {p:CP} (ht:cS P t) (hx:s.ev x = some (.b (.ptr k off))) (hk:lk s.own k = some (.box T ps)) (hy:s.ev y = some (.b (.one p))) (hlt:off < ps.length) (hps:ps.set off p = ps') :
  aR P E n ⟨none,.store t x y,ty,pos,after,g⟩ s ⟨s.slots,ins k (.box T ps') s.own⟩ :=
 aR.store (o:=⟨none,.store t x y,ty,pos,after,g⟩) rfl fun ac w h ρ hw hs=>by
  obtain ⟨b,he,hv⟩:=(aC hs hx:BV.rel h ρ (.ptr k off) _)
  obtain ⟨b',cur,hb1,hb2,hb3⟩:=hX hw hk
  have:b' = b:=by rw [hb1] at he; simpa using he
  subst this
  have hp:p.rel h (ac.eval y):=aC hs hy
  have h1:=p.one hp
  obtain ⟨i,hi,hm⟩:=ht.size
  have hcells:(ac.eval y).cells = #[ac.eval y]:=by cases hq:ac.eval y <;> first | rfl | (rw [hq] at h1; simp [Value.oneCell'] at h1)
  have hlen:=hb3.length
  have hrun:=ju (P:=P) (t:=t) hi hm hb2 (v:=ac.eval y) (o:=off) (by rw [hcells]; rfl) (by simp at hlen; omega) (by rw [hcells]; simpa using h1)
  refine ⟨_,by simp only [execOp,hv,Instr.storeAt,Instr.sureAddr]; simp [hrun]; rfl,?_⟩
  refine hw.I5 hk hb1 hb2 ?_
  rw [← hps]
  have hset:Sk.aN cur.toList off (ac.eval y).cells.toList = cur.toList.set off (ac.eval y):=by
   rw [hcells]
   have:off < cur.toList.length:=by rw [← hlen]; exact hlt
   simp only [Sk.aN,List.length_cons,List.length_nil]
   rw [List.set_eq_take_append_cons_drop,if_pos this]; simp
  rw [hset]
  exact aQ.set hb3 off hp
theorem aW {k off m:Nat} {T:TypeId} {ps ps' qs:List CP} (ht:gg P t m) (hx:s.ev x = some (.b (.ptr k off))) (hk:lk s.own k = some (.box T ps)) (hy:s.ev y = some (.b (.agg qs))) (hq:qs.length = m) (hlt:off + m ≤ ps.length) (hps:Sk.aN ps off qs = ps') :
  aR P E n ⟨none,.store t x y,ty,pos,after,g⟩ s ⟨s.slots,ins k (.box T ps') s.own⟩ :=
 aR.store (o:=⟨none,.store t x y,ty,pos,after,g⟩) rfl fun ac w h ρ hw hs=>by
  obtain ⟨b,he,hv⟩:=(aC hs hx:BV.rel h ρ (.ptr k off) _)
  obtain ⟨b',cur,hb1,hb2,hb3⟩:=hX hw hk
  have:b' = b:=by rw [hb1] at he; simpa using he
  subst this
  obtain ⟨cs,hcv,hcr⟩:=(aC hs hy:BV.rel h ρ (.agg qs) _)
  obtain ⟨i,hi,hm⟩:=ht.size
  have hlen:=hb3.length
  have hlen2:=hcr.length
  have hrun:=ju (P:=P) (t:=t) hi hm hb2 (v:=.agg cs) (o:=off) (by simp [Value.cells] at hlen2 ⊢; omega) (by simp at hlen; omega) (by simpa [Value.cells] using hcr.one)
  refine ⟨_,by simp only [execOp,hv,hcv,Instr.storeAt,Instr.sureAddr]; simp [hrun]; rfl,?_⟩
  refine hw.I5 hk hb1 hb2 ?_
  rw [← hps]
  exact aQ.aN hb3 hcr off
end
end Go.Sk
namespace Go.Sk
set_option linter.unusedSimpArgs false
set_option linter.unusedVariables false
open Go Go.BigFrame
section
variable {P:Program} {TB:aF} {E:Env TB} {n:Sh} {s:St} {dst:Option Nat} {t ty yt:TypeId} {pos:String} {after:Array Edge} {g:Option (Nat × Bool)} {x y c:Operand}
theorem aR.make {o:Oper} {k:Nat} {c':OC} {res:SV} (H:∀ (a:Act) (w:World) (h:PH) (ρ:RM),WR E n s.own h ρ w → bp h ρ s.slots a.tmps →
      ∃ v' vk w' row,(execOp a.eval o).run P w = .ok (.value v') w' ∧ (∀ b,row = some b → ∃ c,(k,c) ∈ s.own ∧ aZ (ρ k) = some b) ∧ w.heap.size ≤ w'.heap.size ∧ w'.os = w.os ∧ w'.output = w.output ∧
        (∀ b,b < w.heap.size → some b ≠ row → w'.heap[b]? = w.heap[b]?) ∧ c'.ok h (oy ρ k vk) vk w' ∧ (∀ b,aZ vk = some b → row = some b ∨ w.heap.size ≤ b) ∧ res.rel h (oy ρ k vk) v') (hfx:n.fix.contains k = false) (hnu:di k s.own = true:=by rfl) (hpl:c'.plain = true:=by rfl) :
    aR P E n o s ((⟨cn k s.slots,ins k c' s.own⟩:St).put n o.dst res):=by
  intro a w ⟨hdf,hn,h,ρ,hw,hs⟩ next Q hnext
  obtain ⟨v',vk,w',row,hv,h1,h2,h3,h4,h5,h6,h7,h8⟩:=H a w h ρ hw hs
  unfold Oper.wp
  rw [hv]
  exact hnext _ _ (R.put (s:=⟨cn k s.slots,ins k c' s.own⟩) hdf hn (hw.step k vk c' row h1 h2 h3 h4 h5 h6 h7 (.inr fun e=>by simp at hfx; exact hfx e) (.inr hnu) hpl) (hs.cn k vk) h8)
theorem cz {T k:Nat} {zs:List CP} (ht:qZ P T zs) (hfx:n.fix.contains k = false) (hnu:di k s.own = true:=by rfl):aR P E n ⟨dst,.alloc T,ty,pos,after,g⟩ s ((⟨cn k s.slots,ins k (.box T zs) s.own⟩:St).put n dst (.b (.ptr k 0))) :=
 aR.make (hfx:=hfx) (hnu:=hnu) (o:=⟨dst,.alloc T,ty,pos,after,g⟩) fun ac w h ρ hw hs=>by
  obtain ⟨i,z,hi,hz,hzs⟩:=ht.info
  refine ⟨.pointer (some ⟨w.heap.size,0,none⟩),.pointer (some ⟨w.heap.size,0,none⟩),w.alloc (.cells z.cells T),none,?_,fun b e=>by simp at e,by simp,rfl,rfl,fun b hb _=>heap_alloc_old w _ hb,⟨w.heap.size,z.cells,rfl,heap_alloc_new w _,oo h hzs⟩,
   fun b e=>by simp [aZ] at e; subst e; exact .inr (Nat.le_refl _),w.heap.size,cG _ _ _,rfl⟩
  simp [execOp,Instr.alloc,zeroValue,typeInfo,hi,hz,newVar,newRow]
theorem wZ {T k:Nat} {ps:List CP} (hx:s.ev x = some (.b (.agg ps))) (hfx:n.fix.contains k = false) (hnu:di k s.own = true:=by rfl):aR P E n ⟨dst,.box T x,ty,pos,after,g⟩ s ((⟨cn k s.slots,ins k (.box T ps) s.own⟩:St).put n dst (.b (.ptr k 0))) :=
 aR.make (hfx:=hfx) (hnu:=hnu) (o:=⟨dst,.box T x,ty,pos,after,g⟩) fun ac w h ρ hw hs=>by
  obtain ⟨cs,hv,hr⟩:=(aC hs hx:BV.rel h ρ (.agg ps) _)
  refine ⟨.pointer (some ⟨w.heap.size,0,none⟩),.pointer (some ⟨w.heap.size,0,none⟩),w.alloc (.cells cs T),none,?_,fun b e=>by simp at e,by simp,rfl,rfl,fun b hb _=>heap_alloc_old w _ hb,⟨w.heap.size,cs,rfl,heap_alloc_new w _,hr⟩,
   fun b e=>by simp [aZ] at e; subst e; exact .inr (Nat.le_refl _),w.heap.size,cG _ _ _,rfl⟩
  simp only [execOp,hv]
  simp [Instr.box,newVar,newRow,Value.cells]
theorem op_box1 {T k:Nat} {p:CP} (hx:s.ev x = some (.b (.one p))) (hfx:n.fix.contains k = false) (hnu:di k s.own = true:=by rfl):aR P E n ⟨dst,.box T x,ty,pos,after,g⟩ s ((⟨cn k s.slots,ins k (.box T [p]) s.own⟩:St).put n dst (.b (.ptr k 0))) :=
 aR.make (hfx:=hfx) (hnu:=hnu) (o:=⟨dst,.box T x,ty,pos,after,g⟩) fun ac w h ρ hw hs=>by
  have hr:p.rel h (ac.eval x):=aC hs hx
  have h1:=p.one hr
  have hcells:(ac.eval x).cells = #[ac.eval x]:=by cases hq:ac.eval x <;> first | rfl | (rw [hq] at h1; simp [Value.oneCell'] at h1)
  refine ⟨.pointer (some ⟨w.heap.size,0,none⟩),.pointer (some ⟨w.heap.size,0,none⟩),w.alloc (.cells #[ac.eval x] T),none,?_,fun b e=>by simp at e,by simp,rfl,rfl,fun b hb _=>heap_alloc_old w _ hb,⟨w.heap.size,#[ac.eval x],rfl,heap_alloc_new w _,.cons hr .nil⟩,
   fun b e=>by simp [aZ] at e; subst e; exact .inr (Nat.le_refl _),w.heap.size,cG _ _ _,rfl⟩
  simp only [execOp]
  simp [Instr.box,newVar,newRow,hcells]
def SV.cells:SV → Option (List CP)
 | .b (.one p)=>some [p]
 | .b (.agg ps)=>some ps
 | _=>none
theorem SV.H9 {h:PH} {ρ:RM} {z:SV} {ps:List CP} {v:Value} (hz:z.cells = some ps) (hv:z.rel h ρ v):aA h ps v.cells.toList:=by
 cases z with
 | b z=>cases z with
  | one p=>
   simp [SV.cells] at hz; subst hz
   have h1:=p.one (hv:p.rel h v)
   have hcells:v.cells = #[v]:=by cases v <;> first | rfl | simp [Value.oneCell'] at h1
   rw [hcells]; exact .cons hv .nil
  | agg qs=>simp [SV.cells] at hz; subst hz; obtain ⟨cs,rfl,hr⟩:=hv; exact hr
  | _=>simp [SV.cells] at hz
 | _=>simp [SV.cells] at hz
def eE (s:St):List (Nat × Operand) → Option (List (Nat × List CP))
 | []=>some []
 | (i,x) :: l=>(s.ev x).bind fun z=>z.cells.bind fun ps=>(eE s l).map fun r=>(i,ps) :: r
def ir (place:Nat → Option (Nat × Nat)) (zs:List CP):List (Nat × List CP) → Option (List CP)
 | []=>some zs
 | (i,qs) :: r=>(place i).bind fun q=>if qs.length = q.2 ∧ q.1 + qs.length ≤ zs.length then ir place (aN zs q.1 qs) r else none
theorem zY (off:Nat):∀ (l:List Value) (k:Nat) (cs:Array Value),off + k + l.length ≤ cs.size →
  ((l.zipIdx k).foldl (fun (cs:Array Value) (p:Value × Nat)=>cs.setIfInBounds (off + p.2) p.1) cs).toList = aN cs.toList (off + k) l
 | [],k,cs,_=>by simp [aN]
 | v :: l,k,cs,h=>by
  simp only [List.length_cons] at h
  rw [List.zipIdx_cons,List.foldl_cons,zY off l (k + 1) _ (by simp; omega)]
  apply List.ext_getElem?
  intro i
  have hc:cs.toList.length = cs.size:=by simp
  simp only [aN,Array.toList_setIfInBounds]
  by_cases h1:i < off + k
  ·rw [List.append_assoc,List.append_assoc,List.getElem?_append_left (by simp; omega),List.getElem?_append_left (by simp; omega)]
   rw [List.getElem?_take,List.getElem?_take,List.getElem?_set]
   simp [h1,show i < off + (k + 1) by omega,show ¬ off + k = i by omega]
  ·by_cases h2:i < off + k + (l.length + 1)
   ·have e1:(List.take (off + k) cs.toList ++ v :: l ++ List.drop (off + k + (v :: l).length) cs.toList)[i]? = (v :: l)[i - (off + k)]?:=by
     rw [List.append_assoc,List.getElem?_append_right (by simp; omega),List.getElem?_append_left (by simp; omega)]
     congr 1
     simp; omega
    rw [e1]
    by_cases h3:i = off + k
    ·subst h3
     rw [List.append_assoc,List.getElem?_append_left (by simp; omega),List.getElem?_take,List.getElem?_set]
     simp [show off + k < off + (k + 1) by omega,show off + k < cs.size by omega]
    ·rw [List.append_assoc,List.getElem?_append_right (by simp; omega),List.getElem?_append_left (by simp; omega)]
     have e2:i - (off + k) = (i - (off + k) - 1) + 1:=by omega
     rw [e2,List.getElem?_cons_succ]
     congr 1
     simp; omega
   ·rw [List.append_assoc,List.getElem?_append_right (by simp; omega),List.getElem?_append_right (by simp; omega)]
    rw [List.append_assoc,List.getElem?_append_right (by simp; omega),List.getElem?_append_right (by simp; omega)]
    simp only [List.getElem?_drop,List.getElem?_set,List.length_take,List.length_set,List.length_cons,hc]
    rw [if_neg (by omega)]
    congr 1
    omega
theorem oP {h:PH} {ρ:RM} {ac:Act} (hs:bp h ρ s.slots ac.tmps) (place:Nat → Option (Nat × Nat)):∀ (parts:List (Nat × Operand)) (cps:List (Nat × List CP)) (zs qs:List CP) (zc:Array Value),
  eE s parts = some cps → ir place zs cps = some qs → aA h zs zc.toList → ∃ cs,Instr.fill place zc (parts.map fun p=>(p.1,ac.eval p.2)) = some cs ∧ aA h qs cs.toList
 | [],cps,zs,qs,zc,he,hf,hz=>by
  simp [eE] at he; subst he
  simp [ir] at hf; subst hf
  exact ⟨zc,rfl,hz⟩
 | (i,x) :: l,cps,zs,qs,zc,he,hf,hz=>by
  unfold eE at he
  simp only [Option.bind_eq_some_iff,Option.map_eq_some_iff] at he
  obtain ⟨z,hz1,ps,hps,r,hr,rfl⟩:=he
  unfold ir at hf
  simp only [Option.bind_eq_some_iff] at hf
  obtain ⟨⟨off,size⟩,hpl,hf⟩:=hf
  split at hf
  ·rename_i hc
   obtain ⟨hc1,hc2⟩:=hc
   have hrel:=SV.H9 hps (aC hs hz1)
   have hl:=hrel.length
   have hzl:=hz.length
   simp only [Array.length_toList] at hl hzl
   dsimp only at hc1 hc2 hf
   have hsp:((ac.eval x).cells.zipIdx.foldl (fun cs (p:Value × Nat)=>cs.setIfInBounds (off + p.2) p.1) zc).toList = aN zc.toList off (ac.eval x).cells.toList:=by
    have:=zY off (ac.eval x).cells.toList 0 zc (by simp; omega)
    rw [Nat.add_zero] at this
    rw [← this,← Array.foldl_toList]
    congr 2
    simp
   obtain ⟨cs,h1,h2⟩:=oP hs place l r (aN zs off ps) qs _ hr hf (by rw [hsp]; exact aQ.aN hz hrel off)
   refine ⟨cs,?_,h2⟩
   simp only [List.map_cons,Instr.fill,hpl]
   rw [if_neg (by simp; omega)]
   exact h1
  ·simp at hf
structure y9 (P:Program) (t:TypeId) (pl:List (Nat × Nat)) (zs:List CP):Prop where
 info:∃ it z fs,P.info? t = some it ∧ it.zero = some z ∧ F9 z.cells.toList = some zs ∧ P.underlying t = some (.struct fs) ∧ fs.toList.mapM (fun f=>(P.info? f.type).map fun i=>(f.offset,i.size)) = some pl
theorem hN {pl:List (Nat × Nat)} {zs qs:List CP} {parts:Array (Nat × Operand)} {cps:List (Nat × List CP)} (ht:y9 P t pl zs) (hp:eE s parts.toList = some cps) (hf:ir (pl.toArray[·]?) zs cps = some qs) :
  aR P E n ⟨dst,.build t parts,ty,pos,after,g⟩ s (s.put n dst (.b (.agg qs))) :=
 aR.val (o:=⟨dst,.build t parts,ty,pos,after,g⟩) fun ac w h ρ hw hs=>by
  obtain ⟨it,z,fs,h1,h2,h3,h4,h5⟩:=ht.info
  obtain ⟨cs,hc1,hc2⟩:=oP hs (pl.toArray[·]?) parts.toList cps zs qs z.cells hp hf (oo h h3)
  refine ⟨.agg cs,?_,cs,rfl,hc2⟩
  have hb:P.built t (parts.map fun (i,x)=>(i,ac.eval x)).toList = some cs:=by
   simp only [Program.built,h1,h4,h2,h5]
   rw [← hc1]
   simp
  have:=run_build (P:=P) w t _ cs hb
  simp only [execOp]
  simp [this]
theorem Bv {h:PH} {zs:List CP} {zc:List Value} (hz:aA h zs zc) (hp:0 < zs.length) (m:Nat) :
  aA h ((List.range m).map fun i=>zs.getD (i % zs.length) .any) ((List.range m).map fun i=>zc[i % zc.length]!):=by
 refine aQ.zk (by simp) fun i a b ha hb=>?_
 simp only [List.getElem?_map,Option.map_eq_some_iff] at ha hb
 obtain ⟨j,hj,rfl⟩:=ha
 obtain ⟨j',hj',rfl⟩:=hb
 rw [hj] at hj'; cases hj'
 have hlt:j % zs.length < zs.length:=Nat.mod_lt _ hp
 obtain ⟨u,hu,hr⟩:=hz.get (j % zs.length) zs[j % zs.length] (List.getElem?_eq_getElem hlt)
 rw [hz.length] at hu
 have e1:zs.getD (j % zs.length) .any = zs[j % zs.length]:=by simp [List.getD,List.getElem?_eq_getElem hlt]
 have e2:zc[j % zc.length]! = u:=by rw [List.getElem!_eq_getElem?_getD]; simp [hu]
 rw [e1,e2]; exact hr
theorem da {e k len size bytes:Nat} {zs:List CP} {es:List (List CP)} {parts:Array (Nat × Operand)} {cps:List (Nat × List CP)} (ht:kV P t e size bytes zs) (hp:eE s parts.toList = some cps)
  (hf:ir (fun i=>some (i * size,size)) ((List.range (len * size)).map fun i=>zs.getD (i % size) .any) cps = some es.flatten) (hu:cb size es) (hl:es.length = len) (h0:0 < len * size) (h24:len * size ≤ 16777216) (hfx:n.fix.contains k = false) (hnu:di k s.own = true:=by rfl) :
  aR P E n ⟨dst,.buildSlice t len parts,ty,pos,after,g⟩ s ((⟨cn k s.slots,ins k (.row e size es) s.own⟩:St).put n dst (.b (.row k))) :=
 aR.make (hfx:=hfx) (hnu:=hnu) (o:=⟨dst,.buildSlice t len parts,ty,pos,after,g⟩) fun ac w h ρ hw hs=>by
  obtain ⟨i,z,h1,h2,h3,h4,h5,h6,h7⟩:=ht.info
  have hzr:=oo h h7
  have hzl:zs.length = size:=by rw [hzr.length]; simpa using h5
  have hzeros:=Bv hzr (by omega) (len * size)
  rw [hzl] at hzeros
  have hzc:((Array.range (len * size)).map (z.cells[· % z.cells.size]!)).toList = (List.range (len * size)).map fun i=>z.cells.toList[i % z.cells.toList.length]!:=by
   rw [Array.toList_map,Array.toList_range]
   refine List.map_congr_left fun j _=>?_
   rw [List.getElem!_eq_getElem?_getD,Array.getElem!_eq_getD]
   simp [Array.getD_eq_getD_getElem?]
  obtain ⟨cs,hc1,hc2⟩:=oP hs (fun i=>some (i * size,size)) parts.toList cps _ es.flatten ((Array.range (len * size)).map (z.cells[· % z.cells.size]!)) hp hf (by rw [hzc]; exact hzeros)
  have hcl:cs.size = len * size:=by have:=hc2.length; rw [gF hu,hl] at this; simpa using this.symm
  refine ⟨.slice (some ⟨w.heap.size,0,none⟩) len len,.slice (some ⟨w.heap.size,0,none⟩) len len,w.alloc (.cells cs e),none,?_,fun b e=>by simp at e,by simp,rfl,rfl,fun b hb _=>heap_alloc_old w _ hb,?_,
   fun b e=>by simp [aZ] at e; subst e; exact .inr (Nat.le_refl _),(cG _ _ _).symm⟩
  ·have hne:¬ len * size = 0:=by omega
   have hmap:(parts.map fun x=>(x.1,ac.eval x.2)).toList = parts.toList.map fun p=>(p.1,ac.eval p.2):=by simp
   simp only [execOp]
   have hrun:(Instr.buildSlice t len (parts.map fun (i,x)=>(i,ac.eval x))).run P w = .ok (.slice (some ⟨w.heap.size,0,none⟩) len len) (w.alloc (.cells cs e)):=by
    unfold Instr.buildSlice
    rw [Sem.run_bind,run_underlying ht.und,Result.andThen]
    simp only [Sem.run_bind,run_sizeOf h1,h2,Result.andThen_ok]
    rw [if_neg (by omega),if_neg hne]
    simp [zeroValue,typeInfo,h1,h4,hc1,newRow]
   simp [hrun]
  ·refine ⟨hu,h6,cs.toList,⟨by simp [hcl,hl],.inr ⟨w.heap.size,len,cs,by rw [hl],Nat.zero_le _,heap_alloc_new w _,by omega,?_,hcl,?_⟩⟩,hc2⟩
   ·have:len ≤ len * size:=Nat.le_mul_of_pos_right _ h6
    rw [c7]; omega
   ·rw [List.take_of_length_le]
    simp [hcl,hl]
end
end Go.Sk
namespace Go.Sk
set_option linter.unusedSimpArgs false
set_option linter.unusedVariables false
open Go Go.BigFrame
section
variable {P:Program} {TB:aF} {E:Env TB} {n:Sh} {s s':St} {dst:Option Nat} {t ty yt:TypeId} {pos:String} {after:Array Edge} {g:Option (Nat × Bool)} {x y c:Operand} {ops:Array Oper} {l:List Oper} {Q:bF} {cd:Code}
theorem WR.drop {h:PH} {ρ:RM} {own:List (Nat × OC)} {w:World} (hw:WR E n own h ρ w) (k:Nat):WR E n (del k own) h ρ w:=hw.sub fun _ hp=>(b9 hp).1
theorem xZ {v:Value} (h:(∀ a,v ≠ .pointer (some a)) ∧ ∀ b,v ≠ .map (some b)):v.ownBlock = aZ v:=by
 cases v with
 | map b=>cases b with
  | none=>rfl
  | some b=>exact absurd rfl (h.2 b)
 | slice a n c=>cases a <;> rfl
 | pointer a=>cases a with
  | none=>rfl
  | some a=>exact absurd rfl (h.1 a)
 | _=>rfl
theorem Ag {h:PH} {ρ:RM} {v:Value} {w:World} {T:TypeId} {size:Nat} {es:List (List CP)} (hc:(OC.row T size es).ok h ρ v w):(∀ a,v ≠ .pointer (some a)) ∧ ∀ b,v ≠ .map (some b):=by
 obtain ⟨_,_,xs,⟨_,how⟩,_⟩:=hc
 rcases how with ⟨rfl,_⟩ | ⟨_,_,_,rfl,_⟩ <;> simp
structure Src (w:World) (v:Value) (h:PH) (size:Nat) (news:List (List CP)):Prop where
 uni:cb size news
 pos:0 < size
 form:(v = .slice none 0 0 ∧ news = []) ∨ ∃ a c cs,v = .slice (some a) news.length c ∧ news.length ≤ maxLen ∧ aA h news.flatten cs ∧ (∀ j u,cs[j]? = some u → w.cell? (a.add j) = some u)
theorem Src.of_sl {h:PH} {ρ:RM} {own:List (Nat × OC)} {w:World} (hw:WR E n own h ρ w) {v:Value} {size:Nat} {es:List (List CP)} (hv:(CP.sl size es).rel h v):Src w v h size es:=by
 obtain ⟨hu,hz,hv⟩:=hv
 refine ⟨hu,hz,?_⟩
 rcases hv with hv | ⟨b,o,c,hv,h1,h2,h3⟩ | ⟨a,hv,rfl⟩
 ·exact .inl hv
 ·obtain ⟨cs,hc1,hc2⟩:=h3.list
  exact .inr ⟨⟨b,o,none⟩,c,cs,hv,by omega,hc1,fun j u hu=>by rw [Addr.add_lit]; exact hw.agree.cell (hc2 j u hu) (hc1.one u (List.mem_of_getElem? hu))⟩
 ·exact .inr ⟨a,0,[],hv,by simp,.nil,fun j u hu=>by simp at hu⟩
theorem Src.of_row {h:PH} {ρ:RM} {own:List (Nat × OC)} {w:World} (hw:WR E n own h ρ w) {k:Nat} {T:TypeId} {size:Nat} {es:List (List CP)} (hk:lk own k = some (.row T size es)):Src w (ρ k) h size es:=by
 obtain ⟨hu,hz,hf⟩:=mP hw hk
 refine ⟨hu,hz,?_⟩
 rcases hf with hf | ⟨b,cap,cur,h1,h2,h3,h4,h5,h6⟩
 ·exact .inl hf
 ·refine .inr ⟨⟨b,0,none⟩,cap,_,h1,by omega,h6,fun j u hu=>?_⟩
  rw [Addr.add_lit,Nat.zero_add,gr h2]
  rw [List.getElem?_take] at hu
  split at hu
  ·simpa using hu
  ·simp at hu
theorem wI {h:PH} {ρ:RM} {w:World} {v0:Value} {size bytes:Nat} {T e:TypeId} {zs:List CP} {es news:List (List CP)} {v:Value} (ht:kV P t e size bytes zs)
  (hok:(OC.row T size es).ok h ρ v0 w) (hT:T = e) (hsrc:Src w v h size news) (hb:(es.length + news.length) * bytes ≤ 140737488355328) (hm:es.length + news.length ≤ maxLen) :
  ∃ v' w',(Builtin.append_ #[t,t] ty #[v0,v]).run P w = .ok v' w' ∧ w.heap.size ≤ w'.heap.size ∧ w'.os = w.os ∧ w'.output = w.output ∧ (∀ b,b < w.heap.size → some b ≠ aZ (v0) → w'.heap[b]? = w.heap[b]?) ∧
   (OC.row e size (es ++ news)).ok h ρ v' w' ∧ (∀ b,aZ v' = some b → aZ (v0) = some b ∨ w.heap.size ≤ b):=by
 subst hT
 obtain ⟨i,z,h1,h2,h3,h4,h5,h6,h7⟩:=ht.info
 have hnp:=Ag hok
 obtain ⟨hu,hz,xs,how,hr⟩:=id hok
 rcases hsrc.form with ⟨rfl,rfl⟩ | ⟨ad,c,cs,rfl,hl,hc1,hc2⟩
 ·refine ⟨v0,w,run_append_owned_none w 0 t ty T i size ht.und h1 (v0) es.length xs how,Nat.le_refl _,rfl,rfl,fun _ _ _=>rfl,by simpa using hok,fun b hb=>.inl hb⟩
 ·have hlen:cs.length = news.length * size:=by rw [← hc1.length,gF hsrc.uni]
  have hzs:z.cells.size = size:=h5
  have hnews:∀ j u,cs[j]? = some u → w.cell? (ad.add j) = some u:=hc2
  obtain ⟨v',w',hrun,how',hg,hnil⟩:=run_append_own (P:=P) w 0 t ty T i z size bytes ht.und h1 h4 h2 h3 hzs h6 (v0) es.length xs how ad news.length c cs hlen hnews hc1.one hm hb (Nat.zero_le _)
  refine ⟨v',w',hrun,hg.size,hg.os,hg.output,fun b hb hne=>hg.block b hb (by rw [xZ hnp]; exact hne),⟨?_,h6,xs ++ cs,by simpa using how',?_⟩,?_⟩
  ·intro ps hps
   rcases List.mem_append.1 hps with h | h
   ·exact hu ps h
   ·exact hsrc.uni ps h
  ·rw [List.flatten_append]; exact aQ.append hr hc1
  ·rw [c7] at hm
   rcases how.2 with ⟨hv,hn0⟩ | ⟨g,cap,cur,hv,_,hh,hn1,hn2,hn3,hn4⟩
   ·by_cases hm0:news.length = 0
    ·have:=hnil.2 ⟨hv,hm0⟩
     rw [this]; intro b hb; simp [aZ] at hb
    ·have hr2:=run_append_nil (P:=P) w t ty T i z ht.und h1 h4 ad news.length c cs (by rw [h2]; exact hlen) hnews (by omega) (by omega) (by rw [h3]; rw [hn0,Nat.zero_add] at hb; omega)
     rw [hv,hr2] at hrun
     cases hrun
     intro b hb; simp [aZ] at hb; subst hb; exact .inr (Nat.le_refl _)
   ·by_cases hroom:es.length + news.length ≤ cap
    ·have hfit:es.length * i.size + cs.length ≤ cur.size:=by rw [hlen,hn3,h2,← Nat.add_mul]; exact Nat.mul_le_mul_right _ hroom
     have hr2:=run_append_room (P:=P) w t ty T i ht.und h1 g es.length cap cur hh ad news.length c cs (by rw [h2]; exact hlen) hnews hc1.one hroom hfit
     rw [hv,hr2] at hrun
     cases hrun
     intro b hb; simp [aZ] at hb; subst hb; rw [hv]; exact .inl rfl
    ·have hold:∀ j u,xs[j]? = some u → w.cell? ((⟨g,0,none⟩:Addr).add j) = some u:=fun j u hu=>by
      rw [Addr.add_lit,Nat.zero_add,gr hh]
      rw [← hn4,List.getElem?_take] at hu
      split at hu
      ·simpa using hu
      ·simp at hu
     have hr2:=run_append_grow (P:=P) w t ty T i z ht.und h1 h4 ⟨g,0,none⟩ es.length cap xs (by rw [h2]; exact how.1) hold ad news.length c cs (by rw [h2]; exact hlen) hnews (by omega) (by omega)
      (growslice_fits (by omega) (by rw [h3]; exact hb))
     rw [hv,hr2] at hrun
     cases hrun
     intro b hb; simp [aZ] at hb; subst hb; exact .inr (Nat.le_refl _)
theorem yw {h:PH} {ρ:RM} {w:World} (hw:WR E n s.own h ρ w) {k size bytes:Nat} {T e:TypeId} {zs:List CP} {es news:List (List CP)} {v:Value} (ht:kV P t e size bytes zs)
  (hk:lk s.own k = some (.row T size es)) (hT:T = e) (hsrc:Src w v h size news) (hb:(es.length + news.length) * bytes ≤ 140737488355328) (hm:es.length + news.length ≤ maxLen) :
  ∃ v' w',(Builtin.append_ #[t,t] ty #[ρ k,v]).run P w = .ok v' w' ∧ w.heap.size ≤ w'.heap.size ∧ w'.os = w.os ∧ w'.output = w.output ∧ (∀ b,b < w.heap.size → some b ≠ aZ (ρ k) → w'.heap[b]? = w.heap[b]?) ∧
   (OC.row e size (es ++ news)).ok h ρ v' w' ∧ (∀ b,aZ v' = some b → aZ (ρ k) = some b ∨ w.heap.size ≤ b) :=
 wI ht (hw.owned k _ (bh hk)).1 hT hsrc hb hm
theorem mu {k size bytes:Nat} {e:TypeId} {zs:List CP} {es news es':List (List CP)} (ht:kV P t e size bytes zs) (hb:(es.length + news.length) * bytes ≤ 140737488355328) (hm:es.length + news.length ≤ 9223372036854775807)
  (hx:s.ev x = some (.b (.row k))) (hk:lk s.own k = some (.row e size es)) (hy:s.ev y = some (.b (.one (.sl size news)))) (he:es ++ news = es') (hfx:n.fix.contains k = false) (hnu:di k s.own = true:=by rfl) :
  aR P E n ⟨dst,.call ⟨.builtin .append,#[x,y],#[t,t]⟩,ty,pos,after,g⟩ s ((⟨cn k s.slots,ins k (.row e size es') s.own⟩:St).put n dst (.b (.row k))) :=
 aR.make (hfx:=hfx) (hnu:=hnu) (o:=⟨dst,.call ⟨.builtin .append,#[x,y],#[t,t]⟩,ty,pos,after,g⟩) fun ac w h ρ hw hs=>by
  have hv:ac.eval x = ρ k:=(aC hs hx:BV.rel h ρ (.row k) _)
  have hu:=(aC hs hy:(CP.sl size news).rel h _)
  obtain ⟨v',w',hrun,h1,h2,h3,h4,h5,h6⟩:=yw (ty:=ty) hw ht hk rfl (Src.of_sl hw hu) hb (by rw [c7]; exact hm)
  subst he
  refine ⟨v',v',w',aZ (ρ k),?_,fun b hb=>⟨_,bh hk,hb⟩,h1,h2,h3,h4,h5,h6,(cG _ _ _).symm⟩
  rw [execOp_builtin,builtin_append]
  simp [hv,hrun]
theorem gE {k j size bytes:Nat} {e:TypeId} {zs:List CP} {es news es':List (List CP)} (ht:kV P t e size bytes zs) (hb:(es.length + news.length) * bytes ≤ 140737488355328) (hm:es.length + news.length ≤ 9223372036854775807)
  (hx:s.ev x = some (.b (.row k))) (hk:lk s.own k = some (.row e size es)) (hy:s.ev y = some (.b (.row j))) (hj:lk s.own j = some (.row e size news)) (he:es ++ news = es') (hfx:n.fix.contains k = false) (hnu:di k s.own = true:=by rfl) :
  aR P E n ⟨dst,.call ⟨.builtin .append,#[x,y],#[t,t]⟩,ty,pos,after,g⟩ s ((⟨cn k s.slots,ins k (.row e size es') s.own⟩:St).put n dst (.b (.row k))) :=
 aR.make (hfx:=hfx) (hnu:=hnu) (o:=⟨dst,.call ⟨.builtin .append,#[x,y],#[t,t]⟩,ty,pos,after,g⟩) fun ac w h ρ hw hs=>by
  have hv:ac.eval x = ρ k:=(aC hs hx:BV.rel h ρ (.row k) _)
  have hu:ac.eval y = ρ j:=(aC hs hy:BV.rel h ρ (.row j) _)
  obtain ⟨v',w',hrun,h1,h2,h3,h4,h5,h6⟩:=yw (ty:=ty) hw ht hk rfl (Src.of_row hw hj) hb (by rw [c7]; exact hm)
  subst he
  refine ⟨v',v',w',aZ (ρ k),?_,fun b hb=>⟨_,bh hk,hb⟩,h1,h2,h3,h4,h5,h6,(cG _ _ _).symm⟩
  rw [execOp_builtin,builtin_append]
  simp [hv,hu,hrun]
theorem ah.drop (k:Nat) (h:ah P E n cd ⟨cn k s.slots,del k s.own⟩ Q):ah P E n cd s Q:=fun a w hr=>h a w (by
 obtain ⟨h1,h2,h,ρ,hw,hs⟩:=hr
 exact ⟨h1,h2,h,ρ,hw.drop k,fun j x hx=>hs j x (fF hx).1⟩)
theorem aj.drop (k:Nat) (h:aj P E n ops l ⟨cn k s.slots,del k s.own⟩ Q):aj P E n ops l s Q:=fun a w hr=>h a w (by
 obtain ⟨h1,h2,h,ρ,hw,hs⟩:=hr
 exact ⟨h1,h2,h,ρ,hw.drop k,fun j x hx=>hs j x (fF hx).1⟩)
theorem R.jL {i k size:Nat} {T:TypeId} {a:Act} {w:World} (hr:R E n s a w) (hi:s.get i = some (.b (.one .nil))) (hz:0 < size) (hfx:n.fix.contains k = false) (hnu:di k s.own = true:=by rfl):R E n ⟨(i,.b (.row k)) :: del i (cn k s.slots),ins k (.row T size []) s.own⟩ a w:=by
 obtain ⟨h1,h2,h,ρ,hw,hs⟩:=hr
 have hst:=hw.step (w':=w) k (.slice none 0 0) (.row T size []) none (fun b e=>by simp at e) (Nat.le_refl _) rfl rfl (fun _ _ _=>rfl)
  ⟨fun ps hps=>by simp at hps,hz,[],⟨by simp,.inl ⟨rfl,rfl⟩⟩,.nil⟩ (fun b hb=>by simp [aZ] at hb) (.inr fun e=>by simp at hfx; exact hfx e) (.inr hnu)
 refine ⟨h1,h2,h,_,hst,?_⟩
 have hd:=hs.cn k (.slice none 0 0)
 intro j x hx
 cases List.mem_cons.1 hx with
 | inl e=>
  obtain ⟨rfl,rfl⟩:=Prod.mk.inj e
  obtain ⟨v,hv,hrel⟩:=hs _ _ (bh (show lk s.slots j = some _ from hi))
  exact ⟨v,hv,by rw [show v = .slice none 0 0 from hrel.1]; exact (cG _ _ _).symm⟩
 | inr e=>exact hd j x (b9 e).1
theorem ah.jL (i k size:Nat) (T:TypeId) (hi:s.get i = some (.b (.one .nil))) (hz:0 < size) (hfx:n.fix.contains k = false) (h:ah P E n cd ⟨(i,.b (.row k)) :: del i (cn k s.slots),ins k (.row T size []) s.own⟩ Q) (hnu:di k s.own = true:=by rfl):ah P E n cd s Q :=
 fun a w hr=>h a w (hr.jL hi hz hfx hnu)
theorem aj.jL (i k size:Nat) (T:TypeId) (hi:s.get i = some (.b (.one .nil))) (hz:0 < size) (hfx:n.fix.contains k = false) (h:aj P E n ops l ⟨(i,.b (.row k)) :: del i (cn k s.slots),ins k (.row T size []) s.own⟩ Q) (hnu:di k s.own = true:=by rfl):aj P E n ops l s Q :=
 fun a w hr=>h a w (hr.jL hi hz hfx hnu)
theorem R.cB {i size:Nat} {a:Act} {w:World} (hr:R E n s a w) (hi:s.get i = some (.b (.one .nil))) (hz:0 < size):R E n ⟨(i,.b (.one (.sl size []))) :: del i s.slots,s.own⟩ a w:=by
 obtain ⟨h1,h2,h,ρ,hw,hs⟩:=hr
 refine ⟨h1,h2,h,ρ,hw,?_⟩
 intro j x hx
 cases List.mem_cons.1 hx with
 | inl e=>
  obtain ⟨rfl,rfl⟩:=Prod.mk.inj e
  obtain ⟨v,hv,hrel⟩:=hs _ _ (bh (show lk s.slots j = some _ from hi))
  exact ⟨v,hv,fun ps hps=>by simp at hps,hz,.inl ⟨hrel.1,rfl⟩⟩
 | inr e=>exact hs j x (b9 e).1
theorem ah.cB (i size:Nat) (hi:s.get i = some (.b (.one .nil))) (hz:0 < size) (h:ah P E n cd ⟨(i,.b (.one (.sl size []))) :: del i s.slots,s.own⟩ Q):ah P E n cd s Q :=
 fun a w hr=>h a w (hr.cB hi hz)
theorem aj.cB (i size:Nat) (hi:s.get i = some (.b (.one .nil))) (hz:0 < size) (h:aj P E n ops l ⟨(i,.b (.one (.sl size []))) :: del i s.slots,s.own⟩ Q):aj P E n ops l s Q :=
 fun a w hr=>h a w (hr.cB hi hz)
def CV.dc (k:Nat) (p:CP):CV → CV
 | .row j=>if k == j then .one p else .row j
 | z=>z
def BV.dc (k:Nat) (p:CP):BV → BV
 | .row j=>if k == j then .one p else .row j
 | .cD f fs cs=>.cD f (fs.map (·.dc k p)) (cs.map (·.dc k p))
 | .xa cs=>.xa (cs.map (·.dc k p))
 | z=>z
def SV.dc (k:Nat) (p:CP):SV → SV
 | .b z=>.b (z.dc k p)
 | .kU l=>.kU (l.map (·.dc k p))
 | .jX l=>.jX (l.map (·.dc k p))
 | .opt c z=>.opt c (z.dc k p)
def qv (k:Nat) (p:CP):List (Nat × SV) → List (Nat × SV)
 | []=>[]
 | (j,x) :: l=>(j,x.dc k p) :: qv k p l
theorem xn {k:Nat} {p:CP}:∀ {l:List (Nat × SV)} {j:Nat} {x:SV},(j,x) ∈ qv k p l → ∃ y,(j,y) ∈ l ∧ x = y.dc k p
 | (i,y) :: l,j,x,h=>by
  unfold qv at h
  cases List.mem_cons.1 h with
  | inl e=>obtain ⟨rfl,rfl⟩:=Prod.mk.inj e; exact ⟨y,List.mem_cons_self,rfl⟩
  | inr e=>obtain ⟨z,hz,hx⟩:=xn e; exact ⟨z,List.mem_cons_of_mem _ hz,hx⟩
theorem CV.hM {h:PH} {ρ:RM} {k:Nat} {p:CP} (hp:p.rel h (ρ k)) {z:CV} {v:Value} (hz:z.rel h ρ v):(z.dc k p).rel h ρ v:=by
 cases z with
 | row j=>
  cases hkj:k == j with
  | true=>
   have e':k = j:=by simpa using hkj
   subst e'
   have hv:v = ρ k:=hz
   simp only [CV.dc,hkj,if_true]
   rw [hv]; exact hp
  | false=>
   simp only [CV.dc,hkj]
   exact hz
 | _=>exact hz
theorem CV.Gf {h:PH} {ρ:RM} {k:Nat} {p:CP} (hp:p.rel h (ρ k)):∀ {l:List CV} {vs:List Value},aQ (fun (x:CV) v=>x.rel h ρ v) l vs → aQ (fun (x:CV) v=>x.rel h ρ v) (l.map (·.dc k p)) vs
 | _,_,.nil=>.nil
 | _,_,.cons h1 t=>.cons (CV.hM hp h1) (CV.Gf hp t)
theorem CV.persX {h:PH} {ρ:RM} {k:Nat} {p:CP} (hp:p.rel h (ρ k)):∀ {l:List CV} {vs:List Value},aQ (fun (x:CV) v=>x.rel h ρ v ∧ v.oneCell' = true) l vs → aQ (fun (x:CV) v=>x.rel h ρ v ∧ v.oneCell' = true) (l.map (·.dc k p)) vs
 | _,_,.nil=>.nil
 | _,_,.cons h1 t=>.cons ⟨CV.hM hp h1.1,h1.2⟩ (CV.persX hp t)
theorem BV.hM {h:PH} {ρ:RM} {k:Nat} {p:CP} (hp:p.rel h (ρ k)) {z:BV} {v:Value} (hz:z.rel h ρ v):(z.dc k p).rel h ρ v:=by
 cases z with
 | row j=>
  cases hkj:k == j with
  | true=>
   have e':k = j:=by simpa using hkj
   subst e'
   have hv:v = ρ k:=hz
   simp only [BV.dc,hkj,if_true]
   rw [hv]; exact hp
  | false=>
   simp only [BV.dc,hkj]
   exact hz
 | cD f fs cs=>obtain ⟨a,b,e,h1,h2⟩:=hz; exact ⟨a,b,e,CV.Gf hp h1,CV.Gf hp h2⟩
 | xa cs=>obtain ⟨a,e,h1⟩:=hz; exact ⟨a,e,CV.persX hp h1⟩
 | _=>exact hz
theorem SV.hM {h:PH} {ρ:RM} {k:Nat} {p:CP} (hp:p.rel h (ρ k)) {z:SV} {v:Value} (hz:z.rel h ρ v):(z.dc k p).rel h ρ v:=by
 cases z with
 | b z=>exact BV.hM hp hz
 | opt c z=>exact ⟨fun hc=>BV.hM hp (hz.1 hc),hz.2⟩
 | kU l=>
  obtain ⟨vs,e,ha⟩:=hz
  refine ⟨vs,e,?_⟩
  clear e
  generalize vs.toList = vl at ha
  induction ha with
  | nil=>exact .nil
  | cons h' _ ih=>exact .cons (BV.hM hp h') ih
 | jX l=>
  obtain ⟨vs,e,ha⟩:=hz
  refine ⟨vs,e,?_⟩
  clear e
  generalize vs.toList = vl at ha
  induction ha with
  | nil=>exact .nil
  | cons h' _ ih=>exact .cons ⟨BV.hM hp h'.1,h'.2⟩ ih
def OC.dc (k:Nat) (p:CP):OC → OC
 | .ba T cs=>.ba T (cs.map (·.dc k p))
 | .mp es=>.mp (es.map fun q=>(q.1,q.2.dc k p))
 | c=>c
def oH (k:Nat) (p:CP) (l:List (Nat × OC)):List (Nat × OC):=l.map fun q=>(q.1,q.2.dc k p)
theorem OC.pers_ok {h:PH} {ρ:RM} {k:Nat} {p:CP} (hp:p.rel h (ρ k)) {c:OC} {v:Value} {w:World} (hc:c.ok h ρ v w):(c.dc k p).ok h ρ v w:=by
 cases c with
 | box T ps=>exact hc
 | row T size es=>exact hc
 | oe T size es=>exact hc
 | B3 T size es=>exact hc
 | sit q pos=>exact hc
 | mq m=>exact hc
 | rr=>exact hc
 | AR=>exact hc
 | mp es=>
  obtain ⟨b,ms,clk,e1,e2,ha,e3⟩:=hc
  refine ⟨b,ms,clk,e1,e2,?_,e3⟩
  clear e2 e3
  unfold pF at ha ⊢
  generalize ms.toList = l at ha
  induction ha with
  | nil=>exact .nil
  | cons h1 t ih=>exact .cons ⟨h1.1,BV.hM hp h1.2⟩ ih
 | ba T cs=>
  obtain ⟨b,cur,e1,e2,ha⟩:=hc
  refine ⟨b,cur,e1,e2,?_⟩
  clear e2
  generalize cur.toList = l at ha
  induction ha with
  | nil=>exact .nil
  | cons h1 t ih=>exact .cons ⟨BV.hM hp h1.1,h1.2⟩ ih
theorem OC.xh {k:Nat} {p:CP} {c:OC} {v:Value} {w:World} {b:Nat}:(c.dc k p).du v w b ↔ c.du v w b:=by cases c <;> exact Iff.rfl
theorem WR.oH {h:PH} {ρ:RM} {own:List (Nat × OC)} {w:World} {k:Nat} {p:CP} (hw:WR E n own h ρ w) (hp:p.rel h (ρ k)):WR E n (Sk.oH k p own) h ρ w :=
 ⟨hw.agree,hw.le,hw.fresh,hw.size,hw.same,hw.fixed,hw.os,hw.out,hw.nl,fun j c hj=>by
  obtain ⟨⟨j0,y⟩,hm,he⟩:=List.mem_map.1 hj
  obtain ⟨rfl,rfl⟩:=Prod.mk.inj he
  obtain ⟨e1,e2,e3⟩:=hw.owned _ _ hm
  refine ⟨OC.pers_ok hp e1,fun b hb=>e2 b (OC.xh.1 hb),fun j' c' hj'=>?_⟩
  obtain ⟨⟨j1,y1⟩,hm1,he1⟩:=List.mem_map.1 hj'
  obtain ⟨rfl,rfl⟩:=Prod.mk.inj he1
  exact fun hne b hb hb'=>e3 _ _ hm1 hne b (OC.xh.1 hb) (OC.xh.1 hb')⟩
def c9 (h:PH) (g:Nat) (cs:List Value):PH:=fun b o=>if b = g then cs[o]? else h b o
theorem R.gL {k size:Nat} {T:TypeId} {es:List (List CP)} {a:Act} {w:World} (hr:R E n s a w) (hk:lk s.own k = some (.row T size es)):R E n ⟨qv k (.sl size es) s.slots,oH k (.sl size es) (del k s.own)⟩ a w:=by
 obtain ⟨h1,h2,h,ρ,hw,hs⟩:=hr
 obtain ⟨hu,hz,hf⟩:=mP hw hk
 have hown:=hw.owned k _ (bh hk)
 rcases hf with ⟨hρ,rfl⟩ | ⟨g,cap,cur,hρ,hh,hn1,hn2,hn3,hn4⟩
 ·refine ⟨h1,h2,h,ρ,(hw.drop k).oH ⟨hu,hz,.inl ⟨hρ,rfl⟩⟩,?_⟩
  intro j x hx
  obtain ⟨y,hy,rfl⟩:=xn hx
  obtain ⟨v,hv,hrel⟩:=hs j y hy
  exact ⟨v,hv,SV.hM (p:=.sl size []) ⟨hu,hz,.inl ⟨hρ,rfl⟩⟩ hrel⟩
 ·have hg:=hown.2.1 g (.inl (by rw [hρ]; rfl))
  let cs:=cur.toList.take (es.length * size)
  have hle:h.le (c9 h g cs):=fun b o v hv=>by
   unfold c9
   split
   ·rename_i e; subst e; rw [hg.2 o] at hv; simp at hv
   ·exact hv
  have hsl:(CP.sl size es).rel (c9 h g cs) (ρ k):=by
   refine ⟨hu,hz,.inr (.inl ⟨g,0,cap,hρ,hn1,hn2,?_⟩)⟩
   intro j c hc
   obtain ⟨u,hu',hr'⟩:=hn4.get j c hc
   exact ⟨u,by simp only [c9,if_true,Nat.zero_add]; exact hu',c.mono hle hr'⟩
  refine ⟨h1,h2,c9 h g cs,ρ,WR.oH (k:=k) (p:=.sl size es) (own:=del k s.own) ⟨?_,PH.le_trans hw.le hle,?_,hw.size,hw.same,hw.fixed,hw.os,hw.out,hw.nl,?_⟩ hsl,?_⟩
  ·intro b o v hv
   unfold c9 at hv
   split at hv
   ·rename_i e; subst e
    refine rj hh ?_ (hn4.one v (List.mem_of_getElem? hv))
    simp only [cs,List.getElem?_take] at hv
    split at hv
    ·simpa using hv
    ·simp at hv
   ·exact hw.agree b o v hv
  ·intro b hb hnl
   rw [← hw.fresh b hb hnl]
   funext o
   unfold c9
   rw [if_neg fun e=>by
    subst e
    rcases hg.1 with h | h
    ·omega
    ·exact hnl h]
  ·intro j c hj
   obtain ⟨hj1,hj2⟩:=b9 hj
   obtain ⟨e1,e2,e3⟩:=hw.owned j c hj1
   refine ⟨e1.mono hle,fun b hb=>⟨(e2 b hb).1,fun o=>?_⟩,fun j' c' hj'=>e3 j' c' (b9 hj').1⟩
   have hbg:b ≠ g:=fun e=>by
    subst e
    exact e3 k _ (bh hk) (fun e=>hj2 e.symm) b hb (.inl (by rw [hρ]; rfl))
   unfold c9
   rw [if_neg hbg]
   exact (e2 b hb).2 o
  ·intro j x hx
   obtain ⟨y,hy,rfl⟩:=xn hx
   obtain ⟨v,hv,hrel⟩:=hs j y hy
   exact ⟨v,hv,SV.hM hsl (SV.mono hle (fun _ _=>rfl) hrel)⟩
theorem ah.gL (k:Nat) {size:Nat} {T:TypeId} {es:List (List CP)} (hk:lk s.own k = some (.row T size es)) (h:ah P E n cd ⟨qv k (.sl size es) s.slots,oH k (.sl size es) (del k s.own)⟩ Q):ah P E n cd s Q:=fun a w hr=>h a w (hr.gL hk)
theorem aj.gL (k:Nat) {size:Nat} {T:TypeId} {es:List (List CP)} (hk:lk s.own k = some (.row T size es)) (h:aj P E n ops l ⟨qv k (.sl size es) s.slots,oH k (.sl size es) (del k s.own)⟩ Q):aj P E n ops l s Q:=fun a w hr=>h a w (hr.gL hk)
theorem Fin.gL {e:Exit} (k:Nat) {size:Nat} {T:TypeId} {es:List (List CP)} (hk:lk s.own k = some (.row T size es)) (h:Fin E n e ⟨qv k (.sl size es) s.slots,oH k (.sl size es) (del k s.own)⟩ Q):Fin E n e s Q:=fun a w hr=>h a w (hr.gL hk)
end
end Go.Sk
namespace Go.Sk
set_option linter.unusedSimpArgs false
set_option linter.unusedVariables false
open Go Go.BigFrame
def B9 (own:List (Nat × OC)) (h:PH) (ρ:RM) (w:World):Prop :=
 ∀ k c,(k,c) ∈ own → c.ok h ρ (ρ k) w ∧ (∀ b,c.du (ρ k) w b → aZ (ρ k) = some b ∧ ∀ o,h b o = none) ∧ ∀ k' c',(k',c') ∈ own → k' ≠ k → ∀ b,c.du (ρ k) w b → ¬ c'.du (ρ k') w b
def ai (own:List (Nat × OC)):List Nat:=own.map (·.1)
def aq:List (Nat × OC) → List Nat
 | []=>[]
 | (k,c) :: l=>if c.vt then k :: aq l else aq l
abbrev dQ:=List (Nat × OC) → SV → Prop
def iD {TB:aF} (E:Env TB) (n:Sh) (post:dQ) (e:Ending) (w':World):Prop :=
 ∃ v own' res h' ρ',e = .returned v ∧ post own' res ∧ WR E n own' h' ρ' w' ∧ res.rel h' ρ' v
def aG (P:Program) (TB:aF) (f:FuncId) (own:List (Nat × OC)) (args:List BV) (post:dQ):Prop :=
 ∀ (w:World) (h:PH) (ρ:RM) (vals:List Value) (tb:cx TB h w),oI h w → B9 own h ρ w → aQ (fun (x:BV) v=>x.rel h ρ v) args vals →
  Calls P f vals.toArray w (iD ⟨w,h,ρ,tb⟩ ⟨0,aq own,ai own,[]⟩ post)
def Is (own:List (Nat × OC)) (res:SV):dQ:=fun o r=>o = own ∧ r = res
theorem WR.sh {TB:aF} {E:Env TB} {n n':Sh} {own:List (Nat × OC)} {h:PH} {ρ:RM} {w:World} (hn:n.fix = n'.fix) (hl:n.lnd = n'.lnd) (hw:WR E n own h ρ w):WR E n' own h ρ w:=by
 cases n; cases n'; cases hn; cases hl
 exact ⟨hw.agree,hw.le,hw.fresh,hw.size,hw.same,hw.fixed,hw.os,hw.out,hw.nl,hw.owned⟩
def fI:Nat → List BV → List (Nat × SV)
 | _,[]=>[]
 | i,x :: l=>(i,.b x) :: fI (i + 1) l
theorem gQ:∀ {l:List BV} {i k:Nat} {x:SV},(k,x) ∈ fI i l → ∃ j z,k = i + j ∧ l[j]? = some z ∧ x = .b z
 | [],i,k,x,h=>by simp [fI] at h
 | y :: l,i,k,x,h=>by
  unfold fI at h
  cases List.mem_cons.1 h with
  | inl e=>obtain ⟨rfl,rfl⟩:=Prod.mk.inj e; exact ⟨0,y,rfl,rfl,rfl⟩
  | inr e=>obtain ⟨j,z,rfl,hz,rfl⟩:=gQ e; exact ⟨j + 1,z,by omega,by simpa using hz,rfl⟩
def bI (w w₂:World):Prop:=∀ b k u,w.cell? ⟨b,k,none⟩ = some u → w₂.cell? ⟨b,k,none⟩ = some u
theorem bI.refl (w:World):bI w w:=fun _ _ _ h=>h
def yP (P:Program) (fn:Func) {TB:aF} (E:Env TB) (n:Sh) (post:dQ):bF
 | .normal,a,w=>a.defers = n.dfs ∧ ∃ v,(∀ w₂,bI w w₂ → (results fn a.tmps).run P w₂ = .ok v w₂) ∧ iD E n post (.returned v) w
 | .ret,a,w=>a.defers = n.dfs ∧ ∃ v,(∀ w₂,bI w w₂ → (results fn a.tmps).run P w₂ = .ok v w₂) ∧ iD E n post (.returned v) w
 | _,_,_=>False
theorem yP.body {P:Program} {fn:Func} {TB:aF} {E:Env TB} {n:Sh} {post:dQ} (hd:n.dfs = []):∀ e a w,yP P fn E n post e a w → bodyPost P fn (iD E n post) e a w
 | .normal,a,w,⟨h1,v,h2,h3⟩=>⟨h1.trans hd,v,h2 w (bI.refl w),h3⟩
 | .ret,a,w,⟨h1,v,h2,h3⟩=>⟨h1.trans hd,v,h2 w (bI.refl w),h3⟩
 | .exit _,_,_,h=>h.elim
 | .goto _,_,_,h=>h.elim
 | .panic _,_,_,h=>h.elim
 | .outgrown,_,_,h=>h.elim
theorem aG.intro {P:Program} {TB:aF} {f:FuncId} {fn:Func} {c:Code} {own:List (Nat × OC)} {args:List BV} {post:dQ} (m:Nat) (hf:P.funcs[f]? = some fn) (hm:fn.ntmps = m) (hb:fn.body = some c) (hl:args.length ≤ m)
  (hbody:∀ E:Env TB,ah P E ⟨m,aq own,ai own,[]⟩ c ⟨fI 0 args,own⟩ (yP P fn E ⟨m,aq own,ai own,[]⟩ post)):aG P TB f own args post:=by
 intro w h ρ vals tb hag hlent hargs
 have hlen:=hargs.length
 refine (calls_of_wp (R:=iD ⟨w,h,ρ,tb⟩ ⟨m,aq own,ai own,[]⟩ post) hf hb (wp_mono (hbody ⟨w,h,ρ,tb⟩ _ w ⟨rfl,?_,h,ρ,⟨hag,PH.le_refl h,fun _ _ _=>rfl,Nat.le_refl _,fun _ _ _=>rfl,fun _ _=>rfl,rfl,rfl,?_,?_⟩,?_⟩) (yP.body rfl))).mono ?_
 ·simp [hm]; omega
 ·rintro b ⟨k,hk,hb⟩ o
  obtain ⟨⟨k',c⟩,hm',rfl⟩:=List.mem_map.1 hk
  exact ((hlent k' c hm').2.1 b (.inl hb)).2 o
 ·intro k c hc
  obtain ⟨h1,h3,h4⟩:=hlent k c hc
  exact ⟨h1,fun b hb=>⟨.inr ⟨k,List.mem_map.2 ⟨(k,c),hc,rfl⟩,(h3 b hb).1⟩,(h3 b hb).2⟩,h4⟩
 ·intro k x hx
  obtain ⟨j,z,rfl,hz,rfl⟩:=gQ hx
  obtain ⟨v,hv,hr⟩:=hargs.get j z hz
  refine ⟨v,?_,hr⟩
  have hj:=(List.getElem?_eq_some_iff.1 hv).1
  rw [Nat.zero_add,Array.getElem?_append_left (by simpa using hj)]
  simpa using hv
 ·rintro e w' ⟨v,own',res,h',ρ',e1,e2,e3,e4⟩
  exact ⟨v,own',res,h',ρ',e1,e2,WR.sh (n:=⟨m,aq own,ai own,[]⟩) (n':=⟨0,aq own,ai own,[]⟩) rfl rfl e3,e4⟩
section
variable {P:Program} {TB:aF} {E:Env TB} {n:Sh} {s s':St} {dst:Option Nat} {t ty yt:TypeId} {pos:String} {after:Array Edge} {g:Option (Nat × Bool)} {x y c:Operand} {ops:Array Oper} {l:List Oper} {Q:bF} {cd:Code}
def jk (tmps:Array Value):ResultVar → Sem Value
 | .tmp t=>pure (tmps.getD t undef)
 | .cell b t=>do loadVar t (← asAddr (tmps.getD b undef))
theorem mA (fn:Func) (tmps:Array Value):results fn tmps = (do let vs ← fn.results.mapM (jk tmps); pure (if h:vs.size = 1 then vs[0] else .tuple vs)):=by
 have:(fun x=>match x with
  | ResultVar.tmp t=>pure (tmps.getD t undef)
  | ResultVar.cell a t=>do loadVar t (← asAddr (tmps.getD a undef))) = jk tmps:=by funext x; cases x <;> rfl
 unfold results
 rw [← this]
 rfl
inductive pC (P:Program) (s:St):ResultVar → BV → Prop
 | tmp {t:Nat} {z:BV} (h:s.get t = some (.b z)):pC P s (.tmp t) z
 | agg {t k off m:Nat} {T T':TypeId} {ps qs:List CP} (ht:gg P T m) (h:s.get t = some (.b (.ptr k off))) (hk:lk s.own k = some (.box T' ps)) (hp:(ps.drop off).take m = qs) (hq:qs.length = m):pC P s (.cell t T) (.agg qs)
 | one {t k off:Nat} {T T':TypeId} {ps:List CP} {p:CP} (ht:cS P T) (h:s.get t = some (.b (.ptr k off))) (hk:lk s.own k = some (.box T' ps)) (hp:ps[off]? = some p):pC P s (.cell t T) (.one p)
def vq:List BV → SV
 | [z]=>.b z
 | l=>.kU l
theorem pC.run {rv:ResultVar} {z:BV} (hr:pC P s rv z) {a:Act} {w:World} {h:PH} {ρ:RM} (hw:WR E n s.own h ρ w) (hs:bp h ρ s.slots a.tmps) :
  ∃ v,(∀ w₂,bI w w₂ → (jk a.tmps rv).run P w₂ = .ok v w₂) ∧ z.rel h ρ v:=by
 cases hr with
 | tmp h'=>
  obtain ⟨v,hv,hrel⟩:=hs _ _ (bh (show lk s.slots _ = some _ from h'))
  exact ⟨v,fun w₂ _=>by simp [jk,Array.getD_eq_getD_getElem?,hv],hrel⟩
 | @agg t' k off m T T' ps qs ht h' hk hp hq=>
  obtain ⟨v,hv,b,he,hv'⟩:=hs _ _ (bh (show lk s.slots _ = some _ from h'))
  obtain ⟨b',cur,hb1,hb2,hb3⟩:=hX hw hk
  have:b' = b:=by rw [hb1] at he; simpa using he
  subst this
  have hc:aA h qs ((cur.toList.drop off).take m):=by rw [← hp]; exact aQ.take (aQ.drop hb3 off) m
  have hrun:=fun w₂ (hle:bI w w₂)=>jy ht (w:=w₂) (b:=b') (o:=off) (cs:=(cur.toList.drop off).take m) (by rw [← hc.length,hq]) (fun j v hv=>by
   refine hle _ _ _ ?_
   rw [gr hb2]
   rw [List.getElem?_take] at hv
   split at hv
   ·simpa using hv
   ·simp at hv)
  have hg:a.tmps.getD t' undef = .pointer (some ⟨b',off,none⟩):=by simp [Array.getD_eq_getD_getElem?,hv,hv']
  refine ⟨.agg ((cur.toList.drop off).take m).toArray,fun w₂ hle=>?_,_,rfl,by simpa using hc⟩
  simp only [jk,hg]
  simp [asAddr,hrun w₂ hle]
 | @one t' k off T T' ps p ht h' hk hp=>
  obtain ⟨v,hv,b,he,hv'⟩:=hs _ _ (bh (show lk s.slots _ = some _ from h'))
  obtain ⟨b',cur,hb1,hb2,hb3⟩:=hX hw hk
  have:b' = b:=by rw [hb1] at he; simpa using he
  subst this
  obtain ⟨u,hu,hpu⟩:=hb3.get off p hp
  have hrun:=fun w₂ (hle:bI w w₂)=>jx ht (w:=w₂) (b:=b') (o:=off) (v:=u) (hle _ _ _ (by rw [gr hb2]; simpa using hu))
  have hg:a.tmps.getD t' undef = .pointer (some ⟨b',off,none⟩):=by simp [Array.getD_eq_getD_getElem?,hv,hv']
  refine ⟨u,fun w₂ hle=>?_,hpu⟩
  simp only [jk,hg]
  simp [asAddr,hrun w₂ hle]
theorem pJ {fn:Func} {zs:List BV} (hr:aQ (pC P s) fn.results.toList zs) {a:Act} {w:World} {h:PH} {ρ:RM} (hw:WR E n s.own h ρ w) (hs:bp h ρ s.slots a.tmps) :
  ∃ v,(∀ w₂,bI w w₂ → (results fn a.tmps).run P w₂ = .ok v w₂) ∧ (vq zs).rel h ρ v:=by
 have key:∀ (rs:List ResultVar) (zs:List BV),aQ (pC P s) rs zs → ∃ vs,(∀ w₂,bI w w₂ → (rs.mapM (jk a.tmps)).run P w₂ = .ok vs w₂) ∧ aQ (fun (x:BV) u=>x.rel h ρ u) zs vs:=by
  intro rs zs hh
  induction hh with
  | nil=>exact ⟨[],fun _ _=>by simp,.nil⟩
  | cons h' _ ih=>
   obtain ⟨v,hv,hrel⟩:=h'.run hw hs
   obtain ⟨vs,hvs,hall⟩:=ih
   refine ⟨v :: vs,fun w₂ hle=>?_,.cons hrel hall⟩
   rw [List.mapM_cons,Sem.run_bind,hv w₂ hle,Result.andThen,Sem.run_bind,hvs w₂ hle]
   rfl
 obtain ⟨vs,hvs,hall⟩:=key _ _ hr
 have hm:∀ w₂,bI w w₂ → (fn.results.mapM (jk a.tmps)).run P w₂ = .ok vs.toArray w₂:=fun w₂ hle=>by
  rw [Array.mapM_eq_mapM_toList]
  simp [hvs w₂ hle]
 cases hall with
 | nil=>exact ⟨.tuple #[],fun w₂ hle=>by rw [mA,Sem.run_bind,hm w₂ hle,Result.andThen]; simp,_,rfl,.nil⟩
 | @cons z v zs' vs' h1 h2=>
  cases h2 with
  | nil=>exact ⟨v,fun w₂ hle=>by rw [mA,Sem.run_bind,hm w₂ hle,Result.andThen]; simp,h1⟩
  | @cons z2 v2 zs2 vs2 h3 h4=>
   exact ⟨.tuple (v :: v2 :: vs2).toArray,fun w₂ hle=>by rw [mA,Sem.run_bind,hm w₂ hle,Result.andThen]; simp,_,rfl,by simpa using .cons h1 (.cons h3 h4)⟩
theorem Fin.result {fn:Func} {post:dQ} {e:Exit} {rs:List ResultVar} (zs:List BV) (he:e = .ret ∨ e = .normal) (hrs:fn.results.toList = rs) (hr:aQ (pC P s) rs zs) (hp:post s.own (vq zs)):Fin E n e s (yP P fn E n post):=by
 intro a w ⟨h1,h2,h,ρ,hw,hs⟩
 obtain ⟨v,hv,hrel⟩:=pJ (fn:=fn) (hrs ▸ hr) hw hs
 have:a.defers = n.dfs ∧ ∃ v,(∀ w₂,bI w w₂ → (results fn a.tmps).run P w₂ = .ok v w₂) ∧ iD E n post (.returned v) w:=⟨h1,v,hv,v,s.own,_,h,ρ,rfl,hp,hw,hrel⟩
 rcases he with rfl | rfl <;> exact this
def evB (s:St) (x:Operand):Option BV :=
 match s.ev x with
 | some (.b z)=>some z
 | _=>none
def gI (s:St):List Operand → Option (List BV)
 | []=>some []
 | x :: l=>(evB s x).bind fun z=>(gI s l).map fun r=>z :: r
theorem mE {h:PH} {ρ:RM} {a:Act} (hs:bp h ρ s.slots a.tmps):∀ {l:List Operand} {zs:List BV},gI s l = some zs → aQ (fun (x:BV) v=>x.rel h ρ v) zs (l.map a.eval)
 | [],zs,e=>by simp [gI] at e; subst e; exact .nil
 | x :: l,zs,e=>by
  unfold gI at e
  simp only [Option.bind_eq_some_iff,Option.map_eq_some_iff] at e
  obtain ⟨z,hz,r,hr,rfl⟩:=e
  refine .cons ?_ (mE hs hr)
  unfold evB at hz
  split at hz
  ·rename_i z' hz'
   simp at hz; subst hz
   exact aC hs hz'
  ·simp at hz
def evBB (s:St) (x:Operand):Option BV :=
 match s.ev x with
 | some (.b (.row k))=>match lk s.own k with
  | some (.row _ size es)=>some (.one (.sl size es))
  | _=>none
 | some (.b z)=>some z
 | _=>none
def tw (s:St):List Operand → Option (List BV)
 | []=>some []
 | x :: l=>(evBB s x).bind fun z=>(tw s l).map fun r=>z :: r
def full (w:World):PH:=fun b o=>look w b o
theorem G0 {h:PH} {w:World} (ha:oI h w):h.le (full w):=fun b o v hv=>ha b o v hv
theorem cx.full {TB:aF} {h:PH} {w:World} (ht:cx TB h w) (ha:oI h w):cx TB (full w) w:=fun g cs hm=>⟨(ht g cs hm).1,fun o v hv=>ha _ _ _ ((ht g cs hm).2.1 o v hv),(ht g cs hm).2.2⟩
theorem J1 {h:PH} {ρ:RM} {own:List (Nat × OC)} {w:World} (hw:WR E n own h ρ w) {k:Nat} {T:TypeId} {size:Nat} {es:List (List CP)} (hk:lk own k = some (.row T size es)):(CP.sl size es).rel (full w) (ρ k):=by
 obtain ⟨hu,hz,hf⟩:=mP hw hk
 refine ⟨hu,hz,?_⟩
 rcases hf with hf | ⟨b,cap,cur,h1,h2,h3,h4,h5,h6⟩
 ·exact .inl hf
 ·refine .inr (.inl ⟨b,0,cap,h1,h3,h4,fun j c hc=>?_⟩)
  obtain ⟨u,hu,hr⟩:=h6.get j c hc
  refine ⟨u,?_,c.mono (G0 hw.agree) hr⟩
  rw [List.getElem?_take] at hu
  unfold full
  rw [Nat.zero_add]
  refine rj h2 ?_ (c.one hr)
  split at hu
  ·simpa using hu
  ·simp at hu
theorem yk {h:PH} {ρ:RM} {a:Act} {w:World} (hw:WR E n s.own h ρ w) (hs:bp h ρ s.slots a.tmps):∀ {l:List Operand} {zs:List BV},tw s l = some zs → aQ (fun (x:BV) v=>x.rel (full w) ρ v) zs (l.map a.eval)
 | [],zs,e=>by simp [tw] at e; subst e; exact .nil
 | x :: l,zs,e=>by
  unfold tw at e
  simp only [Option.bind_eq_some_iff,Option.map_eq_some_iff] at e
  obtain ⟨z,hz,r,hr,rfl⟩:=e
  refine .cons ?_ (yk hw hs hr)
  unfold evBB at hz
  split at hz
  ·rename_i k hk
   split at hz
   ·rename_i T size es hko
    simp at hz; subst hz
    have hv:a.eval x = ρ k:=(aC hs hk:BV.rel h ρ (.row k) _)
    rw [hv]; exact J1 hw hko
   ·simp at hz
  ·rename_i z' _ hz'
   simp at hz; subst hz
   exact BV.mono (G0 hw.agree) (fun _ _=>rfl) (aC hs hz')
  ·simp at hz
def CP.flat (p:CP):Prop:=∀ h h' v,p.rel h v → p.rel h' v
def BV.flat:BV → Prop
 | .one p=>p.flat
 | .agg ps=>∀ p ∈ ps,p.flat
 | _=>False
def SV.flat:SV → Prop
 | .b z=>z.flat
 | .kU l=>∀ z ∈ l,z.flat
 | .opt _ z=>z.flat
 | .jX _=>False
theorem CP.BO {b:Bool}:(CP.bool b).flat:=fun _ _ _ h=>h
theorem CP.Kx {z:Str}:(CP.str z).flat:=fun _ _ _ h=>h
theorem BV.sK {z:BV} (hz:z.flat) {h h':PH} {ρ ρ':RM} {v:Value} (hv:z.rel h ρ v):z.rel h' ρ' v:=by
 cases z with
 | one p=>exact hz _ _ _ hv
 | agg ps=>
  obtain ⟨cs,e,ha⟩:=hv
  refine ⟨cs,e,?_⟩
  have hz':∀ p ∈ ps,p.flat:=hz
  clear e hz
  generalize cs.toList = l at ha
  induction ha with
  | nil=>exact .nil
  | cons h1 _ ih=>exact .cons (hz' _ (by simp) _ _ _ h1) (ih fun p hp=>hz' p (by simp [hp]))
 | _=>exact hz.elim
theorem SV.sK {z:SV} (hz:z.flat) {h h':PH} {ρ ρ':RM} {v:Value} (hv:z.rel h ρ v):z.rel h' ρ' v:=by
 cases z with
 | b z=>exact BV.sK hz hv
 | opt c z=>exact ⟨fun hc=>BV.sK hz (hv.1 hc),hv.2⟩
 | jX l=>exact hz.elim
 | kU l=>
  obtain ⟨vs,e,ha⟩:=hv
  refine ⟨vs,e,?_⟩
  have hz':∀ p ∈ l,p.flat:=hz
  clear e hz
  generalize vs.toList = q at ha
  induction ha with
  | nil=>exact .nil
  | cons h1 _ ih=>exact .cons (BV.sK (hz' _ (by simp)) h1) (ih fun p hp=>hz' p (by simp [hp]))
structure dw (P:Program) (f:FuncId):Prop where
 run:∀ (args:Array Value) (w:World),(callFunc f args).run P w = .ok (.enter f args) w
theorem qB {f:FuncId} {xs:Array Operand} {ats:Array TypeId} (hf:dw P f) (a:Act) (w:World):(execOp a.eval ⟨dst,.call ⟨.value (.func f),xs,ats⟩,ty,pos,after,g⟩).run P w = .ok (.enter f (xs.toList.map a.eval).toArray) w:=by
 rw [show execOp a.eval ⟨dst,.call ⟨.value (.func f),xs,ats⟩,ty,pos,after,g⟩ = callFunc f (#[] ++ xs.map a.eval ++ #[]) from rfl,hf.run]
 congr 2
 apply Array.ext'
 simp
theorem rB {f:FuncId} {xs:Array Operand} {ats:Array TypeId} (hf:dw P f) (a:Act) (w:World) (hx:a.eval x = .func (.func f) #[] #[]):(execOp a.eval ⟨dst,.call ⟨.value x,xs,ats⟩,ty,pos,after,g⟩).run P w = .ok (.enter f (xs.toList.map a.eval).toArray) w:=by
 have:execOp a.eval ⟨dst,.call ⟨.value x,xs,ats⟩,ty,pos,after,g⟩ = (do let d ← Deferred.ofValue (a.eval x) (xs.map a.eval); invoke d.target d.args):=rfl
 rw [this,hx]
 have h2:(do let d ← Deferred.ofValue (.func (.func f) #[] #[]) (xs.map a.eval); invoke d.target d.args:Sem Next) = callFunc f (#[] ++ xs.map a.eval ++ #[]):=rfl
 rw [h2,hf.run]
 congr 2
 apply Array.ext'
 simp
def bL:List (Nat × OC) → List (Nat × OC) → List (Nat × OC)
 | [],own=>own
 | p :: l,own=>bL l (ins p.1 p.2 own)
theorem mC:∀ {l own:List (Nat × OC)} {j:Nat} {x:OC},(j,x) ∈ bL l own → (j,x) ∈ l ∨ ((j,x) ∈ own ∧ j ∉ ai l)
 | [],own,j,x,h=>.inr ⟨h,by simp [ai]⟩
 | p :: l,own,j,x,h=>by
  rcases mC (l:=l) h with h | ⟨h,hn⟩
  ·exact .inl (List.mem_cons_of_mem _ h)
  ·rcases iu h with ⟨rfl,rfl⟩ | ⟨h1,h2⟩
   ·exact .inl List.mem_cons_self
   ·exact .inr ⟨h2,by simp only [ai,List.map_cons,List.mem_cons,not_or]; exact ⟨h1,hn⟩⟩
def dv:List (Nat × OC) → List (Nat × OC) → List (Nat × OC)
 | [],own=>own
 | p :: l,own=>dv l (del p.1 own)
theorem oS:∀ {l own:List (Nat × OC)} {p:Nat × OC},p ∈ dv l own → p ∈ own ∧ p.1 ∉ ai l
 | [],own,p,h=>⟨h,by simp [ai]⟩
 | q :: l,own,p,h=>by
  obtain ⟨h1,h2⟩:=oS (l:=l) h
  obtain ⟨h3,h4⟩:=b9 h1
  exact ⟨h3,by simp only [ai,List.map_cons,List.mem_cons,not_or]; exact ⟨h4,h2⟩⟩
def k9 (k:Nat):List (Nat × OC) → Bool
 | []=>false
 | (j,_) :: l=>k == j || k9 k l
theorem dy {k:Nat}:∀ {l:List (Nat × OC)},k9 k l = true ↔ k ∈ ai l
 | []=>by simp [k9,ai]
 | (j,c) :: l=>by
  have:=dy (k:=k) (l:=l)
  simp only [k9,ai,List.map_cons,List.mem_cons,Bool.or_eq_true,this]
  simp
def Cf (k:Nat) (own:List (Nat × OC)):Bool:=(aq own).contains k
theorem rm {k:Nat} {l:List (Nat × OC)}:Cf k l = true ↔ k ∈ aq l:=by simp [Cf]
def jm (own_a:List (Nat × OC)):List (Nat × OC) → List (Nat × SV) → List (Nat × SV)
 | [],sl=>sl
 | p :: l,sl=>jm own_a l (if Cf p.1 own_a then sl else cn p.1 sl)
theorem mS {own_a:List (Nat × OC)}:∀ {l:List (Nat × OC)} {sl:List (Nat × SV)} {q:Nat × SV},q ∈ jm own_a l sl → q ∈ sl ∧ ∀ k,k ∈ ai l → k ∉ aq own_a → q.2.bd k = false
 | [],sl,q,h=>⟨h,fun k hk=>by simp [ai] at hk⟩
 | p :: l,sl,q,h=>by
  obtain ⟨h1,h2⟩:=mS (l:=l) h
  split at h1
  ·rename_i hk
   refine ⟨h1,fun k hk' hn=>?_⟩
   simp only [ai,List.map_cons,List.mem_cons] at hk'
   rcases hk' with rfl | hk'
   ·exact absurd (rm.1 hk) hn
   ·exact h2 k hk' hn
  ·obtain ⟨h3,h4⟩:=fF h1
   refine ⟨h3,fun k hk' hn=>?_⟩
   simp only [ai,List.map_cons,List.mem_cons] at hk'
   rcases hk' with rfl | hk'
   ·exact h4
   ·exact h2 k hk' hn
def gD (n:Sh) (own_a:List (Nat × OC)):List (Nat × OC) → Bool
 | []=>true
 | p :: l=>(Cf p.1 own_a || !n.fix.contains p.1) && gD n own_a l
theorem Ao {own_a:List (Nat × OC)}:∀ {l:List (Nat × OC)},gD n own_a l = true → ∀ k,k ∈ ai l → k ∈ aq own_a ∨ k ∉ n.fix
 | [],_,k,hk=>by simp [ai] at hk
 | p :: l,h,k,hk=>by
  simp only [gD,Bool.and_eq_true,Bool.or_eq_true,rm] at h
  simp only [ai,List.map_cons,List.mem_cons] at hk
  rcases hk with rfl | hk
  ·exact h.1.imp id (fun e=>by simpa using e)
  ·exact Ao h.2 k hk
def comb (own':List (Nat × OC)) (ρ' ρ:RM):RM:=fun k=>if k9 k own' then ρ' k else ρ k
theorem jn {own':List (Nat × OC)} {ρ' ρ:RM} {k:Nat} (h:k ∈ ai own'):comb own' ρ' ρ k = ρ' k:=by simp [comb,dy.2 h]
theorem j4 {own':List (Nat × OC)} {ρ' ρ:RM} {k:Nat} (h:k ∉ ai own'):comb own' ρ' ρ k = ρ k:=by
 have:k9 k own' = false:=by
  cases e:k9 k own' with
  | false=>rfl
  | true=>exact absurd (dy.1 e) h
 simp [comb,this]
def CV.bm (own:List (Nat × OC)):CV → Bool
 | .ptr k _ | .row k=>k9 k own
 | _=>true
theorem CV.cw {own:List (Nat × OC)} {z:CV} (h:z.bm own = true) {k:Nat} (hk:z.bd k = true):k ∈ ai own:=by
  cases z with
  | ptr j _=>have e:j = k:=by simpa [CV.bd] using hk
             subst e; exact dy.1 h
  | row j=>have e:j = k:=by simpa [CV.bd] using hk
           subst e; exact dy.1 h
  | _=>simp [CV.bd] at hk
def BV.bm (own:List (Nat × OC)):BV → Bool
 | .ptr k _ | .row k | .gh k _ | .part k _ _ _ _ | .C' k _ _ _=>k9 k own
 | .cD _ fs cs=>fs.all (·.bm own) && cs.all (·.bm own)
 | .xa cs=>cs.all (·.bm own)
 | _=>true
theorem BV.cw {own:List (Nat × OC)} {z:BV} (h:z.bm own = true) {k:Nat} (hk:z.bd k = true):k ∈ ai own:=by
  cases z with
  | ptr j _=>have e:j = k:=by simpa [BV.bd] using hk
             subst e; exact dy.1 h
  | row j=>have e:j = k:=by simpa [BV.bd] using hk
           subst e; exact dy.1 h
  | gh j _=>have e:j = k:=by simpa [BV.bd] using hk
            subst e; exact dy.1 h
  | part j _ _ _ _=>have e:j = k:=by simpa [BV.bd] using hk
                    subst e; exact dy.1 h
  | C' j _ _ _=>have e:j = k:=by simpa [BV.bd] using hk
                subst e; exact dy.1 h
  | xa cs=>
    simp only [BV.bm,List.all_eq_true] at h
    simp only [BV.bd,List.any_eq_true] at hk
    obtain ⟨z,hz,hk⟩:=hk
    exact CV.cw (h z hz) hk
  | cD f fs cs=>
    simp only [BV.bm,Bool.and_eq_true,List.all_eq_true] at h
    simp only [BV.bd,Bool.or_eq_true,List.any_eq_true] at hk
    rcases hk with ⟨z,hz,hk⟩ | ⟨z,hz,hk⟩
    · exact CV.cw (h.1 z hz) hk
    · exact CV.cw (h.2 z hz) hk
  | _=>simp [BV.bd] at hk
def OC.bm (own:List (Nat × OC)):OC → Bool
 | .ba _ cs=>cs.all (·.bm own)
 | .mp es=>es.all (·.2.bm own)
 | .AR j _ _ _=>k9 j own
 | _=>true
theorem OC.cw {own:List (Nat × OC)} {c:OC} (h:c.bm own = true) {k:Nat} (hk:c.bd k = true):k ∈ ai own:=by
  cases c with
  | ba T cs=>
    simp only [OC.bd,List.any_eq_true] at hk
    obtain ⟨z,hz,hk⟩:=hk
    simp only [OC.bm,List.all_eq_true] at h
    exact BV.cw (h z hz) hk
  | mp es=>
    simp only [OC.bd,List.any_eq_true] at hk
    obtain ⟨z,hz,hk⟩:=hk
    simp only [OC.bm,List.all_eq_true] at h
    exact BV.cw (h z hz) hk
  | AR j m rest cur=>have e:j = k:=by simpa [OC.bd] using hk
                     subst e; exact dy.1 h
  | _=>simp [OC.bd] at hk
def hJ (own own_a own':List (Nat × OC)):Bool:=(own'.all fun p=>p.2.bm own') && ((dv own_a own).all fun p=>(ai own').all fun k=>(aq own_a).contains k || !p.2.bd k)
theorem WR.call {h h':PH} {ρ ρ':RM} {own own_a own':List (Nat × OC)} {w w':World} {tb:cx TB h w} (hw:WR E n own h ρ w) (ha:∀ k c,(k,c) ∈ own_a → (k,c) ∈ own) (hc:WR ⟨w,h,ρ,tb⟩ ⟨0,aq own_a,ai own_a,[]⟩ own' h' ρ' w')
  (hk:gD n own_a own' = true) (hcl:hJ own own_a own' = true):WR E n (bL own' (dv own_a own)) h' (comb own' ρ' ρ) w':=by
 have hkn:=Ao hk
 simp only [hJ,Bool.and_eq_true,List.all_eq_true,Bool.or_eq_true,Bool.not_eq_true'] at hcl
 have hren':∀ k c,(k,c) ∈ own' → ∀ j,c.bd j = true → comb own' ρ' ρ j = ρ' j:=fun k c hkc j hj=>jn (OC.cw (hcl.1 _ hkc) hj)
 have hrenr:∀ k c,(k,c) ∈ dv own_a own → ∀ j,c.bd j = true → comb own' ρ' ρ j = ρ j:=fun k c hkc j hj=>by
  by_cases hin:j ∈ ai own'
  ·rw [jn hin]
   rcases hcl.2 _ hkc j hin with h1 | h1
   ·exact hc.fixed j (by simpa using h1)
   ·rw [h1] at hj; simp at hj
  ·exact j4 hin
 have hlent:∀ b,qR ⟨w,h,ρ,tb⟩ ⟨0,aq own_a,ai own_a,[]⟩ b → ∃ k c,(k,c) ∈ own_a ∧ aZ (ρ k) = some b:=fun b ⟨k,hk,hb⟩=>by
  obtain ⟨⟨k',c⟩,hm,rfl⟩:=List.mem_map.1 hk
  exact ⟨k',c,hm,hb⟩
 have hrest:∀ j x,(j,x) ∈ dv own_a own → ∀ b,x.du (ρ j) w b → b < w.heap.size ∧ ¬ qR ⟨w,h,ρ,tb⟩ ⟨0,aq own_a,ai own_a,[]⟩ b:=fun j x hj b hb=>by
  obtain ⟨h1,h2⟩:=oS hj
  have ho:=hw.owned j x h1
  refine ⟨ho.1.lt hb,fun hl=>?_⟩
  obtain ⟨k,c,hkc,hkb⟩:=hlent b hl
  exact ho.2.2 k c (ha k c hkc) (fun e=>h2 (by subst e; exact List.mem_map.2 ⟨_,hkc,rfl⟩)) b hb (.inl hkb)
 have hsame:∀ j x,(j,x) ∈ dv own_a own → ∀ b,x.du (ρ j) w b → w'.heap[b]? = w.heap[b]?:=fun j x hj b hb=>hc.same b (hrest j x hj b hb).1 (hrest j x hj b hb).2
 refine ⟨hc.agree,PH.le_trans hw.le hc.le,?_,Nat.le_trans hw.size hc.size,?_,?_,hc.os.trans hw.os,hc.out.trans hw.out,hw.nl,?_⟩
 ·intro b hb hl
  rw [hc.fresh b (Nat.lt_of_lt_of_le hb hw.size) fun hl'=>?_]
  ·exact hw.fresh b hb hl
  ·obtain ⟨k,c,hkc,hkb⟩:=hlent b hl'
   rcases ((hw.owned k c (ha k c hkc)).2.1 b (.inl hkb)).1 with h1 | h1
   ·omega
   ·exact hl h1
 ·intro b hb hl
  rw [hc.same b (Nat.lt_of_lt_of_le hb hw.size) fun hl'=>?_]
  ·exact hw.same b hb hl
  ·obtain ⟨k,c,hkc,hkb⟩:=hlent b hl'
   rcases ((hw.owned k c (ha k c hkc)).2.1 b (.inl hkb)).1 with h1 | h1
   ·omega
   ·exact hl h1
 ·intro k hkf
  by_cases hin:k ∈ ai own'
  ·rw [jn hin]
   rcases hkn k hin with h1 | h1
   ·rw [hc.fixed k h1]; exact hw.fixed k hkf
   ·exact absurd hkf h1
  ·rw [j4 hin]; exact hw.fixed k hkf
 ·intro k c hkc
  rcases mC hkc with hin | ⟨hin,hnin⟩
  ·have hkin:k ∈ ai own':=List.mem_map.2 ⟨_,hin,rfl⟩
   rw [jn hkin]
   obtain ⟨e1,e2,e3⟩:=hc.owned k c hin
   have hcase:∀ b,c.du (ρ' k) w' b → w.heap.size ≤ b ∨ ∃ k2 c2,(k2,c2) ∈ own_a ∧ aZ (ρ k2) = some b:=fun b hb=>by
    rcases (e2 b hb).1 with h1 | h1
    ·exact .inl h1
    ·obtain ⟨k2,c2,h3,h4⟩:=hlent b h1
     exact .inr ⟨k2,c2,h3,h4⟩
   refine ⟨e1.Ij (hren' k c hin),fun b hb=>⟨?_,(e2 b hb).2⟩,?_⟩
   ·rcases hcase b hb with h1 | ⟨k2,c2,h3,h4⟩
    ·exact .inl (Nat.le_trans hw.size h1)
    ·rcases ((hw.owned k2 c2 (ha k2 c2 h3)).2.1 b (.inl h4)).1 with h6 | h6
     ·exact .inl h6
     ·exact .inr h6
   ·intro j x hj hjk b hb
    rcases mC hj with hjin | ⟨hjin,hjn⟩
    ·rw [jn (List.mem_map.2 ⟨_,hjin,rfl⟩)]
     exact e3 j x hjin hjk b hb
    ·rw [j4 hjn]
     intro hb'
     have hr:=hrest j x hjin b (OC.du.congr (fun b hb=>hsame j x hjin b (.inl hb)) hb')
     rcases (e2 b hb).1 with h1 | h1
     ·exact absurd hr.1 (Nat.not_lt.2 h1)
     ·exact hr.2 h1
  ·rw [j4 hnin]
   obtain ⟨e1,e2,e3⟩:=hw.owned k c (oS hin).1
   have hft:∀ b,c.du (ρ k) w' b → c.du (ρ k) w b:=fun b=>OC.du.congr fun b hb=>hsame k c hin b (.inl hb)
   refine ⟨((e1.congr (hsame k c hin)).mono hc.le).Ij (hrenr k c hin),fun b hb=>⟨(e2 b (hft b hb)).1,fun o=>?_⟩,?_⟩
   ·rw [hc.fresh b (hrest k c hin b (hft b hb)).1 (hrest k c hin b (hft b hb)).2]; exact (e2 b (hft b hb)).2 o
   ·intro j x hj hjk b hb
    rcases mC hj with hjin | ⟨hjin,hjn⟩
    ·rw [jn (List.mem_map.2 ⟨_,hjin,rfl⟩)]
     intro hb'
     have hr:=hrest k c hin b (hft b hb)
     rcases ((hc.owned j x hjin).2.1 b hb').1 with h1 | h1
     ·exact absurd hr.1 (Nat.not_lt.2 h1)
     ·exact hr.2 h1
    ·rw [j4 hjn]
     exact fun hb'=>e3 j x (oS hjin).1 hjk b (hft b hb) (OC.du.congr (fun b hb=>hsame j x hjin b (.inl hb)) hb')
theorem tu {h:PH} {ρ:RM} {own own_a:List (Nat × OC)} {w:World} (hw:WR E n own h ρ w) (ha:∀ k c,(k,c) ∈ own_a → (k,c) ∈ own) (hp:∀ k c,(k,c) ∈ own_a → c.plain = true):B9 own_a h ρ w:=fun k c hk=>by
 obtain ⟨e1,e2,e3⟩:=hw.owned k c (ha k c hk)
 exact ⟨e1,fun b hb=>⟨hb.zQ (hp k c hk),(e2 b hb).2⟩,fun k' c' hk'=>e3 k' c' (ha k' c' hk')⟩
def SV.bm (own:List (Nat × OC)):SV → Bool
 | .b z=>z.bm own
 | .kU l=>l.all (·.bm own)
 | .jX l=>l.all (·.bm own)
 | .opt _ z=>z.bm own
theorem SV.cw {own:List (Nat × OC)} {z:SV} (h:z.bm own = true) {k:Nat} (hk:z.bd k = true):k ∈ ai own:=by
 cases z with
 | b z=>exact BV.cw h hk
 | opt c z=>exact BV.cw h hk
 | kU l=>
  simp only [SV.bd,List.any_eq_true] at hk
  obtain ⟨z,hz,hk⟩:=hk
  simp only [SV.bm,List.all_eq_true] at h
  exact BV.cw (h z hz) hk
 | jX l=>
  simp only [SV.bd,List.any_eq_true] at hk
  obtain ⟨z,hz,hk⟩:=hk
  simp only [SV.bm,List.all_eq_true] at h
  exact BV.cw (h z hz) hk
def St.aft (n:Sh) (s:St) (own_a own':List (Nat × OC)) (dst:Option Nat) (res:SV):St:=(⟨jm own_a own' s.slots,bL own' (dv own_a s.own)⟩:St).put n dst res
def OC.lend (c:OC):Option OC:=match c.plain with
 | true=>some c
 | false=>none
def lkP (own:List (Nat × OC)) (k:Nat):Option OC:=(lk own k).bind OC.lend
theorem D1 {own:List (Nat × OC)} {k:Nat} {c:OC} (h:lkP own k = some c):lk own k = some c ∧ c.plain = true:=by
 unfold lkP at h
 cases e:lk own k with
 | none=>simp [e] at h
 | some x=>
  simp only [e,Option.bind_some,OC.lend] at h
  split at h
  ·next hp=>cases h; exact ⟨rfl,hp⟩
  ·cases h
def fE (own:List (Nat × OC)):List (Nat × OC) → Prop
 | []=>True
 | p :: l=>lkP own p.1 = some p.2 ∧ fE own l
theorem kN {own:List (Nat × OC)}:∀ {l:List (Nat × OC)},fE own l → ∀ k c,(k,c) ∈ l → (k,c) ∈ own
 | [],_,k,c,h=>by simp at h
 | p :: l,hl,k,c,h=>by
  cases List.mem_cons.1 h with
  | inl e=>subst e; exact bh (D1 hl.1).1
  | inr e=>exact kN hl.2 k c e
theorem jA {own:List (Nat × OC)}:∀ {l:List (Nat × OC)},fE own l → ∀ k c,(k,c) ∈ l → c.plain = true
 | [],_,k,c,h=>by simp at h
 | p :: l,hl,k,c,h=>by
  cases List.mem_cons.1 h with
  | inl e=>subst e; exact (D1 hl.1).2
  | inr e=>exact jA hl.2 k c e
theorem tK {o:Oper} {f:FuncId} {own_a:List (Nat × OC)} {args:List BV} {xs:List Operand} {post:dQ} (hspec:aG P TB f own_a args post) (hrun:∀ (a:Act) (w:World),R E n s a w → (execOp a.eval o).run P w = .ok (.enter f (xs.map a.eval).toArray) w)
  (ha:gI s xs = some args) (hl:fE s.own own_a) {a:Act} {w:World} (hr:R E n s a w) {next:Act → World → Prop} {Q:bF}
  (hnext:∀ own' res,post own' res → gD n own_a own' = true ∧ hJ s.own own_a own' = true ∧ res.bm own' = true ∧ ∀ a' w',R E n (s.aft n own_a own' o.dst res) a' w' → next a' w'):o.wp P a w next Q:=by
 have hr0:=hrun a w hr
 obtain ⟨hdf,hn,h,ρ,hw,hs⟩:=hr
 unfold Oper.wp
 rw [hr0]
 show Calls P f _ w _
 have hla:=kN hl
 refine (hspec w h ρ _ hw.aw hw.agree (tu hw hla (jA hl)) (mE hs ha)).mono ?_
 rintro e w' ⟨v,own',res,h',ρ',rfl,hp,hc,hres⟩
 obtain ⟨hok,hcl,hki,hnx⟩:=hnext own' res hp
 have hwc:=hw.call hla hc hok hcl
 refine hnx _ _ (R.put (s:=⟨jm own_a own' s.slots,bL own' (dv own_a s.own)⟩) hdf hn hwc ?_ ?_)
 ·intro k x hx
  obtain ⟨h1,h2⟩:=mS hx
  obtain ⟨u,hu,hrel⟩:=hs k x h1
  refine ⟨u,hu,SV.mono hc.le (fun j hj=>?_) hrel⟩
  by_cases hin:j ∈ ai own'
  ·rw [jn hin]
   by_cases hia:j ∈ aq own_a
   ·exact hc.fixed j hia
   ·have:=h2 j hin hia; simp [this] at hj
  ·exact j4 hin
 ·exact SV.mono (PH.le_refl _) (fun j hj=>jn (SV.cw hki hj)) hres
theorem aj.call {f:FuncId} {own_a:List (Nat × OC)} {args:List BV} {xs:Array Operand} {ats:Array TypeId} {post:dQ} (hspec:aG P TB f own_a args post) (hf:dw P f) (ha:gI s xs.toList = some args) (hl:fE s.own own_a)
  (h2:∀ own' res,post own' res → gD n own_a own' = true ∧ hJ s.own own_a own' = true ∧ res.bm own' = true ∧ aj P E n ops l (s.aft n own_a own' dst res) Q):aj P E n ops (⟨dst,.call ⟨.value (.func f),xs,ats⟩,ty,pos,after,none⟩ :: l) s Q:=by
 intro a w hr
 unfold yx
 have:∀ tmps,Region.wanted ⟨dst,.call ⟨.value (.func f),xs,ats⟩,ty,pos,after,none⟩ (yielded ops tmps) = true:=fun _=>rfl
 simp only [this,if_true]
 exact tK hspec (fun a w _=>qB hf a w) ha hl hr fun own' res hp=>⟨(h2 own' res hp).1,(h2 own' res hp).2.1,(h2 own' res hp).2.2.1,fun a' w' hr'=>(h2 own' res hp).2.2.2 a' w' hr'⟩
theorem dx {f:FuncId} {own_a own':List (Nat × OC)} {args:List BV} {xs:Array Operand} {ats:Array TypeId} {res:SV} (hspec:aG P TB f own_a args (Is own' res)) (hf:dw P f) (ha:gI s xs.toList = some args) (hl:fE s.own own_a)
  (hok:gD n own_a own' = true) (hki:res.bm own' = true) (hcl:hJ s.own own_a own' = true:=by rfl):aR P E n ⟨dst,.call ⟨.value (.func f),xs,ats⟩,ty,pos,after,g⟩ s (s.aft n own_a own' dst res) :=
 fun _ _ hr _ _ hnext=>tK hspec (fun a w _=>qB hf a w) ha hl hr fun _ _ hp=>by
  obtain ⟨rfl,rfl⟩:=hp
  exact ⟨hok,hcl,hki,hnext⟩
theorem J7 {f:FuncId} {own_a own':List (Nat × OC)} {args:List BV} {xs:Array Operand} {ats:Array TypeId} {res:SV} (hspec:aG P TB f own_a args (Is own' res)) (hf:dw P f) (hx:s.ev x = some (.b (.one (.raw (.func (.func f) #[] #[]))))) (ha:gI s xs.toList = some args) (hl:fE s.own own_a)
  (hok:gD n own_a own' = true) (hki:res.bm own' = true) (hcl:hJ s.own own_a own' = true:=by rfl):aR P E n ⟨dst,.call ⟨.value x,xs,ats⟩,ty,pos,after,g⟩ s (s.aft n own_a own' dst res) :=
 fun _ _ hr _ _ hnext=>tK hspec (fun a w hr=>rB hf a w (by obtain ⟨_,_,h,ρ,hw,hs⟩:=hr; exact (aC hs hx:(CP.raw _).rel h _).1)) ha hl hr fun _ _ hp=>by
  obtain ⟨rfl,rfl⟩:=hp
  exact ⟨hok,hcl,hki,hnext⟩
theorem aj.Gs {f:FuncId} {own_a:List (Nat × OC)} {args:List BV} {xs:Array Operand} {ats:Array TypeId} {post:dQ} (hspec:aG P TB f own_a args post) (hf:dw P f) (hx:s.ev x = some (.b (.one (.raw (.func (.func f) #[] #[]))))) (ha:gI s xs.toList = some args) (hl:fE s.own own_a)
  (h2:∀ own' res,post own' res → gD n own_a own' = true ∧ hJ s.own own_a own' = true ∧ res.bm own' = true ∧ aj P E n ops l (s.aft n own_a own' dst res) Q):aj P E n ops (⟨dst,.call ⟨.value x,xs,ats⟩,ty,pos,after,none⟩ :: l) s Q:=by
 intro a w hr
 unfold yx
 have:∀ tmps,Region.wanted ⟨dst,.call ⟨.value x,xs,ats⟩,ty,pos,after,none⟩ (yielded ops tmps) = true:=fun _=>rfl
 simp only [this,if_true]
 exact tK hspec (fun a w hr=>rB hf a w (by obtain ⟨_,_,h,ρ,hw,hs⟩:=hr; exact (aC hs hx:(CP.raw _).rel h _).1)) ha hl hr fun own' res hp=>⟨(h2 own' res hp).1,(h2 own' res hp).2.1,(h2 own' res hp).2.2.1,fun a' w' hr'=>(h2 own' res hp).2.2.2 a' w' hr'⟩
theorem F5 {o:Oper} {f:FuncId} {args:List BV} {xs:List Operand} {post:dQ} (hspec:aG P TB f [] args post) (hrun:∀ (a:Act) (w:World),R E n s a w → (execOp a.eval o).run P w = .ok (.enter f (xs.map a.eval).toArray) w)
  (ha:tw s xs = some args) {a:Act} {w:World} (hr:R E n s a w) {next:Act → World → Prop} {Q:bF}
  (hnext:∀ own' res,post own' res → res.flat ∧ ∀ a' w',R E n (s.put n o.dst res) a' w' → next a' w'):o.wp P a w next Q:=by
 have hr0:=hrun a w hr
 obtain ⟨hdf,hn,h,ρ,hw,hs⟩:=hr
 unfold Oper.wp
 rw [hr0]
 show Calls P f _ w _
 refine (hspec w (full w) ρ _ (hw.aw.full hw.agree) (fun _ _ _ hv=>hv) (fun k c hk=>by simp at hk) (yk hw hs ha)).mono ?_
 rintro e w' ⟨v,own',res,h',ρ',rfl,hp,hc,hres⟩
 obtain ⟨hfl,hnx⟩:=hnext own' res hp
 have hsame:∀ b,b < w.heap.size → w'.heap[b]? = w.heap[b]?:=fun b hb=>hc.same b hb fun ⟨k,hk,_⟩=>by simp [ai] at hk
 have hwc:WR E n s.own h ρ w':=by
  refine ⟨?_,hw.le,hw.fresh,Nat.le_trans hw.size hc.size,?_,hw.fixed,hc.os.trans hw.os,hc.out.trans hw.out,hw.nl,?_⟩
  ·intro b o v hv
   have hcell:=hw.agree b o v hv
   rw [mD (hsame b (gM hcell))]; exact hcell
  ·intro b hb hl
   rw [hsame b (Nat.lt_of_lt_of_le hb hw.size)]; exact hw.same b hb hl
  ·intro k c hk
   obtain ⟨e1,e2,e3⟩:=hw.owned k c hk
   have hf:∀ j x,(j,x) ∈ s.own → ∀ b,x.du (ρ j) w' b → x.du (ρ j) w b:=fun j x hj b=>OC.du.congr fun b hb=>hsame b ((hw.owned j x hj).1.lt (.inl hb))
   exact ⟨e1.congr fun b hb=>hsame b (e1.lt hb),fun b hb=>e2 b (hf k c hk b hb),fun j x hj hjk b hb hb'=>e3 j x hj hjk b (hf k c hk b hb) (hf j x hj b hb')⟩
 exact hnx _ _ (R.put (s:=s) hdf hn hwc hs (SV.sK hfl hres))
theorem zO {f:FuncId} {own':List (Nat × OC)} {args:List BV} {xs:Array Operand} {ats:Array TypeId} {res:SV} (hspec:aG P TB f [] args (Is own' res)) (hf:dw P f) (ha:tw s xs.toList = some args) (hfl:res.flat) :
  aR P E n ⟨dst,.call ⟨.value (.func f),xs,ats⟩,ty,pos,after,g⟩ s (s.put n dst res) :=
 fun _ _ hr _ _ hnext=>F5 hspec (fun a w _=>qB hf a w) ha hr fun _ _ hp=>by
  obtain ⟨rfl,rfl⟩:=hp
  exact ⟨hfl,hnext⟩
end
end Go.Sk
namespace Go.Sk
set_option linter.unusedSimpArgs false
set_option linter.unusedVariables false
open Go Go.BigFrame
section
variable {P:Program} {TB:aF} {E:Env TB} {n:Sh} {s s':St} {ops:Array Oper} {l:List Oper} {Q:bF} {o:Oper}
def b6 (P:Program) {TB:aF} (E:Env TB) (n:Sh) (ops:Array Oper) (o:Oper) (s s':St):Prop :=
 ∀ a w,R E n s a w → ∀ (K:Act → World → Prop) (Q:bF),(∀ a' w',R E n s' a' w' → K a' w') → if Region.wanted o (yielded ops a.tmps) then o.wp P a w K Q else K (a.put o.dst undef) w
theorem b6.plain (hg:o.guard = none) (h:aR P E n o s s'):b6 P E n ops o s s':=by
 intro a w hr K Q hk
 have:Region.wanted o (yielded ops a.tmps) = true:=by simp [Region.wanted,hg]
 simp only [this,if_true]
 exact h a w hr K Q hk
theorem b6.guard {j t:Nat} {want gd:Bool} {z:BV} (gd':Bool) (m:Nat) (ks:List Nat) (hG:mK s t want gd) (hgd:gd = gd') (hg:o.guard = some (j,want)) (hj:(ops[j]?).bind (·.dst) = some t)
  (hc:gd' = true → eI m ks s.slots) (h1:gd' = true → aR P E n o (s.px m ks) ((s.px m ks).put n o.dst (.b z))):b6 P E n ops o s (s.put n o.dst (.opt gd' z)):=by
 subst hgd
 intro a w hr K Q hk
 have hwant:=hG.wanted hg hj hr
 cases hb:gd with
 | true=>
  rw [hb] at hwant
  simp only [hwant,if_true]
  exact h1 hb a w (hr.px (hc hb)) _ _ fun a' w' hr'=>hk a' w' (uL hb (hc hb) hr')
 | false=>
  rw [hb] at hwant
  simp only [hwant,Bool.false_eq_true,if_false]
  refine hk _ _ ?_
  rw [hb]
  obtain ⟨hdf,hn,h,ρ,hw,hsl⟩:=hr
  exact R.put (s:=s) hdf hn hw hsl ⟨fun e=>by simp at e,fun _=>rfl⟩
def aY (p:Nat → Bool):Nat → List Oper → List SV → List (Nat × SV)
 | i,o :: l,x :: Fs=>match o.dst with
  | some d=>if p i then (d,x) :: aY p (i + 1) l Fs else aY p (i + 1) l Fs
  | none=>aY p (i + 1) l Fs
 | _,_,_=>[]
theorem bR {p:Nat → Bool}:∀ {l:List Oper} {Fs:List SV} {i:Nat} {q:Nat × SV},q ∈ aY p i l Fs ↔ ∃ j o,l[j]? = some o ∧ o.dst = some q.1 ∧ Fs[j]? = some q.2 ∧ p (i + j) = true
 | [],Fs,i,q=>by simp [aY]
 | o :: l,[],i,q=>by simp [aY]
 | o :: l,x :: Fs,i,q=>by
  have ih:=bR (p:=p) (l:=l) (Fs:=Fs) (i:=i + 1) (q:=q)
  have step:(∃ j o',(o :: l)[j]? = some o' ∧ o'.dst = some q.1 ∧ (x :: Fs)[j]? = some q.2 ∧ p (i + j) = true) ↔ (o.dst = some q.1 ∧ x = q.2 ∧ p i = true) ∨ ∃ j o',l[j]? = some o' ∧ o'.dst = some q.1 ∧ Fs[j]? = some q.2 ∧ p (i + 1 + j) = true:=by
   constructor
   ·rintro ⟨j,o',h1,h2,h3,h4⟩
    cases j with
    | zero=>simp at h1 h3; subst h1; exact .inl ⟨h2,h3,h4⟩
    | succ j=>exact .inr ⟨j,o',by simpa using h1,h2,by simpa using h3,by rw [Nat.add_assoc,Nat.add_comm 1 j]; exact h4⟩
   ·rintro (⟨h1,h2,h3⟩ | ⟨j,o',h1,h2,h3,h4⟩)
    ·exact ⟨0,o,by simp,h1,by simp [h2],h3⟩
    ·exact ⟨j + 1,o',by simpa using h1,h2,by simpa using h3,by rw [Nat.add_assoc,Nat.add_comm 1 j] at h4; exact h4⟩
  have hcons:aY p i (o :: l) (x :: Fs) = (match o.dst with
   | some d=>if p i then (d,x) :: aY p (i + 1) l Fs else aY p (i + 1) l Fs
   | none=>aY p (i + 1) l Fs):=rfl
  rw [step,← ih,hcons]
  cases hd:o.dst with
  | none=>simp
  | some d=>
   dsimp only
   split
   ·rename_i hp
    rw [List.mem_cons]
    constructor
    ·rintro (rfl | h)
     ·exact .inl ⟨rfl,rfl,hp⟩
     ·exact .inr h
    ·rintro (⟨h1,h2,_⟩ | h)
     ·left; cases q; simp at h1 h2; simp [h1,h2]
     ·exact .inr h
   ·rename_i hp
    constructor
    ·exact .inr
    ·rintro (⟨_,_,h3⟩ | h)
     ·exact absurd h3 hp
     ·exact h
def eJ (l:List Oper) (Fs:List SV):List Edge → List (Nat × SV)
 | []=>[]
 | e :: es=>if Region.binds .any e then
   match l[e.on]?,Fs[e.on]? with
   | some o,some x=>(match o.dst with | some d=>(d,x) :: eJ l Fs es | none=>eJ l Fs es)
   | _,_=>eJ l Fs es
  else eJ l Fs es
theorem rq {l:List Oper} {Fs:List SV}:∀ {es:List Edge} {q:Nat × SV},q ∈ eJ l Fs es → ∃ e,e ∈ es ∧ Region.binds .any e = true ∧ ∃ o,l[e.on]? = some o ∧ o.dst = some q.1 ∧ Fs[e.on]? = some q.2
 | [],q,h=>by simp [eJ] at h
 | e :: es,q,h=>by
  have hrec:q ∈ eJ l Fs es → ∃ e',e' ∈ e :: es ∧ Region.binds .any e' = true ∧ ∃ o,l[e'.on]? = some o ∧ o.dst = some q.1 ∧ Fs[e'.on]? = some q.2:=fun h=>by
   obtain ⟨e',h1,h2⟩:=rq h
   exact ⟨e',List.mem_cons_of_mem _ h1,h2⟩
  unfold eJ at h
  split at h
  ·rename_i hb
   split at h
   ·rename_i o x ho hx
    split at h
    ·rename_i d hd
     cases List.mem_cons.1 h with
     | inl e'=>subst e'; exact ⟨e,List.mem_cons_self,hb,o,ho,hd,hx⟩
     | inr e'=>exact hrec e'
    ·exact hrec h
   ·exact hrec h
  ·exact hrec h
def iv:Nat → List Oper → Bool
 | _,[]=>true
 | i,o :: l=>o.after.toList.all (fun e=>!Region.binds .any e || e.on < i) && iv (i + 1) l
def jK:List Oper → List Nat
 | []=>[]
 | o :: l=>match o.dst with | some d=>d :: jK l | none=>jK l
def gp:List Nat → Bool
 | []=>true
 | a :: l=>!l.contains a && gp l
theorem rA:∀ {l:List Oper} {i:Nat},iv i l = true → ∀ (j:Nat) (o:Oper),l[j]? = some o → ∀ e ∈ o.after,Region.binds .any e = true → e.on < i + j
 | [],i,h,j,o',ho,e,he,hb=>by simp at ho
 | o :: l,i,h,j,o',ho,e,he,hb=>by
  simp only [iv,Bool.and_eq_true,List.all_eq_true] at h
  cases j with
  | zero=>
   simp at ho; subst ho
   have:=h.1 e (by simpa using he)
   simp [hb] at this
   omega
  | succ j=>have:=rA h.2 j o' (by simpa using ho) e he hb; omega
theorem mQ:∀ {l:List Oper} {j:Nat} {o:Oper} {d:Nat},l[j]? = some o → o.dst = some d → d ∈ jK l
 | [],j,o,d,h,hd=>by simp at h
 | o' :: l,0,o,d,h,hd=>by simp at h; subst h; simp [jK,hd]
 | o' :: l,j + 1,o,d,h,hd=>by
  have:=mQ (l:=l) (j:=j) (by simpa using h) hd
  unfold jK
  split
  ·exact List.mem_cons_of_mem _ this
  ·exact this
theorem vX:∀ {l:List Oper},gp (jK l) = true → ∀ {j j':Nat} {o o':Oper} {d:Nat},l[j]? = some o → l[j']? = some o' → o.dst = some d → o'.dst = some d → j = j'
 | [],hn,j,j',o,o',d,h,h',hd,hd'=>by simp at h
 | o0 :: l,hn,j,j',o,o',d,h,h',hd,hd'=>by
  have hn2:gp (jK l) = true:=by
   unfold jK at hn
   split at hn
   ·simp only [gp,Bool.and_eq_true] at hn; exact hn.2
   ·exact hn
  have hnot:∀ d,o0.dst = some d → d ∉ jK l:=fun d hd0=>by
   unfold jK at hn
   rw [hd0] at hn
   simp only [gp,Bool.and_eq_true,Bool.not_eq_true',List.contains_eq_mem,decide_eq_false_iff_not] at hn
   exact hn.1
  cases j with
  | zero=>
   cases j' with
   | zero=>rfl
   | succ j'=>
    simp at h; subst h
    exact absurd (mQ (by simpa using h') hd') (hnot d hd)
  | succ j=>
   cases j' with
   | zero=>
    simp at h'; subst h'
    exact absurd (mQ (by simpa using h) hd) (hnot d hd')
   | succ j'=>exact congrArg (· + 1) (vX hn2 (j:=j) (j':=j') (o:=o) (o':=o') (d:=d) (by simpa using h) (by simpa using h') hd hd')
theorem R.drawn {a:Act} {w:World} (hr:R E n s a w):R E n s a { w with drawn:=w.drawn + 1 }:=by
 obtain ⟨h1,h2,h,ρ,hw,hs⟩:=hr
 refine ⟨h1,h2,h,ρ,⟨hw.agree,hw.le,hw.fresh,hw.size,hw.same,hw.fixed,hw.os,hw.out,hw.nl,?_⟩,hs⟩
 intro k c hk
 obtain ⟨e1,e2,e3⟩:=hw.owned k c hk
 exact ⟨e1.congr fun _ _=>rfl,e2,e3⟩
end
end Go.Sk
namespace Go.Sk
set_option linter.unusedSimpArgs false
set_option linter.unusedVariables false
open Go Go.BigFrame
def eK (k:IntKind) (x:Int):List CP:=[.int k x]
def eB (x:Bool):List CP:=[.bool x]
def eS (x:Str):List CP:=[.str x]
def eL {α:Type} (size:Nat) (e:α → List CP) (xs:List α):List CP:=[.sl size (xs.map e)]
def idx {α:Type} [Inhabited α] (xs:List α) (i:Int):α:=xs.getD i.toNat default
theorem idx_eq {α:Type} [Inhabited α] {xs:List α} {i:Int} (h0:0 ≤ i) (h1:i < xs.length):xs[i.toNat]? = some (idx xs i):=by
 have:i.toNat < xs.length:=by omega
 simp [idx,List.getD,List.getElem?_eq_getElem this]
theorem map_set {α:Type} (xs:List α) (e:α → List CP) (i:Nat) (x:α):(xs.map e).set i (e x) = (xs.set i x).map e:=by rw [List.map_set]
theorem ko {α:Type} {xs:List α} {e:α → List CP} {size:Nat} (h:∀ x,(e x).length = size):cb size (xs.map e):=fun ps hp=>by
 obtain ⟨x,_,rfl⟩:=List.mem_map.1 hp
 exact h x
theorem inR_u8 {z:Int} (h1:0 ≤ z) (h2:z ≤ 255):kX .u8 z:=by simp [kX,IntKind.min,IntKind.max,IntKind.signed,IntKind.bits]; omega
section
variable {P:Program} {TB:aF} {E:Env TB} {n:Sh} {s s':St} {dst:Option Nat} {t ty yt:TypeId} {pos:String} {after:Array Edge} {g:Option (Nat × Bool)} {x y c:Operand} {ops:Array Oper} {l:List Oper} {Q:bF} {cd:Code}
theorem tG {size:Nat} {es:List (List CP)} {e:TypeId} {m:Nat} (ht:P.underlying t = some (.slice e)) (hx:s.ev x = some (.b (.one (.sl size es)))) (hm:es.length = m) :
  aR P E n ⟨dst,.call ⟨.builtin .len,#[x],#[t]⟩,ty,pos,after,g⟩ s (s.put n dst (I (m:Int))):=hm ▸ J6 ht hx
theorem xj {k size:Nat} {T e:TypeId} {es:List (List CP)} {m:Nat} (ht:P.underlying t = some (.slice e)) (hx:s.ev x = some (.b (.row k))) (hk:lk s.own k = some (.row T size es)) (hm:es.length = m) :
  aR P E n ⟨dst,.call ⟨.builtin .len,#[x],#[t]⟩,ty,pos,after,g⟩ s (s.put n dst (I (m:Int))):=hm ▸ J5 ht hx hk
theorem op_rem {k:IntKind} {a b:Int} (h:b ≠ 0) (hx:s.ev x = some (.b (.one (.int k a)))) (hy:s.ev y = some (.b (.one (.int k b)))):aR P E n ⟨dst,.binOp .rem t x y yt,ty,pos,after,g⟩ s (s.put n dst (.b (.one (.int k (a.tmod b))))) :=
 aR.val (o:=⟨dst,.binOp .rem t x y yt,ty,pos,after,g⟩) fun ac w h' ρ hw hs=>by
  have hra:=(bG hs hx).2
  refine ⟨.int k (a.tmod b),?_,rfl,?_⟩
  ·simp only [execOp,(bG hs hx).1,(bG hs hy).1]
   simp [eqGuard,binOp,Op.intDiv,h]
  ·have h1:(a.tmod b).natAbs ≤ a.natAbs:=by rw [Int.natAbs_tmod]; exact Nat.mod_le _ _
   unfold kX at hra ⊢
   have h2:0 ≤ a → 0 ≤ a.tmod b:=fun h=>Int.tmod_nonneg b h
   have h3:a ≤ 0 → a.tmod b ≤ 0:=fun h=>by
    have:=Int.tmod_nonneg b (a:=-a) (by omega)
    rw [Int.neg_tmod] at this; omega
   have h4:(a.tmod b).natAbs ≤ a.natAbs:=h1
   have h5:k.min ≤ 0:=by cases k <;> simp [IntKind.min,IntKind.signed,IntKind.bits]
   have h6:0 ≤ k.max:=by cases k <;> simp [IntKind.max,IntKind.signed,IntKind.bits]
   omega
theorem FQ {u v:Str} (h:u.length + v.length ≤ 9223372036854775807) (hx:s.ev x = some (.b (.one (.str u)))) (hy:s.ev y = some (.b (.one (.str v)))):aR P E n ⟨dst,.binOp .add t x y yt,ty,pos,after,g⟩ s (s.put n dst (.b (.one (.str (u ++ v))))) :=
 aR.val (o:=⟨dst,.binOp .add t x y yt,ty,pos,after,g⟩) fun ac w h' ρ hw hs=>by
  refine ⟨.string ⟨⟨u ++ v⟩⟩,?_,rfl,by rw [c7]; simpa using h⟩
  simp only [execOp,(la hs hx).1,(la hs hy).1]
  have hrun:=run_string_add_sum (P:=P) w ⟨⟨u⟩⟩ ⟨⟨v⟩⟩ h
  have happ:(⟨⟨u⟩⟩:ByteArray) ++ ⟨⟨v⟩⟩ = ⟨⟨u ++ v⟩⟩:=ByteArray.mk_append_mk u v
  simp [eqGuard,binOp,hrun,happ]
theorem vN {h:PH} {ρ:RM} {own:List (Nat × OC)} {w:World} (hw:WR E n own h ρ w) {k:Nat} {T:TypeId} {size:Nat} {es:List (List CP)} (hk:lk own k = some (.row T size es)) {b m q:Nat} (hρ:ρ k = .slice (some ⟨b,0,none⟩) m q) :
  cb size es ∧ 0 < size ∧ ∃ cap cur,ρ k = .slice (some ⟨b,0,none⟩) es.length cap ∧ w.heap[b]? = some (.cells cur T (0,0)) ∧ es.length ≤ cap ∧ cap ≤ maxLen ∧ cur.size = cap * size ∧ aA h es.flatten (cur.toList.take (es.length * size)):=by
 obtain ⟨hu,hz,hf⟩:=mP hw hk
 refine ⟨hu,hz,?_⟩
 rcases hf with ⟨h1,_⟩ | ⟨b',cap,cur,h1,h2⟩
 ·rw [hρ] at h1; simp at h1
 ·have:b' = b:=by rw [hρ] at h1; simp at h1; exact h1.1.symm
  subst this
  exact ⟨cap,cur,h1,h2⟩
theorem DM {h:PH} {size:Nat} {es:List (List CP)} {cur:Array Value} (hu:cb size es) (hr:aA h es.flatten (cur.toList.take (es.length * size))) {i:Nat} {ps:List CP} (hi:es[i]? = some ps) (f:Nat) :
  aA h (ps.drop f) ((cur.toList.drop (i * size + f)).take (ps.length - f)):=by
 have hil:=(List.getElem?_eq_some_iff.1 hi).1
 have hpl:ps.length = size:=hu ps (List.mem_of_getElem? hi)
 have hlen:=hr.length
 rw [gF hu] at hlen
 simp only [List.length_take,Array.length_toList] at hlen
 have hsz:es.length * size ≤ cur.size:=by omega
 have hle:(i + 1) * size ≤ es.length * size:=Nat.mul_le_mul_right _ hil
 rw [Nat.add_mul] at hle
 refine aQ.zk (by simp; omega) fun j p u hp hv=>?_
 rw [List.getElem?_drop] at hp
 have hj:=(List.getElem?_eq_some_iff.1 hp).1
 obtain ⟨u',hu',hrel⟩:=hr.get (i * size + (f + j)) p (by rw [kO hu i ps hi (f + j) (by omega)]; exact hp)
 rw [List.getElem?_take,if_pos (by omega)] at hu'
 rw [List.getElem?_take,if_pos (by omega),List.getElem?_drop,Nat.add_assoc] at hv
 rw [hu'] at hv; cases hv
 exact hrel
theorem HS {k o i f m size:Nat} {T:TypeId} {es:List (List CP)} {ps qs:List CP} (ht:gg P t m) (hx:s.ev x = some (.b (.gh k o))) (hk:lk s.own k = some (.row T size es)) (ho:o = i * size + f) (hi:es[i]? = some ps) (hp:(ps.drop f).take m = qs) (hq:qs.length = m) :
  aR P E n ⟨dst,.load t x,ty,pos,after,g⟩ s (s.put n dst (.b (.agg qs))) :=
 aR.val (o:=⟨dst,.load t x,ty,pos,after,g⟩) fun ac w h ρ hw hs=>by
  obtain ⟨b,mm,q,he,hv⟩:=(aC hs hx:BV.rel h ρ (.gh k o) _)
  obtain ⟨hu,hz,cap,cur,h1,h2,h3,h4,h5,h6⟩:=vN hw hk he
  have hc0:=aQ.take (DM hu h6 hi f) m
  have hc:aA h qs (((cur.toList.drop (i * size + f)).take (ps.length - f)).take m):=hp ▸ hc0
  refine ⟨.agg (((cur.toList.drop (i * size + f)).take (ps.length - f)).take m).toArray,?_,_,rfl,by simpa using hc⟩
  have:=jy ht (w:=w) (b:=b) (o:=o) (cs:=((cur.toList.drop (i * size + f)).take (ps.length - f)).take m) (by rw [← hc.length,hq]) (fun j v hv=>by
   rw [gr h2,ho]
   rw [List.getElem?_take] at hv
   split at hv
   ·rw [List.getElem?_take] at hv
    split at hv
    ·simpa using hv
    ·simp at hv
   ·simp at hv)
  simp only [execOp,hv,Instr.loadAt,Instr.sureAddr]
  simp [this]
theorem u3 {k o i f size:Nat} {T:TypeId} {es:List (List CP)} {ps:List CP} {p:CP} (ht:cS P t) (hx:s.ev x = some (.b (.gh k o))) (hk:lk s.own k = some (.row T size es)) (ho:o = i * size + f) (hi:es[i]? = some ps) (hp:ps[f]? = some p) :
  aR P E n ⟨dst,.load t x,ty,pos,after,g⟩ s (s.put n dst (.b (.one p))) :=
 aR.val (o:=⟨dst,.load t x,ty,pos,after,g⟩) fun ac w h ρ hw hs=>by
  obtain ⟨b,mm,q,he,hv⟩:=(aC hs hx:BV.rel h ρ (.gh k o) _)
  obtain ⟨hu,hz,cap,cur,h1,h2,h3,h4,h5,h6⟩:=vN hw hk he
  have hc:=DM hu h6 hi f
  obtain ⟨u,hu',hpu⟩:=hc.get 0 p (by rw [List.getElem?_drop,Nat.add_zero]; exact hp)
  rw [List.getElem?_take] at hu'
  have hcell:w.cell? ⟨b,o,none⟩ = some u:=by
   rw [gr h2,ho]
   split at hu'
   ·simpa using hu'
   ·simp at hu'
  have:=jx ht (w:=w) hcell
  refine ⟨u,?_,hpu⟩
  simp only [execOp,hv,Instr.loadAt,Instr.sureAddr]
  simp [this]
theorem xV {size:Nat} {qs:List CP} (hq:qs.length = size):∀ {es:List (List CP)},cb size es → ∀ (i:Nat),i < es.length → aN es.flatten (i * size) qs = (es.set i qs).flatten
 | [],_,i,h=>by simp at h
 | p :: es,hu,0,_=>by
  have hp:p.length = size:=hu p (by simp)
  simp only [aN,Nat.zero_mul,List.take_zero,List.nil_append,Nat.zero_add,List.set_cons_zero,List.flatten_cons,hq]
  rw [← hp,List.drop_left]
 | p :: es,hu,i + 1,h=>by
  have hp:p.length = size:=hu p (by simp)
  have ih:=xV hq (es:=es) (fun q hq=>hu q (by simp [hq])) i (by simpa using h)
  have e:(i + 1) * size = p.length + i * size:=by rw [Nat.add_mul,hp]; omega
  simp only [aN,List.flatten_cons,List.set_cons_succ] at ih ⊢
  rw [← ih,e,Nat.add_assoc,List.take_length_add_append,List.drop_length_add_append]
  simp [List.append_assoc]
theorem AB {h:PH} {ρ:RM} {w:World} (hw:WR E n s.own h ρ w) {k i m size:Nat} {T:TypeId} {es:List (List CP)} {qs:List CP} {u:Value} {b mm q:Nat} {inf:TypeInfo} (hi:P.info? t = some inf) (hm:inf.size = m) (hk:lk s.own k = some (.row T size es))
  (he:ρ k = .slice (some ⟨b,0,none⟩) mm q) (hms:m = size) (hlt:i < es.length) (hcr:aA h qs u.cells.toList) (hq:qs.length = size) :
  ∃ w',(storeVar t ⟨b,i * size,none⟩ u).run P w = .ok () w' ∧ WR E n (ins k (.row T size (es.set i qs)) s.own) h ρ w':=by
 obtain ⟨hu,hz,cap,cur,h1,h2,h3,h4,h5,h6⟩:=vN hw hk he
 have hl:=hcr.length
 simp only [Array.length_toList] at hl
 have hle:(i + 1) * size ≤ es.length * size:=Nat.mul_le_mul_right _ hlt
 rw [Nat.add_mul] at hle
 have hcap:es.length * size ≤ cap * size:=Nat.mul_le_mul_right _ h3
 have hrun:=ju (P:=P) (t:=t) hi hm h2 (v:=u) (o:=i * size) (by omega) (by omega) hcr.one
 refine ⟨_,hrun,?_⟩
 have hspl:(aN cur.toList (i * size) u.cells.toList).length = cur.size:=by simp [aN]; omega
 have hst:=hw.step (w':=w.setRow b (aN cur.toList (i * size) u.cells.toList).toArray) k (ρ k) (.row T size (es.set i qs)) (some b) (fun b' e=>by cases e; exact ⟨_,bh hk,by rw [he]; rfl⟩) (by simp) rfl rfl
  (fun b' _ hne=>setRow_other _ _ _ _ (fun e=>hne (by rw [e]))) ?_ (fun b' hb'=>by rw [he] at hb'; simp [aZ] at hb'; exact .inl (by rw [hb'])) (.inl rfl) (.inl rfl)
 ·have:oy ρ k (ρ k) = ρ:=by funext j; simp only [oy]; split <;> simp_all
  rwa [this] at hst
 ·have hu':cb size (es.set i qs):=fun ps hps=>by
   rcases List.mem_or_eq_of_mem_set hps with h | h
   ·exact hu ps h
   ·rw [h]; exact hq
  refine ⟨hu',hz,_,⟨?_,.inr ⟨b,cap,(aN cur.toList (i * size) u.cells.toList).toArray,by rw [h1,List.length_set],Nat.zero_le _,setRow_heap _ _ _ _ _ _ h2,by rw [List.length_set]; exact h3,h4,by simp [hspl,h5],rfl⟩⟩,?_⟩
  ·simp only [List.length_take,List.length_set,hspl]; omega
  ·rw [List.length_set,← xV hq hu i hlt]
   have e1:(aN cur.toList (i * size) u.cells.toList).take (es.length * size) = aN (cur.toList.take (es.length * size)) (i * size) u.cells.toList:=by
    simp only [aN,Array.length_toList]
    rw [List.take_append,List.take_append]
    simp only [List.length_take,List.length_append,Array.length_toList]
    rw [List.take_take,List.take_take,List.take_of_length_le (l:=u.cells.toList) (by simp; omega),List.drop_take]
    congr 1
    ·congr 2
     omega
    ·congr 1
     omega
   rw [e1]
   exact aQ.aN h6 hcr _
theorem ya {k o i size:Nat} {T:TypeId} {es es':List (List CP)} {p:CP} (ht:cS P t) (hx:s.ev x = some (.b (.gh k o))) (hk:lk s.own k = some (.row T size es)) (hy:s.ev y = some (.b (.one p))) (ho:o = i * size) (hlt:i < es.length) (he:es.set i [p] = es')
  (hms:1 = size:=by rfl) :
  aR P E n ⟨none,.store t x y,ty,pos,after,g⟩ s ⟨s.slots,ins k (.row T size es') s.own⟩ :=
 aR.store (o:=⟨none,.store t x y,ty,pos,after,g⟩) rfl fun ac w h ρ hw hs=>by
  obtain ⟨b,mm,q,hρ,hv⟩:=(aC hs hx:BV.rel h ρ (.gh k o) _)
  have hp:p.rel h (ac.eval y):=aC hs hy
  have h1:=p.one hp
  have hcells:(ac.eval y).cells = #[ac.eval y]:=by cases hq:ac.eval y <;> first | rfl | (rw [hq] at h1; simp [Value.oneCell'] at h1)
  obtain ⟨i',hi,hm⟩:=ht.size
  obtain ⟨w',hrun,hwr⟩:=AB hw (u:=ac.eval y) (qs:=[p]) hi hm hk hρ hms hlt (by rw [hcells]; exact .cons hp .nil) hms
  subst he
  refine ⟨w',?_,hwr⟩
  simp only [execOp,hv,Instr.storeAt,Instr.sureAddr,ho]
  simp [hrun]
def BV.Ij (k k0:Nat):BV → BV
 | .row j=>if j == k then .row k0 else .row j
 | z=>z
def vB (k:Nat):BV → Bool
 | .row j=>j == k
 | .one _ | .agg _=>true
 | _=>false
theorem OC.JJ {c:OC} (h:c.vt = false) {k:Nat}:c.bd k = false:=by
 cases c <;> first | rfl | simp [OC.vt] at h
theorem Fin.eM {fn:Func} {post:dQ} {e:Exit} {rs:List ResultVar} (zs:List BV) (he:e = .ret ∨ e = .normal) (hrs:fn.results.toList = rs) (hr:aQ (pC P s) rs zs) (hp:post [] (vq zs)):Fin E n e s (yP P fn E n post):=by
 intro a w ⟨h1,h2,h,ρ,hw,hs⟩
 obtain ⟨v,hv,hrel⟩:=pJ (fn:=fn) (hrs ▸ hr) hw hs
 have:a.defers = n.dfs ∧ ∃ v,(∀ w₂,bI w w₂ → (results fn a.tmps).run P w₂ = .ok v w₂) ∧ iD E n post (.returned v) w:=⟨h1,v,hv,v,[],_,h,ρ,rfl,hp,hw.sub (by simp),hrel⟩
 rcases he with rfl | rfl <;> exact this
theorem Fin.ku {fn:Func} {post:dQ} {e:Exit} {rs:List ResultVar} {c:OC} (k k0:Nat) (zs:List BV) (he:e = .ret ∨ e = .normal) (hrs:fn.results.toList = rs) (hr:aQ (pC P s) rs zs) (hk:lk s.own k = some c) (hf:n.fix = []) (hb:c.vt = false) (hz:zs.all (vB k) = true)
  (hp:post [(k0,c)] (vq (zs.map (BV.Ij k k0)))):Fin E n e s (yP P fn E n post):=by
 intro a w ⟨h1,h2,h,ρ,hw,hs⟩
 obtain ⟨v,hv,hrel⟩:=pJ (fn:=fn) (hrs ▸ hr) hw hs
 have hwr:WR E n [(k0,c)] h (fun _=>ρ k) w:=by
  refine ⟨hw.agree,hw.le,hw.fresh,hw.size,hw.same,fun j hj=>by rw [hf] at hj; simp at hj,hw.os,hw.out,hw.nl,?_⟩
  intro j c' hj
  simp only [List.mem_singleton,Prod.mk.injEq] at hj
  obtain ⟨rfl,rfl⟩:=hj
  obtain ⟨e1,e2,_⟩:=hw.owned k _ (bh hk)
  refine ⟨e1.Ij fun i hi=>by rw [OC.JJ hb] at hi; simp at hi,e2,fun j' c' hj' hne=>?_⟩
  simp only [List.mem_singleton,Prod.mk.injEq] at hj'
  exact absurd hj'.1 hne
 have hone:∀ {z:BV} {u:Value},vB k z = true → z.rel h ρ u → (z.Ij k k0).rel h (fun _=>ρ k) u:=fun {z u} hz hu=>by
  cases z with
  | row j=>
   have e:j = k:=by simpa [vB] using hz
   subst e
   simp only [BV.Ij,beq_self_eq_true,if_true]
   exact hu
  | one p=>exact hu
  | agg ps=>exact hu
  | _=>simp [vB] at hz
 have hrel':(vq (zs.map (BV.Ij k k0))).rel h (fun _=>ρ k) v:=by
  have hlist:∀ {zs:List BV} {us:List Value},zs.all (vB k) = true → aQ (fun (x:BV) u=>x.rel h ρ u) zs us → aQ (fun (x:BV) u=>x.rel h (fun _=>ρ k) u) (zs.map (BV.Ij k k0)) us:=fun {zs us} hz ha=>by
   induction ha with
   | nil=>exact .nil
   | cons h1 _ ih=>
    simp only [List.all_cons,Bool.and_eq_true] at hz
    exact .cons (hone hz.1 h1) (ih hz.2)
  match zs,hz,hrel with
  | [],hz,⟨vs,e,ha⟩=>exact ⟨vs,e,hlist hz ha⟩
  | [z],hz,hrel=>exact hone (by simpa using hz) hrel
  | z1 :: z2 :: r,hz,⟨vs,e,ha⟩=>exact ⟨vs,e,hlist hz ha⟩
 have:a.defers = n.dfs ∧ ∃ v,(∀ w₂,bI w w₂ → (results fn a.tmps).run P w₂ = .ok v w₂) ∧ iD E n post (.returned v) w:=⟨h1,v,hv,v,[(k0,c)],_,h,_,rfl,hp,hwr,hrel'⟩
 rcases he with rfl | rfl <;> exact this
theorem Fin.jL {e:Exit} (i k size:Nat) (T:TypeId) (hi:s.get i = some (.b (.one .nil))) (hz:0 < size) (hfx:n.fix.contains k = false) (h:Fin E n e ⟨(i,.b (.row k)) :: del i (cn k s.slots),ins k (.row T size []) s.own⟩ Q) (hnu:di k s.own = true:=by rfl):Fin E n e s Q :=
 fun a w hr=>h a w (hr.jL hi hz hfx hnu)
theorem Fin.cB {e:Exit} (i size:Nat) (hi:s.get i = some (.b (.one .nil))) (hz:0 < size) (h:Fin E n e ⟨(i,.b (.one (.sl size []))) :: del i s.slots,s.own⟩ Q):Fin E n e s Q :=
 fun a w hr=>h a w (hr.cB hi hz)
end
end Go.Sk
namespace Go.Sk
open Go
section
variable {P:Program} {TB:aF} {E:Env TB} {n:Sh} {s:St} {dst:Option Nat} {ty:TypeId} {pos:String} {after:Array Edge} {g:Option (Nat × Bool)} {x:Operand}
theorem BH {own:List (Nat × OC)}:hJ own [] [] = true:=by simp [hJ,ai]
theorem ct {f:FuncId} {args:List BV} {xs:Array Operand} {ats:Array TypeId} {res:SV} (hspec:aG P TB f [] args (Is [] res)) (hf:dw P f) (ha:gI s xs.toList = some args) (hki:res.bm [] = true) :
  aR P E n ⟨dst,.call ⟨.value (.func f),xs,ats⟩,ty,pos,after,g⟩ s (s.put n dst res):=dx (own_a:=[]) (own':=[]) hspec hf ha trivial rfl hki BH
theorem HW {f:FuncId} {args:List BV} {xs:Array Operand} {ats:Array TypeId} {res:SV} (hspec:aG P TB f [] args (Is [] res)) (hf:dw P f) (hx:s.ev x = some (.b (.one (.raw (.func (.func f) #[] #[]))))) (ha:gI s xs.toList = some args) (hki:res.bm [] = true) :
  aR P E n ⟨dst,.call ⟨.value x,xs,ats⟩,ty,pos,after,g⟩ s (s.put n dst res):=J7 (own_a:=[]) (own':=[]) hspec hf hx ha trivial rfl hki BH
end
end Go.Sk
namespace Go.Sk
set_option linter.unusedSimpArgs false
set_option linter.unusedVariables false
open Go Go.BigFrame
section
variable {P:Program} {TB:aF} {E:Env TB} {n:Sh} {s s':St} {dst:Option Nat} {t ty yt:TypeId} {pos:String} {after:Array Edge} {g:Option (Nat × Bool)} {x y c:Operand} {ops:Array Oper} {l:List Oper} {Q:bF} {cd:Code}
theorem AY {e:TypeId} (ht:P.underlying t = some (.slice e)) (w:World) (a:Option Addr) (m q:Nat):(Op.equal t (.slice a m q) (.slice none 0 0)).run P w = .ok a.isNone w:=run_equal_slice_nil w t e a m q ht
theorem F2 {o:Oper} {e:TypeId} {op:BinOp} (ht:P.underlying t = some (.slice e)) (ho:o = ⟨dst,.binOp op t x (.const (.slice none 0 0)) yt,ty,pos,after,none⟩) (hop:op = .eql ∨ op = .neq)
  {emp:Prop} (hform:∀ (a:Act) (w:World) (h:PH) (ρ:RM),WR E n s.own h ρ w → bp h ρ s.slots a.tmps → ∃ ad m q,a.eval x = .slice ad m q ∧ (ad = none → emp))
  (h2:∀ b:Bool,(b = true → emp) → aj P E n ops l (s.put n dst (B (if op = .eql then b else !b))) Q):aj P E n ops (o :: l) s Q:=by
 intro a w hr
 subst ho
 unfold yx
 have:∀ tmps,Region.wanted ⟨dst,.binOp op t x (.const (.slice none 0 0)) yt,ty,pos,after,none⟩ (yielded ops tmps) = true:=fun _=>rfl
 simp only [this,if_true]
 obtain ⟨hdf,hn,h,ρ,hw,hs⟩:=id hr
 obtain ⟨ad,m,q,hv,hemp⟩:=hform a w h ρ hw hs
 have hrun:(execOp a.eval ⟨dst,.binOp op t x (.const (.slice none 0 0)) yt,ty,pos,after,none⟩).run P w = .ok (.value (.bool (if op = .eql then ad.isNone else !ad.isNone))) w:=by
  have hcst:a.eval (.const (.slice none 0 0)) = .slice none 0 0:=rfl
  simp only [execOp,hv,hcst]
  have hq:=AY ht w ad m q
  rcases hop with rfl | rfl <;> simp [eqGuard,binOp,hq]
 unfold Oper.wp
 rw [hrun]
 exact h2 ad.isNone (fun e=>hemp (by cases ad <;> simp_all)) _ _ (R.put (s:=s) hdf hn hw hs rfl)
theorem aj.tx {size:Nat} {es:List (List CP)} {e:TypeId} (ht:P.underlying t = some (.slice e)) (hx:s.ev x = some (.b (.one (.sl size es)))) (h2:∀ b:Bool,(b = true → es = []) → aj P E n ops l (s.put n dst (B b)) Q) :
  aj P E n ops (⟨dst,.binOp .eql t x (.const (.slice none 0 0)) yt,ty,pos,after,none⟩ :: l) s Q :=
 F2 (op:=.eql) (emp:=es = []) ht rfl (.inl rfl) (fun a w h ρ hw hs=>by
  obtain ⟨hu,hz,hv⟩:=(aC hs hx:(CP.sl size es).rel h _)
  rcases hv with ⟨hv,he⟩ | ⟨b,o,c,hv,_⟩ | ⟨_,hv,_⟩
  ·exact ⟨_,_,_,hv,fun _=>he⟩
  ·exact ⟨_,_,_,hv,fun e=>by simp at e⟩
  ·exact ⟨_,_,_,hv,fun e=>by simp at e⟩) h2
theorem oA {e k size bytes:Nat} {zs:List CP} (ht:kV P t e size bytes zs) (hfx:n.fix.contains k = false) (hnu:di k s.own = true:=by rfl) :
  aR P E n ⟨dst,.buildSlice t 0 #[],ty,pos,after,g⟩ s ((⟨cn k s.slots,ins k (.row e size []) s.own⟩:St).put n dst (.b (.row k))) :=
 aR.make (hfx:=hfx) (hnu:=hnu) (o:=⟨dst,.buildSlice t 0 #[],ty,pos,after,g⟩) fun ac w h ρ hw hs=>by
  obtain ⟨i,z,h1,h2,h3,h4,h5,h6,h7⟩:=ht.info
  refine ⟨.slice (some ⟨w.heap.size,0,none⟩) 0 0,.slice (some ⟨w.heap.size,0,none⟩) 0 0,w.alloc (.cells #[] e),none,?_,fun b e=>by simp at e,by simp,rfl,rfl,fun b hb _=>heap_alloc_old w _ hb,?_,
   fun b e=>by simp [aZ] at e; subst e; exact .inr (Nat.le_refl _),(cG _ _ _).symm⟩
  ·have hrun:(Instr.buildSlice t 0 #[]).run P w = .ok (.slice (some ⟨w.heap.size,0,none⟩) 0 0) (w.alloc (.cells #[] e)):=by
    unfold Instr.buildSlice
    rw [Sem.run_bind,run_underlying ht.und,Result.andThen]
    simp only [Sem.run_bind,run_sizeOf h1,Result.andThen_ok,Nat.zero_mul]
    have hz0:((Array.range 0).map fun _=>(default:Value)) = #[]:=by simp
    simp [Instr.fill,newRow,hz0]
   simp only [execOp]
   simp [hrun]
  ·exact ⟨fun ps hps=>by simp at hps,h6,[],⟨by simp,.inr ⟨w.heap.size,0,#[],by simp,Nat.zero_le _,heap_alloc_new w _,by simp,by simp [maxLen],by simp,by simp⟩⟩,.nil⟩
structure iF (P:Program) (t:TypeId) (ps qs:List CP) (r:Bool):Prop where
 guard:P.eqGuardType P.depth t = false
 run:∀ (h:PH) (cs ds:Array Value) (w:World),aA h ps cs.toList → aA h qs ds.toList → (Op.equalIn 10000 t (.agg cs) (.agg ds)).run P w = .ok r w
theorem Al {ps qs:List CP} {r:Bool} (he:iF P t ps qs r) (hx:s.ev x = some (.b (.agg ps))) (hy:s.ev y = some (.b (.agg qs))):aR P E n ⟨dst,.binOp .eql t x y yt,ty,pos,after,g⟩ s (s.put n dst (B r)) :=
 aR.val (o:=⟨dst,.binOp .eql t x y yt,ty,pos,after,g⟩) fun ac w h ρ hw hs=>by
  obtain ⟨cs,hv,hr⟩:=(aC hs hx:BV.rel h ρ (.agg ps) _)
  obtain ⟨ds,hv2,hr2⟩:=(aC hs hy:BV.rel h ρ (.agg qs) _)
  refine ⟨.bool r,?_,rfl⟩
  simp only [execOp,hv,hv2]
  simp [run_eqGuard_agg w _ _ _ _ _ _ he.guard,run_eql_struct,he.run h cs ds w hr hr2]
theorem Ak {ps qs:List CP} {r r':Bool} (he:iF P t ps qs r) (hx:s.ev x = some (.b (.agg ps))) (hy:s.ev y = some (.b (.agg qs))) (hr':(!r) = r'):aR P E n ⟨dst,.binOp .neq t x y yt,ty,pos,after,g⟩ s (s.put n dst (B r')) :=
 aR.val (o:=⟨dst,.binOp .neq t x y yt,ty,pos,after,g⟩) fun ac w h ρ hw hs=>by
  obtain ⟨cs,hv,hr⟩:=(aC hs hx:BV.rel h ρ (.agg ps) _)
  obtain ⟨ds,hv2,hr2⟩:=(aC hs hy:BV.rel h ρ (.agg qs) _)
  refine ⟨.bool r',?_,rfl⟩
  simp only [execOp,hv,hv2]
  simp [run_eqGuard_agg w _ _ _ _ _ _ he.guard,run_neq_struct,he.run h cs ds w hr hr2,hr']
structure uW (P:Program) (t:TypeId) (p q:CP) (r:Bool):Prop where
 one:cS P t
 run:∀ (h:PH) (u v:Value) (w:World),p.rel h u → q.rel h v → (Op.equalIn 9999 t u v).run P w = .ok r w
theorem uW.int {k k':IntKind} {a b:Int} (h1:cS P t) (hu:P.underlying t = some (.int k')):uW P t (.int k a) (.int k b) (decide (a = b)) :=
 ⟨h1,fun h u v w hp hq=>by rw [hp.1,hq.1,run_equalIn_int w 9998 t k k' a b hu,vC]⟩
theorem uW.str {a b:Str} (h1:cS P t) (hu:P.underlying t = some .string):uW P t (.str a) (.str b) (decide (a = b)) :=
 ⟨h1,fun h u v w hp hq=>by rw [hp.1,hq.1,run_equalIn_string w 9998 t _ _ hu,yT]⟩
theorem uW.bool {a b:Bool} (h1:cS P t) (hu:P.underlying t = some .bool):uW P t (.bool a) (.bool b) (a == b) :=
 ⟨h1,fun h u v w hp hq=>by rw [show u = .bool a from hp,show v = .bool b from hq,run_equalIn_bool' w 9998 t a b hu]⟩
def CK (P:Program) (ps qs:List CP):List Field → List Bool → Prop
 | [],[]=>True
 | f :: fs,r :: rs=>f.name ≠ "_" ∧ (∃ p q,ps[f.offset]? = some p ∧ qs[f.offset]? = some q ∧ uW P f.type p q r) ∧ CK P ps qs fs rs
 | _,_=>False
theorem wA {h:PH} {ps qs:List CP} {cs ds:Array Value} (hp:aA h ps cs.toList) (hq:aA h qs ds.toList) (w:World):∀ {fs:List Field} {rs:List Bool},CK P ps qs fs rs → (Op.eqFields 9999 cs ds fs).run P w = .ok (rs.all id) w
 | [],[],_=>rfl
 | [],_ :: _,h=>h.elim
 | _ :: _,[],h=>h.elim
 | f :: fs,r :: rs,⟨h1,⟨p,q,hp',hq',he⟩,h3⟩=>by
  have ih:=wA hp hq w h3
  obtain ⟨u,hu,hur⟩:=hp.get _ p hp'
  obtain ⟨v,hv,hvr⟩:=hq.get _ q hq'
  obtain ⟨d,hd,hag⟩:=he.one.und
  have hpart:∀ {A:Array Value} {z:Value},A.toList[f.offset]? = some z → (part f.type A f.offset).run P w = .ok z w:=fun {A z} hz=>by
   unfold part
   rw [Sem.run_bind,mr hd,Result.andThen,hag]
   have:A[f.offset]? = some z:=by simpa using hz
   simp [this]
  unfold Op.eqFields
  rw [if_pos h1]
  rw [Sem.run_bind,hpart hu,Result.andThen,Sem.run_bind,hpart hv,Result.andThen,Sem.run_bind,he.run h u v w hur hvr,Result.andThen]
  cases r
  ·simp
  ·simpa using ih
theorem iF.of {ps qs:List CP} {fs:Array Field} {rs:List Bool} {r:Bool} (hg:P.eqGuardType P.depth t = false) (hh:P.stoodInHeld t = false) (hu:P.underlying t = some (.struct fs)) (hc:CK P ps qs fs.toList rs) (hr:rs.all id = r):iF P t ps qs r:=by
 have hf:P.fieldsOf t = fs:=by simp [Program.fieldsOf,hu]
 exact ⟨hg,fun h cs ds w hp hq=>by
  rw [run_equalIn_struct w 9999 t cs ds (by rw [hf]; exact hu) hh,hf,wA hp hq w hc,hr]⟩
def uR (l:List Oper) (listed:List Bool):List Nat:=Region.ready .any l.toArray listed.toArray
def pI (step:Nat → Prop):List Nat → Prop
 | []=>True
 | i :: is=>step i ∧ pI step is
theorem pI.mem {step:Nat → Prop}:∀ {is:List Nat},pI step is → ∀ i,i ∈ is → step i
 | [],_,i,hi=>by simp at hi
 | j :: is,h,i,hi=>by
  cases List.mem_cons.1 hi with
  | inl e=>subst e; exact h.1
  | inr e=>exact pI.mem h.2 i e
def chain (P:Program) {TB:aF} (E:Env TB) (n:Sh) (l:List Oper) (Q:bF):Nat → List Bool → St → Prop
 | 0,listed,s=>uR l listed = [] ∧ Fin E n .normal s Q
 | f + 1,listed,s=>uR l listed ≠ [] ∧ ∀ i,i ∈ uR l listed → ∃ o s',l[i]? = some o ∧ b6 P E n l.toArray o s s' ∧ chain P E n l Q f (listed.set i true) s'
theorem chain.done {listed:List Bool} (hr:uR l listed = []) (h:Fin E n .normal s Q):chain P E n l Q 0 listed s:=⟨hr,h⟩
theorem chain.next {f:Nat} {listed:List Bool} (is:List Nat) (hr:uR l listed = is) (hne:is ≠ []) (h:pI (fun i=>∃ o s',l[i]? = some o ∧ b6 P E n l.toArray o s s' ∧ chain P E n l Q f (listed.set i true) s') is):chain P E n l Q (f + 1) listed s :=
 ⟨by rw [hr]; exact hne,fun i hi=>pI.mem h i (hr ▸ hi)⟩
abbrev Tab:=List (List Bool × List Nat × St)
def lkT:Tab → List Bool → Option St
 | [],_=>none
 | (b,_,s) :: r,c=>if b == c then some s else lkT r c
def Gu (P:Program) {TB:aF} (E:Env TB) (n:Sh) (l:List Oper) (tab:Tab):Tab → Prop
 | []=>True
 | (b,is,s) :: r=>(uR l b = is ∧ (is.isEmpty == b.all id) = true) ∧ pI (fun i=>∃ o s',l[i]? = some o ∧ lkT tab (b.set i true) = some s' ∧ b6 P E n l.toArray o s s') is ∧ Gu P E n l tab r
theorem Gu.get {tab:Tab}:∀ {r:Tab},Gu P E n l tab r → ∀ b s,lkT r b = some s → ∃ is,uR l b = is ∧ (is.isEmpty == b.all id) = true ∧ pI (fun i=>∃ o s',l[i]? = some o ∧ lkT tab (b.set i true) = some s' ∧ b6 P E n l.toArray o s s') is
 | [],_,b,s,h=>by simp [lkT] at h
 | (c,is,s0) :: r,h,b,s,hb=>by
  unfold lkT at hb
  split at hb
  ·rename_i hc
   have hc':c = b:=by simpa using hc
   subst hc'
   cases hb
   exact ⟨is,h.1.1,h.1.2,h.2.1⟩
  ·exact Gu.get h.2.2 b s hb
end
end Go.Sk
namespace Go.Sk
open Go Go.BigFrame
section
variable {P:Program} {TB:aF} {E:Env TB} {n:Sh} {s s':St} {dst:Option Nat} {t ty yt:TypeId} {pos:String} {after:Array Edge} {g:Option (Nat × Bool)} {x y c:Operand} {ops:Array Oper} {l:List Oper} {Q:bF} {cd:Code}
end
end Go.Sk
namespace Go.Sk
open Go
end Go.Sk
namespace Go.Sk
open Go Go.BigFrame
section
variable {P:Program} {TB:aF} {E:Env TB} {n:Sh} {s s':St} {dst:Option Nat} {t ty yt:TypeId} {pos:String} {after:Array Edge} {g:Option (Nat × Bool)} {x y c:Operand} {ops:Array Oper} {l:List Oper} {Q:bF} {cd:Code}
theorem WR.allocP {h:PH} {ρ:RM} {own:List (Nat × OC)} {w:World} (hw:WR E n own h ρ w) (cs:Array Value) (T:TypeId) (hone:∀ v ∈ cs.toList,v.oneCell' = true):h.le (c9 h w.heap.size cs.toList) ∧ WR E n own (c9 h w.heap.size cs.toList) ρ (w.alloc (.cells cs T)):=by
 have hnone:∀ o,h w.heap.size o = none:=fun o=>by
  cases e:h w.heap.size o with
  | none=>rfl
  | some u=>have:=gM (hw.agree _ o u e); omega
 have hle:h.le (c9 h w.heap.size cs.toList):=fun b o v hv=>by
  unfold c9
  split
  ·rename_i e; subst e; rw [hnone o] at hv; simp at hv
  ·exact hv
 have hold:∀ b,b < w.heap.size → (w.alloc (.cells cs T)).heap[b]? = w.heap[b]?:=fun b hb=>heap_alloc_old w _ hb
 refine ⟨hle,?_,PH.le_trans hw.le hle,?_,by have:=hw.size; simp; omega,?_,hw.fixed,hw.os,hw.out,hw.nl,?_⟩
 ·intro b o v hv
  unfold c9 at hv
  split at hv
  ·rename_i e; subst e
   exact rj (heap_alloc_new w _) (by simpa using hv) (hone v (List.mem_of_getElem? hv))
  ·have hc:=hw.agree b o v hv
   rw [mD (hold b (gM hc))]; exact hc
 ·intro b hb hnl
  rw [← hw.fresh b hb hnl]
  funext o
  unfold c9
  rw [if_neg (by have:=hw.size; omega)]
 ·intro b hb hl
  rw [hold b (Nat.lt_of_lt_of_le hb hw.size)]; exact hw.same b hb hl
 ·intro j c hj
  obtain ⟨e1,e2,e3⟩:=hw.owned j c hj
  have hft:∀ i x,(i,x) ∈ own → ∀ b,x.du (ρ i) _ b → x.du (ρ i) w b:=fun i x hi b=>OC.du.congr fun b hb=>hold b ((hw.owned i x hi).1.lt (.inl hb))
  refine ⟨(e1.congr fun b hb=>hold b (e1.lt hb)).mono hle,fun b hb=>⟨(e2 b (hft j c hj b hb)).1,fun o=>?_⟩,fun i x hi hij b hb hb'=>e3 i x hi hij b (hft j c hj b hb) (hft i x hi b hb')⟩
  have:=e1.lt (hft j c hj b hb)
  unfold c9
  rw [if_neg (by omega)]
  exact (e2 b (hft j c hj b hb)).2 o
theorem s4 {e len size bytes:Nat} {zs:List CP} {es:List (List CP)} {parts:Array (Nat × Operand)} {cps:List (Nat × List CP)} (ht:kV P t e size bytes zs) (hp:eE s parts.toList = some cps)
  (hf:ir (fun i=>some (i * size,size)) ((List.range (len * size)).map fun i=>zs.getD (i % size) .any) cps = some es.flatten) (hu:cb size es) (hl:es.length = len) (h0:0 < len * size) (h24:len * size ≤ 16777216) :
  aR P E n ⟨dst,.buildSlice t len parts,ty,pos,after,g⟩ s (s.put n dst (.b (.one (.sl size es)))):=by
 intro a w ⟨hdf,hn,h,ρ,hw,hs⟩ next Q hnext
 obtain ⟨i,z,h1,h2,h3,h4,h5,h6,h7⟩:=ht.info
 have hzr:=oo h h7
 have hzl:zs.length = size:=by rw [hzr.length]; simpa using h5
 have hzeros:=Bv hzr (by omega) (len * size)
 rw [hzl] at hzeros
 have hzc:((Array.range (len * size)).map (z.cells[· % z.cells.size]!)).toList = (List.range (len * size)).map fun i=>z.cells.toList[i % z.cells.toList.length]!:=by
  rw [Array.toList_map,Array.toList_range]
  refine List.map_congr_left fun j _=>?_
  rw [List.getElem!_eq_getElem?_getD,Array.getElem!_eq_getD]
  simp [Array.getD_eq_getD_getElem?]
 obtain ⟨cs,hc1,hc2⟩:=oP hs (fun i=>some (i * size,size)) parts.toList cps _ es.flatten ((Array.range (len * size)).map (z.cells[· % z.cells.size]!)) hp hf (by rw [hzc]; exact hzeros)
 have hne:¬ len * size = 0:=by omega
 have hrun:(Instr.buildSlice t len (parts.map fun (i,x)=>(i,a.eval x))).run P w = .ok (.slice (some ⟨w.heap.size,0,none⟩) len len) (w.alloc (.cells cs e)):=by
  have hmap:(parts.map fun x=>(x.1,a.eval x.2)).toList = parts.toList.map fun p=>(p.1,a.eval p.2):=by simp
  unfold Instr.buildSlice
  rw [Sem.run_bind,run_underlying ht.und,Result.andThen]
  simp only [Sem.run_bind,run_sizeOf h1,h2,Result.andThen_ok]
  rw [if_neg (by omega),if_neg hne]
  simp [zeroValue,typeInfo,h1,h4,hc1,newRow]
 have hrun':(execOp a.eval ⟨dst,.buildSlice t len parts,ty,pos,after,g⟩).run P w = .ok (.value (.slice (some ⟨w.heap.size,0,none⟩) len len)) (w.alloc (.cells cs e)):=by
  simp only [execOp]
  simp [hrun]
 unfold Oper.wp
 rw [hrun']
 obtain ⟨hle,hwp⟩:=hw.allocP cs e (aA.one hc2)
 refine hnext _ _ (R.put (s:=s) hdf hn hwp (hs.mono hle) ?_)
 refine ⟨hu,h6,.inr (.inl ⟨w.heap.size,0,len,by rw [hl],by omega,?_,fun j c hc=>?_⟩)⟩
 ·have:len ≤ len * size:=Nat.le_mul_of_pos_right _ h6
  rw [c7]; omega
 ·obtain ⟨u,hu',hr⟩:=hc2.get j c hc
  exact ⟨u,by simp only [c9,if_true,Nat.zero_add]; exact hu',c.mono hle hr⟩
theorem aG.dc {f:FuncId} {args:List BV} {T:TypeId} {size:Nat} {es:List (List CP)} (h:aG P TB f [] args (Is [(0,.row T size es)] (.b (.row 0)))):aG P TB f [] args (Is [] (.b (.one (.sl size es)))):=by
 intro w hh ρ vals tb hag hl hargs
 refine (h w hh ρ vals tb hag hl hargs).mono ?_
 rintro e w' ⟨v,own',res,h',ρ',rfl,⟨rfl,rfl⟩,hw,hres⟩
 have hR:R ⟨w,hh,ρ,tb⟩ ⟨1,aq [],ai [],[]⟩ ⟨[(0,.b (.row 0))],[(0,.row T size es)]⟩ ⟨#[v],[]⟩ w':=⟨rfl,rfl,h',ρ',WR.sh (n:=⟨0,aq [],ai [],[]⟩) (n':=⟨1,aq [],ai [],[]⟩) rfl rfl hw,fun k x hx=>by
  simp only [List.mem_singleton,Prod.mk.injEq] at hx
  obtain ⟨rfl,rfl⟩:=hx
  exact ⟨v,by simp,hres⟩⟩
 obtain ⟨_,_,h'',ρ'',hw'',hs''⟩:=hR.gL (k:=0) rfl
 obtain ⟨u,hu,hur⟩:=hs'' 0 (.b (.one (.sl size es))) (by simp [qv,SV.dc,BV.dc])
 have huv:u = v:=by simpa using hu.symm
 subst huv
 exact ⟨u,[],_,h'',ρ'',rfl,⟨rfl,rfl⟩,WR.sh (n:=⟨1,aq [],ai [],[]⟩) (n':=⟨0,aq [],ai [],[]⟩) rfl rfl (hw''.sub (own':=[]) (by simp)),hur⟩
end
end Go.Sk
namespace Go.Sk
set_option linter.unusedSimpArgs false
set_option linter.unusedVariables false
open Go Go.BigFrame
section
variable {P:Program} {TB:aF} {E:Env TB} {n:Sh} {s:St} {dst:Option Nat} {t ty yt:TypeId} {pos:String} {after:Array Edge} {g:Option (Nat × Bool)} {x y c:Operand} {k:IntKind} {a b:Int} {ats:Array TypeId}
theorem op_min (hx:s.ev x = some (.b (.one (.int k a)))) (hy:s.ev y = some (.b (.one (.int k b)))) :
  aR P E n ⟨dst,.call ⟨.builtin .min,#[x,y],ats⟩,ty,pos,after,g⟩ s (s.put n dst (.b (.one (.int k (min a b))))) :=
 aR.val (o:=⟨dst,.call ⟨.builtin .min,#[x,y],ats⟩,ty,pos,after,g⟩) fun ac w h ρ hw hs=>by
  have h1:=bG hs hx
  have h2:=bG hs hy
  refine ⟨.int k (min a b),?_,rfl,?_⟩
  ·rw [execOp_builtin]
   show Sem.run _ _ _ = _
   simp only [builtin,Builtin.min_,List.map_toArray,List.map_cons,List.map_nil,h1.1,h2.1,List.foldlM_cons,List.foldlM_nil,Builtin.min2]
   have:(if b < a then b else a) = min a b:=by rw [Int.min_def]; split <;> split <;> omega
   rw [this]; rfl
  ·rw [Int.min_def]; split
   ·exact h1.2
   ·exact h2.2
theorem op_max (hx:s.ev x = some (.b (.one (.int k a)))) (hy:s.ev y = some (.b (.one (.int k b)))) :
  aR P E n ⟨dst,.call ⟨.builtin .max,#[x,y],ats⟩,ty,pos,after,g⟩ s (s.put n dst (.b (.one (.int k (max a b))))) :=
 aR.val (o:=⟨dst,.call ⟨.builtin .max,#[x,y],ats⟩,ty,pos,after,g⟩) fun ac w h ρ hw hs=>by
  have h1:=bG hs hx
  have h2:=bG hs hy
  refine ⟨.int k (max a b),?_,rfl,?_⟩
  ·rw [execOp_builtin]
   show Sem.run _ _ _ = _
   simp only [builtin,Builtin.max_,List.map_toArray,List.map_cons,List.map_nil,h1.1,h2.1,List.foldlM_cons,List.foldlM_nil,Builtin.max2]
   have:(if b > a then b else a) = max a b:=by rw [Int.max_def]; split <;> split <;> omega
   rw [this]; rfl
  ·rw [Int.max_def]; split
   ·exact h2.2
   ·exact h1.2
end
end Go.Sk
namespace Go.Sk
set_option linter.unusedSimpArgs false
set_option linter.unusedVariables false
open Go Go.ChangeShapes Go.WideShapes Go.ChangeAt Go.RowKit Go.Deep
theorem F6 (W:World):oI (full W) W:=fun _ _ _ h=>h
structure lb (P:Program) (t:TypeId) {α:Type} (e:α → List CP):Prop where
 len:∀ a,(e a).length = P.cellsOf t
 op:∀ {H:Type} {enc:TypeId × Value → H} {W:World} {sp:Nat → Bool} {held:Bool} {fuel:Nat} {cs:List Value} {x:DataW H × List MemPlace},(∀ b,sp b = true) → DataW.trod enc P W 0 sp held fuel t cs = some x → ∃ a,aA (full W) (e a) cs
theorem BM {k:IntKind} {n:Int} (h:(Lit.int k n).wf = true):kX k n:=by
 simp only [Lit.wf,Bool.and_eq_true,decide_eq_true_eq] at h
 exact h
theorem lb.int {P:Program} {t:TypeId} {k:IntKind} (ht:P.underlying t = some (.int k)) (hc:P.cellsOf t = 1):lb P t (fun x:Int=>[.int k x]) where
 len _:=by simp [hc]
 op _ h:=by
  obtain ⟨n,rfl,_,hw⟩:=DataW.trod_int ht h
  exact ⟨n,.cons ⟨rfl,BM hw⟩ .nil⟩
theorem lb.bool {P:Program} {t:TypeId} (ht:P.underlying t = some .bool) (hc:P.cellsOf t = 1):lb P t eB where
 len _:=by simp [hc,eB]
 op _ h:=by
  obtain ⟨n,rfl,_⟩:=DataW.trod_bool ht h
  exact ⟨n,.cons rfl .nil⟩
theorem lb.str {P:Program} {t:TypeId} (ht:P.underlying t = some .string) (hc:P.cellsOf t = 1):lb P t eS where
 len _:=by simp [hc,eS]
 op _ h:=by
  obtain ⟨s,rfl,_,hs⟩:=DataW.trod_string ht h
  refine ⟨s.data.toList,.cons ⟨?_,?_⟩ .nil⟩
  ·cases s with | mk d=>cases d; rfl
  ·simpa using hs
inductive sD (P:Program) (fs:Array Field) (T:Nat):Nat → Nat → {β:Type} → (β → List CP) → Prop where
 | nil {i:Nat} (hi:fs.size ≤ i):sD P fs T i T (fun _:Unit=>[])
 | cons {i o:Nat} {α β:Type} {e:α → List CP} {es:β → List CP} {f:Field} (hf:fs[i]? = some f) (ho:f.offset = o) (hr:lb P f.type e) (h:sD P fs T (i + 1) (o + P.cellsOf f.type) es):sD P fs T i o (fun x:α × β=>e x.1 ++ es x.2)
theorem sD.len {P:Program} {fs:Array Field} {T i o:Nat} {β:Type} {es:β → List CP} (h:sD P fs T i o es):∀ b,o + (es b).length = T:=by
 induction h with
 | nil hi=>intro b; simp
 | cons hf ho hr h ih=>intro b; have:=ih b.2; have h2:=hr.len b.1; simp only [List.length_append]; omega
theorem sD.op {P:Program} {fs:Array Field} {T i o:Nat} {β:Type} {es:β → List CP} (h:sD P fs T i o es) {H:Type} {enc:TypeId × Value → H} {W:World} {sp:Nat → Bool} {held:Bool} {n:Nat} {cs:List Value} {xs:List (DataW H × List MemPlace)} (hsp:∀ b,sp b = true) (hl:cs.length = T)
  (hx:xs.length = fs.size) (hv:∀ (j:Nat) (f:Field),fs[j]? = some f → DataW.trod enc P W 0 sp held n f.type ((cs.drop f.offset).take (P.cellsOf f.type)) = xs[j]?):∃ b,aA (full W) (es b) (cs.drop o):=by
 induction h with
 | nil hi=>exact ⟨(),by rw [List.drop_of_length_le (by omega)]; exact .nil⟩
 | @cons i o α β e es f hf ho hr h ih=>
  obtain ⟨b,hb⟩:=ih
  have hi:i < xs.length:=by
   rw [hx]
   exact (Array.getElem?_eq_some_iff.1 hf).1
  have h1:=hv i f hf
  rw [List.getElem?_eq_getElem hi] at h1
  obtain ⟨a,ha⟩:=hr.op hsp h1
  refine ⟨(a,b),?_⟩
  have e1:cs.drop o = (cs.drop o).take (P.cellsOf f.type) ++ cs.drop (o + P.cellsOf f.type):=by
   rw [← List.drop_drop,List.take_append_drop]
  rw [e1]
  subst ho
  exact aQ.append ha hb
theorem lb.struct {P:Program} {t:TypeId} {fs:Array Field} {α β:Type} {e:α → List CP} {es:β → List CP} (g:β → α) (ht:P.underlying t = some (.struct fs)) (h:sD P fs (P.cellsOf t) 0 0 es) (hl:∀ a,(e a).length = P.cellsOf t) (he:∀ b,e (g b) = es b):lb P t e where
 len:=hl
 op hsp hh:=by
  obtain ⟨xs,n,_,_,hcl,hxl,hv⟩:=DataW.trod_struct ht hh
  obtain ⟨b,hb⟩:=h.op hsp hcl hxl hv
  exact ⟨g b,by rw [he]; exact hb⟩
theorem iJ (b o n:Nat):(⟨b,o,none⟩:Addr).add n = ⟨b,o + n,none⟩:=by
 unfold Addr.add
 split
 ·simp_all
 ·rfl
theorem mM {α:Type} {p:Nat → α → Prop}:∀ (n:Nat),(∀ i,i < n → ∃ a,p i a) → ∃ l:List α,l.length = n ∧ ∀ (i:Nat) a,l[i]? = some a → p i a
 | 0,_=>⟨[],rfl,fun i a h=>by simp at h⟩
 | n + 1,h=>by
  obtain ⟨l,hl,hp⟩:=mM n fun i hi=>h i (by omega)
  obtain ⟨a,ha⟩:=h n (by omega)
  refine ⟨l ++ [a],by simp [hl],fun i b hb=>?_⟩
  by_cases hi:i < n
  ·rw [List.getElem?_append_left (by omega)] at hb; exact hp i b hb
  ·have hi2:i < (l ++ [a]).length:=(List.getElem?_eq_some_iff.1 hb).1
   have e:i = n:=by simp [hl] at hi2; omega
   subst e
   rw [List.getElem?_append_right (by omega)] at hb
   simp [hl] at hb
   subst hb; exact ha
theorem HP {P:Program} {W:World} {base:Nat} {t:TypeId} {k:IntKind} {v:Value} (ht:P.underlying t = some (.int k)) (hval:Value.okWide P W .any base t v):∃ n,(CP.int k n).rel (full W) v:=by
 simp only [Value.okWide,ht,Cell.okWide] at hval
 cases v <;> simp_all [Cell.ok]
 exact ⟨_,rfl,hval.2⟩
structure Kept (W W':World):Prop where
 os:W'.os = W.os
 out:W'.output = W.output
 heap:∀ b,b < W.heap.size → W'.heap[b]? = W.heap[b]?
theorem Kept.same {W W':World} (h:Kept W W') {p:MemPlace} (hp:p.block < W.heap.size):W.sameAt W' p:=by
 have:=h.heap _ hp
 cases p with
 | cell b o=>simp only [MemPlace.block] at this; simp [World.sameAt,World.cell?,this]
 | map b=>simp only [MemPlace.block] at this; simp [World.sameAt,this]
theorem Kept.keptBut {W W':World} (h:Kept W W') (may:MemPlace → Prop):W.keptBut W' may:=by
 refine ⟨h.os,h.out,fun i hi=>?_⟩
 rw [h.heap i hi]
 cases W.heap[i]? with
 | none=>rfl
 | some o=>cases o with
  | cells c t fr=>exact ⟨rfl,rfl,rfl,fun _ _=>rfl⟩
  | map es c=>exact .inr ⟨rfl,rfl⟩
  | _=>rfl
theorem uj {P:Program} {H:Type} {enc:TypeId × Value → H} {W W':World} {base:Nat} {sp:Nat → Bool} {held:Bool}:∀ {ts:List TypeId} {vs:List Value} {ds:List (DataW H)} {ps:List MemPlace},DataW.TrodAll enc P W base sp held ts vs ds ps → (∀ p ∈ ps,W.sameAt W' p) → DataW.TrodAll enc P W' base sp held ts vs ds ps
 | [],[],[],_,h,_=>h
 | _ :: _,_ :: _,_ :: _,_,⟨p,q,⟨n,h1⟩,h2,e⟩,hs=>⟨p,q,⟨n,DataW.trod_carry n _ _ _ h1 fun x hx=>hs x (by rw [e]; exact List.mem_append_left _ hx)⟩,uj h2 (fun x hx=>hs x (by rw [e]; exact List.mem_append_right _ hx)),e⟩
theorem CN {P:Program} {H:Type} {enc:TypeId × Value → H} {f:Func} {s:ChangeSpec} {apart fresh handsOn again:Bool} {W W':World} {args:Array Value} {v:Value} {ds gs:List (DataW H)} {before:List MemPlace}
  {T:TypeId → Prop} (K:Kids P T) (hz:∀ t e,T t → P.underlying t = some (.slice e) → 0 < P.cellsOf e) (hT:∀ t ∈ f.params.toList,T t)
  (hW:DataW.Whole enc P f.params.toList s.vars apart W args.toList ds gs before) (hv0:s.vars = [])
  (ha:(s.fn H (ds ++ gs)).args = ds) (hvv:(s.fn H (ds ++ gs)).vars = []) (hk:Kept W W')
  (hres:∀ (b:Nat) (sp:Nat → Bool) (hd:Bool),DataW.TrodAll enc P W' b sp hd f.resultTypes.toList (v.resultList f.resultTypes.size) (s.fn H (ds ++ gs)).results [])
  (hok:∀ (j:Nat) (t:TypeId) (r:Value),f.resultTypes[j]? = some t → (v.resultList f.resultTypes.size)[j]? = some r → Value.okWide P W' .any 0 t r) :
  s.post enc P f apart fresh handsOn again W args v W':=by
 have hlt:=hW.lt
 have hW2:=hW
 obtain ⟨p,q,h1,h2,rfl,hz2,hn⟩:=hW2
 rw [hv0] at h2
 obtain ⟨_,rfl⟩:=trodVars_none h2
 simp only [List.append_nil] at *
 have hcarry:DataW.TrodAll enc P W' 0 (fun _=>true) true f.params.toList args.toList ds p:=uj h1 fun x hx=>hk.same (hlt x hx)
 have hargs:∀ sp:Nat → Bool,(∀ x ∈ p,sp x.block = true) → DataW.TrodAll enc P W' 0 sp true f.params.toList args.toList (s.fn H (ds ++ gs)).args p:=fun sp hsp=>by
  rw [ha]; exact hcarry.respare K hz hT hsp
 have hvars:∀ sp:Nat → Bool,DataW.TrodVars enc P W' sp s.vars (s.fn H (ds ++ gs)).vars []:=fun sp=>by
  rw [hv0,hvv]; rfl
 have hold:∀ x ∈ p,(fun b=>decide (b < W.heap.size)) x.block = true:=fun x hx=>by simpa using hlt x hx
 refine ⟨ds,gs,p,[],p,[],hW,hres _ _ _,hargs _ hold,hvars _,hk.keptBut _,fun _=>?_⟩
 refine ⟨hok,_,_,([] ++ p) ++ [],⟨[] ++ p,[],trodAll_append (hargs _ (fun _ _=>rfl)) (hres _ _ _),hvars _,rfl,?_,?_⟩,?_⟩
 ·intro b off hp
  have hb:b < W.heap.size:=hlt (.cell b off) (by simpa using hp)
  have e:W'.frozen? ⟨b,off,none⟩ = W.frozen? ⟨b,off,none⟩:=by simp only [World.frozen?,hk.heap b hb]
  rw [e]
  exact hz2 b off (by simpa using hp)
 ·intro ha
  simpa using hn ha
 ·intro x hx _
  simpa using hx
theorem law_end {P:Program} {TB:aF} {f:FuncId} {args:List BV} {vals:List Value} {W:World} {Q:Ending → World → Prop} (hm:aG P TB f [] args (Is [] (B true))) (htb:cx TB (full W) W) (ha:aQ (fun (x:BV) v=>x.rel (full W) (fun _=>.bool false) v) args vals)
  (hQ:∀ W',Kept W W' → Q (.returned (.bool true)) W'):Calls P f vals.toArray W Q:=by
 refine (hm W (full W) (fun _=>.bool false) vals htb (F6 W) (fun k c h=>by simp at h) ha).mono ?_
 rintro e W' ⟨v,own',res,h',ρ',rfl,⟨rfl,rfl⟩,hw,hres⟩
 have hv:v = .bool true:=hres
 subst hv
 exact hQ W' ⟨hw.os,hw.out,fun b hb=>hw.same b hb (by simp [qR,ai])⟩
end Go.Sk
namespace Go.Sk
set_option linter.unusedSimpArgs false
set_option linter.unusedVariables false
open Go Go.BigFrame
section
variable {P:Program} {TB:aF} {E:Env TB} {n:Sh} {s s':St} {dst:Option Nat} {t ty yt:TypeId} {pos:String} {after:Array Edge} {g:Option (Nat × Bool)} {x y c:Operand} {ops:Array Oper} {l:List Oper} {Q:bF} {cd:Code}
theorem aA.Jc {h:PH} {size:Nat} (hz:0 < size):∀ {ps:List CP} {cs:List Value} (i:Nat),ps[i]? = some .nil → aA h ps cs → aA h (ps.set i (.sl size [])) cs
 | [],_,i,hi,hc=>by simp at hi
 | p :: ps,_,0,hi,.cons h1 h2=>by
  simp at hi; subst hi
  exact .cons ⟨fun q hq=>by simp at hq,hz,.inl ⟨h1.1,rfl⟩⟩ h2
 | p :: ps,_,i + 1,hi,.cons h1 h2=>.cons h1 (aA.Jc hz i (by simpa using hi) h2)
theorem R.oK {k i size:Nat} {T:TypeId} {ps:List CP} {a:Act} {w:World} (hr:R E n s a w) (hk:lk s.own k = some (.box T ps)) (hi:ps[i]? = some .nil) (hz:0 < size):R E n ⟨s.slots,ins k (.box T (ps.set i (.sl size []))) s.own⟩ a w:=by
 obtain ⟨h1,h2,h,ρ,hw,hs⟩:=hr
 refine ⟨h1,h2,h,ρ,⟨hw.agree,hw.le,hw.fresh,hw.size,hw.same,hw.fixed,hw.os,hw.out,hw.nl,?_⟩,hs⟩
 intro j x hx
 have hkk:=hw.owned k _ (bh hk)
 have back:∀ j' x',(j',x') ∈ ins k (OC.box T (ps.set i (.sl size []))) s.own → ∃ x'',(j',x'') ∈ s.own ∧ ∀ b,x'.du (ρ j') w b → x''.du (ρ j') w b:=fun j' x' hm=>by
  rcases iu hm with ⟨rfl,rfl⟩ | ⟨_,hm⟩
  ·exact ⟨_,bh hk,fun b hb=>hb⟩
  ·exact ⟨_,hm,fun b hb=>hb⟩
 rcases iu hx with ⟨rfl,rfl⟩ | ⟨hne,hm⟩
 ·refine ⟨?_,hkk.2.1,fun k' c' hm' hne=>?_⟩
  ·obtain ⟨b,cur,e1,e2,e3⟩:=hkk.1
   exact ⟨b,cur,e1,e2,e3.Jc hz i hi⟩
  ·obtain ⟨c'',hm'',hfo⟩:=back k' c' hm'
   exact fun b hb hb'=>hkk.2.2 k' c'' hm'' hne b hb (hfo b hb')
 ·have hj:=hw.owned j _ hm
  refine ⟨hj.1,hj.2.1,fun k' c' hm' hne=>?_⟩
  obtain ⟨c'',hm'',hfo⟩:=back k' c' hm'
  exact fun b hb hb'=>hj.2.2 k' c'' hm'' hne b hb (hfo b hb')
theorem Fin.oK {e:Exit} (k i size:Nat) {T:TypeId} {ps:List CP} (hk:lk s.own k = some (.box T ps)) (hi:ps[i]? = some .nil) (hz:0 < size) (h:Fin E n e ⟨s.slots,ins k (.box T (ps.set i (.sl size []))) s.own⟩ Q):Fin E n e s Q :=
 fun a w hr=>h a w (hr.oK hk hi hz)
end
section
variable {P:Program} {TB:aF} {E:Env TB} {n:Sh} {s s' s2:St} {l:List Oper} {Q:bF} {o:Oper}
end
end Go.Sk
namespace Go.Sk
set_option linter.unusedSimpArgs false
set_option linter.unusedVariables false
open Go Go.BigFrame
section
variable {P:Program} {TB:aF} {E:Env TB} {n:Sh} {s s':St} {dst:Option Nat} {t ty yt:TypeId} {pos:String} {after:Array Edge} {g:Option (Nat × Bool)} {x y c:Operand} {ops:Array Oper} {l:List Oper} {Q:bF} {cd:Code}
theorem wh {size:Nat}:∀ {es:List (List CP)},cb size es → ∀ i,(es.take i).flatten = es.flatten.take (i * size)
 | [],_,i=>by simp
 | p :: es,hu,0=>by simp
 | p :: es,hu,i + 1=>by
  have hp:p.length = size:=hu p (by simp)
  have ih:=wh (es:=es) (fun q hq=>hu q (by simp [hq])) i
  have e:(i + 1) * size = p.length + i * size:=by rw [Nat.add_mul,hp]; omega
  rw [List.take_succ_cons,List.flatten_cons,ih,List.flatten_cons,e,List.take_length_add_append]
theorem wB {size:Nat}:∀ {es:List (List CP)},cb size es → ∀ i,(es.drop i).flatten = es.flatten.drop (i * size)
 | [],_,i=>by simp
 | p :: es,hu,0=>by simp
 | p :: es,hu,i + 1=>by
  have hp:p.length = size:=hu p (by simp)
  have ih:=wB (es:=es) (fun q hq=>hu q (by simp [hq])) i
  have e:(i + 1) * size = p.length + i * size:=by rw [Nat.add_mul,hp]; omega
  rw [List.drop_succ_cons,ih,List.flatten_cons,e,List.drop_length_add_append]
end
end Go.Sk
namespace Go.Sk
set_option linter.unusedSimpArgs false
set_option linter.unusedVariables false
open Go Go.BigFrame
section
variable {P:Program} {TB:aF} {E:Env TB} {n:Sh} {s s':St} {dst:Option Nat} {t ty yt:TypeId} {pos:String} {after:Array Edge} {g:Option (Nat × Bool)} {x y c:Operand} {ops:Array Oper} {l:List Oper} {Q:bF} {cd:Code}
end
end Go.Sk
namespace Go.Sk
set_option linter.unusedSimpArgs false
set_option linter.unusedVariables false
open Go Go.BigFrame
structure Ext (P:Program) (f:FuncId) (e:Array Value → Sem Value):Prop where
 ok:∃ fn,P.funcs[f]? = some fn ∧ (fn.name == "runtime.NumGoroutine") = false ∧ fn.body.isNone = true ∧ Extern.findNext fn = none ∧ Extern.find fn = some e
theorem Ext.run {P:Program} {f:FuncId} {e:Array Value → Sem Value} (h:Ext P f e) (args:Array Value) (w:World):(callFunc f args).run P w = ((e args).run P w).andThen fun v w'=>.ok (.value v) w':=by
 obtain ⟨fn,h1,h2,h3,h4,h5⟩:=h.ok
 exact run_callFunc_extern h1 h2 h3 h4 h5 args w
section
variable {P:Program} {TB:aF} {E:Env TB} {n:Sh} {s s':St} {dst:Option Nat} {t ty yt:TypeId} {pos:String} {after:Array Edge} {g:Option (Nat × Bool)} {x y c:Operand} {ats:Array TypeId}
end
end Go.Sk
namespace Go.Sk
set_option linter.unusedSimpArgs false
set_option linter.unusedVariables false
open Go
section
variable {P:Program} {TB:aF} {E:Env TB} {n:Sh} {s s':St} {ops:Array Oper} {l:List Oper} {Q:bF}
end
end Go.Sk
namespace Go.Sk
set_option linter.unusedSimpArgs false
set_option linter.unusedVariables false
open Go
def bN {α β:Type} (a:α) (k:α → β):β:=k a
@[reducible] def wQ {α β γ:Type} (f:α → β → γ) (z:α × β):γ:=f z.1 z.2
@[reducible] def un3 {α β γ δ:Type} (f:α → β → γ → δ) (z:α × β × γ):δ:=f z.1 z.2.1 z.2.2
@[reducible] def un4 {α β γ δ ε:Type} (f:α → β → γ → δ → ε) (z:α × β × γ × δ):ε:=f z.1 z.2.1 z.2.2.1 z.2.2.2
@[reducible] def un5 {α β γ δ ε ζ:Type} (f:α → β → γ → δ → ε → ζ) (z:α × β × γ × δ × ε):ζ:=f z.1 z.2.1 z.2.2.1 z.2.2.2.1 z.2.2.2.2
@[reducible] def un6 {α β γ δ ε ζ η:Type} (f:α → β → γ → δ → ε → ζ → η) (z:α × β × γ × δ × ε × ζ):η:=f z.1 z.2.1 z.2.2.1 z.2.2.2.1 z.2.2.2.2.1 z.2.2.2.2.2
@[reducible] def un7 {α β γ δ ε ζ η θ:Type} (f:α → β → γ → δ → ε → ζ → η → θ) (z:α × β × γ × δ × ε × ζ × η):θ:=f z.1 z.2.1 z.2.2.1 z.2.2.2.1 z.2.2.2.2.1 z.2.2.2.2.2.1 z.2.2.2.2.2.2
@[reducible] def un8 {α β γ δ ε ζ η θ κ:Type} (f:α → β → γ → δ → ε → ζ → η → θ → κ) (z:α × β × γ × δ × ε × ζ × η × θ):κ:=f z.1 z.2.1 z.2.2.1 z.2.2.2.1 z.2.2.2.2.1 z.2.2.2.2.2.1 z.2.2.2.2.2.2.1 z.2.2.2.2.2.2.2
@[reducible] def un0 {γ:Type} (f:γ) (_:Unit):γ:=f
@[reducible] def ee {α β γ:Type} (f:α → γ) (g:β → γ) (z:α ⊕ β):γ:=match z with | .inl x=>f x | .inr y=>g y
def iter {σ τ:Type}:Nat → (σ → Option (σ ⊕ τ)) → σ → Option τ
 | 0,_,_=>none
 | n + 1,body,s=>(body s).bind (ee (iter n body) some)
def aH {α:Type} [Inhabited α] (xs:List α) (i:Int):Option α:=if 0 ≤ i ∧ i < xs.length then some (idx xs i) else none
def bV {α:Type} (xs ys:List α):Option (List α):=if xs.length + ys.length ≤ 1000000000 then some (xs ++ ys) else none
def rR {α:Type} (xs:List α) (i:Int):Option (List α):=if 0 ≤ i ∧ i ≤ xs.length then some (xs.drop i.toNat) else none
def sA {α:Type} (xs:List α) (i:Int):Option (List α):=if 0 ≤ i ∧ i ≤ xs.length then some (xs.take i.toNat) else none
def oF (k:IntKind) (a b:Int):Option Int:=if b = 0 then none else some (k.wrap (a.tdiv b))
def nD (a b:Int):Option Int:=if b = 0 then none else some (a.tmod b)
def bo {α:Type} [Inhabited α] (g:Bool) (m:Option α):Option α:=if g then m else some default
def Dj (b:Bool):Option Unit:=if b then some () else none
theorem aJ {α β:Type} {m:Option α} {k:α → Option β} {r:β} (h:m.bind k = some r):∃ x,m = some x ∧ k x = some r:=by
 cases m with
 | none=>simp at h
 | some x=>exact ⟨x,rfl,h⟩
theorem gc {α:Type} [Inhabited α] {g:Bool} {m:Option α} {x:α} (h:bo g m = some x) (hg:g = true):m = some x:=by subst hg; exact h
theorem fa {α:Type} [Inhabited α] {xs:List α} {i:Int} {x:α} (h:aH xs i = some x):0 ≤ i:=by
 unfold aH at h; split at h
 ·exact (by assumption:0 ≤ i ∧ _).1
 ·simp at h
theorem mO {α:Type} [Inhabited α] {xs:List α} {i:Int} {x:α} (h:aH xs i = some x):i < xs.length:=by
 unfold aH at h; split at h
 ·exact (by assumption:0 ≤ i ∧ _).2
 ·simp at h
theorem ix_eq {α:Type} [Inhabited α] {xs:List α} {i:Int} {x:α} (h:aH xs i = some x):idx xs i = x:=by
 unfold aH at h; split at h
 ·simpa using h
 ·simp at h
theorem oL {α:Type} [Inhabited α] {xs:List α} {i:Int} {x:α} (h:aH xs i = some x):xs[i.toNat]? = some x:=by
 rw [idx_eq (fa h) (mO h),ix_eq h]
theorem qW {α β:Type} [Inhabited α] {xs:List α} {i:Int} {x:α} {e:α → β} (h:aH xs i = some x):(xs.map e)[i.toNat]? = some (e x):=by
 rw [List.getElem?_map,oL h]; rfl
theorem ix_lt {α β:Type} [Inhabited α] {xs:List α} {i:Int} {x:α} {e:α → β} (h:aH xs i = some x):i.toNat < (xs.map e).length:=by
 have:=fa h; have:=mO h; simp; omega
theorem Ce {α β:Type} [Inhabited α] {xs:List α} {i:Int} {x:α} {e:α → β} (h:aH xs i = some x):i < ((xs.map e).length:Int):=by
 have:=mO h; simpa using this
theorem idx?_eq {α:Type} [Inhabited α] {xs:List α} {i:Int} (h0:0 ≤ i) (h1:i < xs.length):aH xs i = some (idx xs i):=by simp [aH,h0,h1]
theorem lh {α:Type} {xs ys z:List α} (h:bV xs ys = some z):xs.length + ys.length ≤ 1000000000:=by
 unfold bV at h; split at h
 ·assumption
 ·simp at h
theorem qf {α:Type} {xs ys z:List α} (h:bV xs ys = some z):xs ++ ys = z:=by
 unfold bV at h; split at h
 ·simpa using h
 ·simp at h
theorem pG {α:Type} {xs ys z:List α} {e:α → List CP} (h:bV xs ys = some z):xs.map e ++ ys.map e = z.map e:=by rw [← qf h,List.map_append]
theorem xP {α β:Type} {xs ys z:List α} {e:α → β} (h:bV xs ys = some z) {bytes:Nat} (hb:bytes ≤ 140737:=by decide):((xs.map e).length + (ys.map e).length) * bytes ≤ 140737488355328:=by
 have:=lh h
 simp only [List.length_map]
 calc (xs.length + ys.length) * bytes ≤ 1000000000 * 140737:=Nat.mul_le_mul this hb
  _ ≤ _:=by decide
theorem xO {α β:Type} {xs ys z:List α} {e:α → β} (h:bV xs ys = some z):(xs.map e).length + (ys.map e).length ≤ 9223372036854775807:=by
 have:=lh h
 simp only [List.length_map]; omega
theorem Hi {α:Type} {xs z:List α} {i:Int} (h:rR xs i = some z):0 ≤ i ∧ i ≤ xs.length ∧ xs.drop i.toNat = z:=by
 unfold rR at h; split at h
 ·next hh=>exact ⟨hh.1,hh.2,by simpa using h⟩
 ·simp at h
theorem GK {α:Type} {xs z:List α} {i:Int} (h:sA xs i = some z):0 ≤ i ∧ i ≤ xs.length ∧ xs.take i.toNat = z:=by
 unfold sA at h; split at h
 ·next hh=>exact ⟨hh.1,hh.2,by simpa using h⟩
 ·simp at h
theorem quo_ok {k:IntKind} {a b z:Int} (h:oF k a b = some z):b ≠ 0 ∧ k.wrap (a.tdiv b) = z:=by
 unfold oF at h; split at h
 ·simp at h
 ·exact ⟨by assumption,by simpa using h⟩
theorem rem_ok {a b z:Int} (h:nD a b = some z):b ≠ 0 ∧ a.tmod b = z:=by
 unfold nD at h; split at h
 ·simp at h
 ·exact ⟨by assumption,by simpa using h⟩
section
variable {σ τ:Type} {body:σ → Option (σ ⊕ τ)}
theorem xr {s:σ}:iter 0 body s = none:=rfl
theorem oC {n:Nat} {s:σ}:iter (n + 1) body s = (body s).bind (ee (iter n body) some):=rfl
theorem H3 (I:σ → Prop) (μ:σ → Nat) (bF:τ → Prop) (step:∀ s,I s → ∃ o,body s = some o ∧ (∀ s',o = .inl s' → I s' ∧ μ s' < μ s) ∧ ∀ t,o = .inr t → bF t) :
  ∀ (n:Nat) (s:σ),I s → μ s < n → ∃ t,iter n body s = some t ∧ bF t:=by
 intro n
 induction n with
 | zero=>intro s _ h; omega
 | succ n ih=>
  intro s hI hlt
  obtain ⟨o,ho,h1,h2⟩:=step s hI
  rw [oC,ho]
  cases o with
  | inl s'=>obtain ⟨hI',hm⟩:=h1 s' rfl; exact ih s' hI' (by omega)
  | inr t=>exact ⟨t,rfl,h2 t rfl⟩
end
theorem neg_dec {p:Prop} [Decidable p]:(!decide p) = decide (¬ p):=by simp
section
variable {P:Program} {TB:aF} {E:Env TB} {n:Sh} {ops:Array Oper} {l:List Oper} {s s':St} {Q:bF} {o:Oper} {c x y:Code}
theorem aj.Du {α:Type} (k:IntKind) {a:Int} {K:Int → Option α} {r:α} (h:bN a K = some r) (hg:o.guard = none) (h1:aR P E n o s (s.put n o.dst (.b (.one (.int k a)))))
  (H:∀ z,K z = some r → aj P E n ops l (s.put n o.dst (.b (.one (.int k z)))) Q):aj P E n ops (o :: l) s Q:=aj.cons hg h1 (H a h)
theorem aj.IQ {α:Type} {a:Bool} {K:Bool → Option α} {r:α} (h:bN a K = some r) (hg:o.guard = none) (h1:aR P E n o s (s.put n o.dst (.b (.one (.bool a)))))
  (H:∀ z,K z = some r → aj P E n ops l (s.put n o.dst (.b (.one (.bool z)))) Q):aj P E n ops (o :: l) s Q:=aj.cons hg h1 (H a h)
theorem ah.ite {α:Type} {t:Nat} {b:Bool} {A B:Option α} {r:α} (h:(if b = true then A else B) = some r) (hs:s.get t = some (.b (.one (.bool b)))) (h1:b = true → A = some r → ah P E n x s Q) (h2:b = false → B = some r → ah P E n y s Q):ah P E n (.cond (.tmp t) x y) s Q:=by
 refine ah.cond hs (fun e=>h1 e ?_) (fun e=>h2 e ?_)
 ·subst e; exact h
 ·subst e; exact h
theorem ah.oE {σ τ:Type} {v:τ} (S:σ → St) (al:σ → τ) (h1:ah P E n x s (Exit.then (fun a w=>∃ z,v = al z ∧ R E n (S z) a w) Q)) (h2:∀ z,v = al z → ah P E n y (S z) Q):ah P E n (.seq x y) s Q:=by
 refine ah.seq fun a w hr=>?_
 refine Code.wp_mono (fun e a' w' he=>?_) (h1 a w hr)
 cases e with
 | normal=>obtain ⟨z,hz,hr'⟩:=he; exact h2 z hz a' w' hr'
 | exit id=>exact he
 | goto l=>exact he
 | ret=>exact he
 | panic ch=>exact he
 | outgrown=>exact he
theorem Fin.join {σ τ:Type} {v:τ} {S:σ → St} {al:σ → τ} (ks kos:List Nat) (z:σ) (hv:al z = v) (hs:s.keep ks kos = S z):Fin E n .normal s (Exit.then (fun a w=>∃ z,v = al z ∧ R E n (S z) a w) Q) :=
 fun _ _ hr=>⟨z,hv.symm,hs ▸ hr.keep ks kos⟩
theorem ah.qw {σ τ:Type} {F:Nat} {body:σ → Option (σ ⊕ τ)} {s0:σ} {v:τ} (h:iter F body s0 = some v) (S:σ → St) (ks kos:List Nat) (hs:s.keep ks kos = S s0)
  (round:∀ z o,body z = some o → (∀ y,o = .inr y → y = v) → ah P E n c (S z) (Exit.then (fun a w=>∃ z',o = .inl z' ∧ R E n (S z') a w) Q)):ah P E n (.loop c) s Q:=by
 refine ah.keep ks kos hs ?_
 refine ah.loop (ι:=σ × Nat) (fun j=>S j.1) (fun j=>iter j.2 body j.1 = some v) (fun j=>j.2) (s0,F) h rfl ?_
 rintro ⟨z,m⟩ hj
 dsimp only at hj ⊢
 cases m with
 | zero=>simp [xr] at hj
 | succ m=>
  rw [oC] at hj
  obtain ⟨o,ho,hj⟩:=aJ hj
  intro a w hr
  refine Code.wp_mono (fun e a' w' he=>?_) (round z o ho (fun y hy=>by subst hy; exact Option.some.inj hj) a w hr)
  cases e with
  | normal=>obtain ⟨z',hz,hr'⟩:=he; subst hz; exact ⟨(z',m),hj,Nat.lt_succ_self m,hr'⟩
  | exit id=>exact he
  | goto l=>exact he
  | ret=>exact he
  | panic ch=>exact he
  | outgrown=>exact he
theorem Fin.jM {σ τ:Type} {o:σ ⊕ τ} {S:σ → St} (ks kos:List Nat) (z:σ) (hv:.inl z = o) (hs:s.keep ks kos = S z):Fin E n .normal s (Exit.then (fun a w=>∃ z',o = .inl z' ∧ R E n (S z') a w) Q) :=
 fun _ _ hr=>⟨z,hv.symm,hs ▸ hr.keep ks kos⟩
end
end Go.Sk
