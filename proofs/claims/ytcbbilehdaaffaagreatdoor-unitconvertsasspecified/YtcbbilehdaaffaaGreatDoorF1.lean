/- part of the proof: the framework -/
import Derived.WalkKit
import Derived.ProofKit
import Derived.BigCall
import Derived.Laws.Cover3
import Derived.OpenShut
import Derived.ReadAgain
import Derived.Deep.Slices
import Derived.JoinedCond
import Derived.Handed
import Derived.Lib.AppendZerosOnto
import Derived.Lib.Overlaps
namespace Go.Sk
set_option linter.unusedSimpArgs false
set_option linter.unusedVariables false
open Go
abbrev PH:=Nat → Nat → Option Value
def PH.le (h h':PH):Prop:=∀ b o v,h b o = some v → h' b o = some v
theorem PH.le_refl (h:PH):h.le h:=fun _ _ _ x=>x
theorem PH.le_trans {a b c:PH} (x:a.le b) (y:b.le c):a.le c:=fun _ _ _ z=>y _ _ _ (x _ _ _ z)
def tK (h:PH) (w:World):Prop:=∀ b o v,h b o = some v → w.cell? ⟨b,o,none⟩ = some v
def rW (k:IntKind) (n:Int):Prop:=k.min ≤ n ∧ n ≤ k.max
structure CP where
 rel:PH → Value → Prop
 mono:∀ {h h':PH} {v:Value},h.le h' → rel h v → rel h' v
 one:∀ {h:PH} {v:Value},rel h v → v.oneCell' = true
def CP.int (k:IntKind) (n:Int):CP:=⟨fun _ v=>v = .int k n ∧ rW k n,fun _ x=>x,fun x=>by rw [x.1]; rfl⟩
def CP.bool (b:Bool):CP:=⟨fun _ v=>v = .bool b,fun _ x=>x,fun x=>by rw [x]; rfl⟩
abbrev bg:=List UInt8
def CP.str (s:bg):CP:=⟨fun _ v=>v = .string ⟨⟨s⟩⟩ ∧ s.length ≤ maxLen,fun _ x=>x,fun x=>by rw [x.1]; rfl⟩
def CP.raw (u:Value):CP:=⟨fun _ v=>v = u ∧ u.oneCell' = true,fun _ x=>x,fun x=>by rw [x.1]; exact x.2⟩
def CP.any:CP:=⟨fun _ v=>v.oneCell' = true,fun _ x=>x,fun x=>x⟩
def Reads (h:PH) (b o:Nat) (ps:List CP):Prop:=∀ (j:Nat) (c:CP),ps[j]? = some c → ∃ u,h b (o + j) = some u ∧ c.rel h u
theorem Reads.mono {h h':PH} {b o:Nat} {ps:List CP} (hl:h.le h') (x:Reads h b o ps):Reads h' b o ps :=
 fun j c hc=>let ⟨u,hu,hr⟩:=x j c hc; ⟨u,hl _ _ _ hu,c.mono hl hr⟩
theorem Reads.drop {h:PH} {b o:Nat} {ps:List CP} (x:Reads h b o ps) (n:Nat):Reads h b (o + n) (ps.drop n):=by
 intro j c hc
 rw [List.getElem?_drop] at hc
 obtain ⟨u,hu,hr⟩:=x _ _ hc
 exact ⟨u,by rw [Nat.add_assoc]; exact hu,hr⟩
def eC (size:Nat) (es:List (List CP)):Prop:=∀ ps ∈ es,ps.length = size
def CP.sl (size:Nat) (es:List (List CP)):CP :=
  ⟨fun h v=>eC size es ∧ 0 < size ∧ ((v = .slice none 0 0 ∧ es = []) ∨
      ∃ b o c,v = .slice (some ⟨b,o,none⟩) es.length c ∧ es.length ≤ c ∧ c ≤ maxLen ∧ Reads h b o es.flatten),
   fun hl x=>⟨x.1,x.2.1,x.2.2.imp id fun ⟨b,o,c,h1,h2,h3,h4⟩=>⟨b,o,c,h1,h2,h3,h4.mono hl⟩⟩,
   fun x=>by rcases x.2.2 with ⟨h,_⟩ | ⟨_,_,_,h,_⟩ <;> rw [h] <;> rfl⟩
def CP.nil:CP:=CP.raw (.slice none 0 0)
theorem mg {size:Nat}:∀ {es:List (List CP)},eC size es → ∀ (i:Nat) (ps:List CP),es[i]? = some ps → ∀ j,j < size → es.flatten[i * size + j]? = ps[j]?
 | [],_,i,ps,hi,_,_=>by simp at hi
 | p :: es,hu,0,ps,hi,j,hj=>by
  have hp:p.length = size:=hu p (by simp)
  simp at hi; subst hi
  simp only [List.flatten_cons,Nat.zero_mul,Nat.zero_add]
  rw [List.getElem?_append_left (by omega)]
 | p :: es,hu,i + 1,ps,hi,j,hj=>by
  have hp:p.length = size:=hu p (by simp)
  have ih:=mg (es:=es) (fun q hq=>hu q (by simp [hq])) i ps (by simpa using hi) j hj
  have e:(i + 1) * size + j = size + (i * size + j):=by rw [Nat.add_mul]; omega
  rw [List.flatten_cons,List.getElem?_append_right (by omega),hp,e,Nat.add_sub_cancel_left,ih]
theorem km {size:Nat}:∀ {es:List (List CP)},eC size es → es.flatten.length = es.length * size
 | [],_=>by simp
 | p :: es,hu=>by
  have hp:p.length = size:=hu p (by simp)
  rw [List.flatten_cons,List.length_append,km (es:=es) (fun q hq=>hu q (by simp [hq])),hp,List.length_cons,Nat.add_mul]; omega
theorem Reads.elem {h:PH} {b o size:Nat} {es:List (List CP)} (hu:eC size es) (x:Reads h b o es.flatten) (i:Nat) (ps:List CP) (hi:es[i]? = some ps) :
  Reads h b (o + i * size) ps:=by
 intro j c hc
 have hl:ps.length = size:=hu ps (List.mem_of_getElem? hi)
 have hj:j < size:=by rw [← hl]; exact (List.getElem?_eq_some_iff.1 hc).1
 have:=mg hu i ps hi j hj
 obtain ⟨u,hu',hr⟩:=x (i * size + j) c (by rw [this]; exact hc)
 exact ⟨u,by rw [Nat.add_assoc]; exact hu',hr⟩
inductive CV where
 | one (p:CP)
 | ptr (k off:Nat)
 | row (k:Nat)
inductive BV where
 | one (p:CP)
 | agg (ps:List CP)
 | ptr (k off:Nat)
 | row (k:Nat)
 | j2 (k off:Nat)
 | part (k size lo len c:Nat)
 | qn (ps:List CP)
 | s9 (k off len c:Nat)
 | pY (f:Nat) (fs cs:List CV)
inductive SV where
 | b (x:BV)
 | fE (l:List BV)
 | dA (c:Bool) (x:BV)
 | n8 (l:List BV)
inductive bT {α β:Type} (r:α → β → Prop):List α → List β → Prop
 | nil:bT r [] []
 | cons {a:α} {b:β} {as:List α} {bs:List β} (h:r a b) (t:bT r as bs):bT r (a :: as) (b :: bs)
namespace bT
variable {α β:Type} {r r':α → β → Prop} {as:List α} {bs:List β}
theorem length (h:bT r as bs):as.length = bs.length:=by induction h <;> simp_all
theorem mono (h:bT r as bs) (hr:∀ a b,r a b → r' a b):bT r' as bs:=by
 induction h with
 | nil=>exact .nil
 | cons h _ ih=>exact .cons (hr _ _ h) ih
theorem get (h:bT r as bs):∀ (i:Nat) (a:α),as[i]? = some a → ∃ b,bs[i]? = some b ∧ r a b:=by
 induction h with
 | nil=>intro i a hi; simp at hi
 | cons h _ ih=>
  intro i a hi
  cases i with
  | zero=>simp at hi; subst hi; exact ⟨_,by simp,h⟩
  | succ i=>simpa using ih i a (by simpa using hi)
theorem tN:∀ {as:List α} {bs:List β},as.length = bs.length → (∀ (i:Nat) (a:α) (b:β),as[i]? = some a → bs[i]? = some b → r a b) → bT r as bs
 | [],[],_,_=>.nil
 | [],_ :: _,h,_=>by simp at h
 | _ :: _,[],h,_=>by simp at h
 | a :: as,b :: bs,h,hr=>.cons (hr 0 a b (by simp) (by simp)) (tN (by simpa using h) fun i x y hx hy=>hr (i + 1) x y (by simpa using hx) (by simpa using hy))
theorem append {as':List α} {bs':List β} (h:bT r as bs) (h':bT r as' bs'):bT r (as ++ as') (bs ++ bs'):=by
 induction h with
 | nil=>exact h'
 | cons h _ ih=>exact .cons h ih
theorem take (h:bT r as bs) (n:Nat):bT r (as.take n) (bs.take n):=by
 induction h generalizing n with
 | nil=>simp; exact .nil
 | cons h _ ih=>cases n with
  | zero=>simp; exact .nil
  | succ n=>simp; exact .cons h (ih n)
theorem drop (h:bT r as bs) (n:Nat):bT r (as.drop n) (bs.drop n):=by
 induction h generalizing n with
 | nil=>simp; exact .nil
 | cons h t ih=>cases n with
  | zero=>simp; exact .cons h t
  | succ n=>simpa using ih n
theorem set (h:bT r as bs) (i:Nat) {a:α} {b:β} (hr:r a b):bT r (as.set i a) (bs.set i b):=by
 induction h generalizing i with
 | nil=>simp; exact .nil
 | cons h t ih=>cases i with
  | zero=>simp; exact .cons hr t
  | succ i=>simp; exact .cons h (ih i)
theorem BO (h:bT r as bs) {b:β} (hb:b ∈ bs):∃ a,a ∈ as ∧ r a b:=by
 induction h with
 | nil=>simp at hb
 | cons h _ ih=>
  cases List.mem_cons.1 hb with
  | inl e=>subst e; exact ⟨_,by simp,h⟩
  | inr e=>obtain ⟨a,ha,hr⟩:=ih e; exact ⟨a,by simp [ha],hr⟩
end bT
def bd (h:PH) (ps:List CP) (cs:List Value):Prop:=bT (fun (c:CP) v=>c.rel h v) ps cs
theorem bd.mono {h h':PH} {ps:List CP} {cs:List Value} (hl:h.le h') (x:bd h ps cs):bd h' ps cs:=bT.mono x fun c _=>c.mono hl
theorem bd.one {h:PH} {ps:List CP} {cs:List Value} (x:bd h ps cs):∀ u ∈ cs,u.oneCell' = true:=fun _ hv=>let ⟨c,_,hc⟩:=bT.BO x hv; c.one hc
abbrev RM:=Nat → Value
def CV.rel (h:PH) (ρ:RM):CV → Value → Prop
 | .one p,v=>p.rel h v
 | .ptr k off,v=>∃ b,ρ k = .pointer (some ⟨b,0,none⟩) ∧ v = .pointer (some ⟨b,off,none⟩)
 | .row k,v=>v = ρ k
def CV.cI (k:Nat):CV → Bool
 | .ptr j _ | .row j=>j == k
 | _=>false
theorem CV.mono {h h':PH} {ρ ρ':RM} (hl:h.le h') {x:CV} (hρ:∀ k,x.cI k = true → ρ' k = ρ k) {v:Value} (hx:x.rel h ρ v):x.rel h' ρ' v:=by
 cases x with
 | one p=>exact p.mono hl hx
 | ptr k off=>have:=hρ k (by simp [CV.cI]); simpa [CV.rel,this] using hx
 | row k=>have:=hρ k (by simp [CV.cI]); simpa [CV.rel,this] using hx
theorem CV.Ck {h h':PH} {ρ ρ':RM} (hl:h.le h'):∀ {l:List CV} {vs:List Value},(∀ k,l.any (·.cI k) = true → ρ' k = ρ k) → bT (fun (x:CV) v=>x.rel h ρ v) l vs → bT (fun (x:CV) v=>x.rel h' ρ' v) l vs
 | _,_,_,.nil=>.nil
 | _,_,hρ,.cons h1 t=>.cons (CV.mono hl (fun k hk=>hρ k (by simp [hk])) h1) (CV.Ck hl (fun k hk=>hρ k (by simp only [List.any_cons,hk,Bool.or_true])) t)
def BV.rel (h:PH) (ρ:RM):BV → Value → Prop
 | .one p,v=>p.rel h v
 | .agg ps,v=>∃ cs,v = .agg cs ∧ bd h ps cs.toList
 | .ptr k off,v=>∃ b,ρ k = .pointer (some ⟨b,0,none⟩) ∧ v = .pointer (some ⟨b,off,none⟩)
 | .row k,v=>v = ρ k
 | .j2 k off,v=>∃ b n c,ρ k = .slice (some ⟨b,0,none⟩) n c ∧ v = .pointer (some ⟨b,off,none⟩)
 | .part k size lo len c,v=>∃ b n,ρ k = .slice (some ⟨b,0,none⟩) n c ∧ v = .slice (some ⟨b,lo * size,none⟩) len (c - lo) ∧ lo + len ≤ c
 | .qn ps,v=>∃ b o,v = .pointer (some ⟨b,o,none⟩) ∧ Reads h b o ps
 | .s9 k off len c,v=>∃ b,ρ k = .pointer (some ⟨b,0,none⟩) ∧ v = .slice (some ⟨b,off,none⟩) len c
 | .pY f fs cs,v=>∃ a b,v = .func (.func f) a b ∧ bT (fun (x:CV) u=>x.rel h ρ u) fs a.toList ∧ bT (fun (x:CV) u=>x.rel h ρ u) cs b.toList
def SV.rel (h:PH) (ρ:RM):SV → Value → Prop
 | .b x,v=>x.rel h ρ v
 | .fE l,v=>∃ vs,v = .tuple vs ∧ bT (fun (x:BV) u=>x.rel h ρ u) l vs.toList
 | .dA c x,v=>(c = true → x.rel h ρ v) ∧ (c = false → v = undef)
 | .n8 l,v=>∃ vs,v = .agg vs ∧ bT (fun (x:BV) u=>x.rel h ρ u ∧ u.oneCell' = true) l vs.toList
def BV.cI (k:Nat):BV → Bool
 | .ptr j _ | .row j | .j2 j _ | .part j _ _ _ _ | .s9 j _ _ _=>j == k
 | .pY _ fs cs=>fs.any (·.cI k) || cs.any (·.cI k)
 | _=>false
def SV.cI (k:Nat):SV → Bool
 | .b x=>x.cI k
 | .fE l=>l.any (·.cI k)
 | .n8 l=>l.any (·.cI k)
 | .dA _ x=>x.cI k
theorem BV.mono {h h':PH} {ρ ρ':RM} (hl:h.le h') {x:BV} (hρ:∀ k,x.cI k = true → ρ' k = ρ k) {v:Value} (hx:x.rel h ρ v):x.rel h' ρ' v:=by
 cases x with
 | one p=>exact p.mono hl hx
 | agg ps=>obtain ⟨cs,e,hc⟩:=hx; exact ⟨cs,e,hc.mono hl⟩
 | ptr k off=>have:=hρ k (by simp [BV.cI]); simpa [BV.rel,this] using hx
 | row k=>have:=hρ k (by simp [BV.cI]); simpa [BV.rel,this] using hx
 | j2 k off=>have:=hρ k (by simp [BV.cI]); simpa [BV.rel,this] using hx
 | part k _ _ _ _=>have:=hρ k (by simp [BV.cI]); simpa [BV.rel,this] using hx
 | qn ps=>obtain ⟨b,o,e,hr⟩:=hx; exact ⟨b,o,e,hr.mono hl⟩
 | s9 k off len c=>have:=hρ k (by simp [BV.cI]); simpa [BV.rel,this] using hx
 | pY f fs cs=>
  obtain ⟨a,b,e,h1,h2⟩:=hx
  exact ⟨a,b,e,CV.Ck hl (fun k hk=>hρ k (by simp only [BV.cI,hk,Bool.true_or])) h1,CV.Ck hl (fun k hk=>hρ k (by simp only [BV.cI,hk,Bool.or_true])) h2⟩
theorem SV.mono {h h':PH} {ρ ρ':RM} (hl:h.le h') {x:SV} (hρ:∀ k,x.cI k = true → ρ' k = ρ k) {v:Value} (hx:x.rel h ρ v):x.rel h' ρ' v:=by
 cases x with
 | b x=>exact BV.mono hl hρ hx
 | dA c x=>exact ⟨fun hc=>BV.mono hl hρ (hx.1 hc),hx.2⟩
 | fE l=>
  obtain ⟨vs,e,ha⟩:=hx
  refine ⟨vs,e,?_⟩
  have hρ':∀ k,(l.any (·.cI k)) = true → ρ' k = ρ k:=hρ
  clear hρ e
  generalize vs.toList = vl at ha
  induction ha with
  | nil=>exact .nil
  | cons h' t ih=>
   refine .cons (BV.mono hl (fun k hk=>hρ' k (by simp [hk])) h') (ih fun k hk=>hρ' k (by simp only [List.any_cons,hk,Bool.or_true]))
 | n8 l=>
  obtain ⟨vs,e,ha⟩:=hx
  refine ⟨vs,e,?_⟩
  have hρ':∀ k,(l.any (·.cI k)) = true → ρ' k = ρ k:=hρ
  clear hρ e
  generalize vs.toList = vl at ha
  induction ha with
  | nil=>exact .nil
  | cons h' t ih=>
   refine .cons ⟨BV.mono hl (fun k hk=>hρ' k (by simp [hk])) h'.1,h'.2⟩ (ih fun k hk=>hρ' k (by simp only [List.any_cons,hk,Bool.or_true]))
inductive OC where
 | box (T:TypeId) (ps:List CP)
 | row (T:TypeId) (size:Nat) (es:List (List CP))
 | k9 (T:TypeId) (size:Nat) (es:List (List CP))
 | n7 (T:TypeId) (cs:List BV)
 | mp (es:List (CP × BV))
 | s8 (s:bg) (pos:Nat)
def cq:Value → Option Nat
 | .pointer (some a)=>some a.block
 | .slice (some a) _ _=>some a.block
 | .map (some b)=>some b
 | _=>none
def OC.xh:OC → Bool
 | .box _ _=>true
 | .n7 _ _=>true
 | .k9 _ _ _=>true
 | .mp _=>true
 | .s8 _ _=>true
 | _=>false
def OC.cI (k:Nat):OC → Bool
 | .n7 _ cs=>cs.any (·.cI k)
 | .mp es=>es.any (·.2.cI k)
 | _=>false
def jo (k:Nat) (own:List (Nat × OC)):Bool:=own.all fun p=>!p.2.cI k
theorem vw {k:Nat} {own:List (Nat × OC)} (h:jo k own = true) {j:Nat} {c:OC} (hm:(j,c) ∈ own):c.cI k = false:=by
 have:=List.all_eq_true.1 h _ hm
 simpa using this
def jW (h:PH) (ρ:RM) (es:List (CP × BV)) (ms:List MapEntry):Prop:=bT (fun (p:CP × BV) (e:MapEntry)=>p.1.rel h e.key ∧ p.2.rel h ρ e.val) es ms
def tZ (clk:Nat) (ms:List MapEntry):Prop:=(∀ e ∈ ms,e.born < clk) ∧ (ms.map (·.born)).Nodup
def OC.ok (h:PH) (ρ:RM) (v:Value) (w:World):OC → Prop
 | .box T ps=>∃ b cur,v = .pointer (some ⟨b,0,none⟩) ∧ w.heap[b]? = some (.cells cur T (0,0)) ∧ bd h ps cur.toList
 | .row T size es=>eC size es ∧ 0 < size ∧ ∃ xs,w.ownsRow 0 T size v es.length xs ∧ bd h es.flatten xs
 | .k9 T size es=>eC size es ∧ 0 < size ∧ ∃ xs,w.ownsRow 0 T size v es.length xs ∧ bd h es.flatten xs
 | .n7 T cs=>∃ b cur,v = .pointer (some ⟨b,0,none⟩) ∧ w.heap[b]? = some (.cells cur T (0,0)) ∧ bT (fun (z:BV) u=>z.rel h ρ u ∧ u.oneCell' = true) cs cur.toList
 | .mp es=>∃ b ms clk,v = .map (some b) ∧ w.heap[b]? = some (.map ms clk) ∧ jW h ρ es ms.toList ∧ tZ clk ms.toList
 | .s8 s pos=>∃ b,v = .pointer (some ⟨b,0,none⟩) ∧ w.heap[b]? = some (.stringIter ⟨⟨s⟩⟩ pos) ∧ s.length ≤ maxLen
theorem OC.ok.ren {c:OC} {h:PH} {ρ ρ':RM} {v:Value} {w:World} (hc:c.ok h ρ v w) (hu:∀ j,c.cI j = true → ρ' j = ρ j):c.ok h ρ' v w:=by
 cases c with
 | box T ps=>exact hc
 | row T size es=>exact hc
 | k9 T size es=>exact hc
 | s8 q pos=>exact hc
 | mp es=>
  obtain ⟨b,ms,clk,e1,e2,ha,e3⟩:=hc
  refine ⟨b,ms,clk,e1,e2,?_,e3⟩
  clear e2 e3
  have hu':∀ j,(es.any (·.2.cI j)) = true → ρ' j = ρ j:=hu
  clear hu
  unfold jW at ha ⊢
  generalize ms.toList = l at ha
  induction ha with
  | nil=>exact .nil
  | cons h1 t ih=>exact .cons ⟨h1.1,BV.mono (PH.le_refl _) (fun k hk=>hu' k (by simp [hk])) h1.2⟩ (ih fun k hk=>hu' k (by simp only [List.any_cons,hk,Bool.or_true]))
 | n7 T cs=>
  obtain ⟨b,cur,e1,e2,ha⟩:=hc
  refine ⟨b,cur,e1,e2,?_⟩
  clear e2
  have hu':∀ j,(cs.any (·.cI j)) = true → ρ' j = ρ j:=hu
  clear hu
  generalize cur.toList = l at ha
  induction ha with
  | nil=>exact .nil
  | cons h1 t ih=>exact .cons ⟨BV.mono (PH.le_refl _) (fun k hk=>hu' k (by simp [hk])) h1.1,h1.2⟩ (ih fun k hk=>hu' k (by simp only [List.any_cons,hk,Bool.or_true]))
def lk {α:Type}:List (Nat × α) → Nat → Option α
 | [],_=>none
 | (j,x) :: l,k=>if k == j then some x else lk l k
def del {α:Type} (k:Nat):List (Nat × α) → List (Nat × α)
 | []=>[]
 | (j,x) :: l=>if k == j then del k l else (j,x) :: del k l
theorem dl {α:Type} {k:Nat} {x:α}:∀ {l:List (Nat × α)},lk l k = some x → (k,x) ∈ l
 | [],h=>by simp [lk] at h
 | (j,y) :: l,h=>by
  unfold lk at h
  split at h
  ·rename_i e
   have e':k = j:=by simpa using e
   subst e'
   cases h
   exact List.mem_cons_self
  ·exact List.mem_cons_of_mem _ (dl h)
theorem gy {α:Type} {k:Nat}:∀ {l:List (Nat × α)} {p:Nat × α},p ∈ del k l → p ∈ l ∧ p.1 ≠ k
 | [],p,h=>by simp [del] at h
 | (j,y) :: l,p,h=>by
  unfold del at h
  split at h
  ·exact ⟨List.mem_cons_of_mem _ (gy h).1,(gy h).2⟩
  ·rename_i e
   cases List.mem_cons.1 h with
   | inl e'=>subst e'; exact ⟨List.mem_cons_self,fun h'=>e (by simp [← h'])⟩
   | inr e'=>exact ⟨List.mem_cons_of_mem _ (gy e').1,(gy e').2⟩
theorem jP {α:Type} {k:Nat}:∀ {l:List (Nat × α)} {p:Nat × α},p ∈ l → p.1 ≠ k → p ∈ del k l
 | (j,y) :: l,p,h,hk=>by
  unfold del
  cases List.mem_cons.1 h with
  | inl e=>
   subst e
   have:(k == j) = false:=by
    cases h':k == j with
    | false=>rfl
    | true=>exact absurd (by simpa using h':k = j).symm hk
   rw [this]
   exact List.mem_cons_self
  | inr e=>
   split
   ·exact jP e hk
   ·exact List.mem_cons_of_mem _ (jP e hk)
structure St where
 slots:List (Nat × SV)
 own:List (Nat × OC)
abbrev cG:=List (Nat × List Value)
def dR (TB:cG) (h:PH) (w:World):Prop:=∀ g cs,(g,cs) ∈ TB → 0 < cs.length ∧ (∀ o v,cs[o]? = some v → h g o = some v) ∧ ∃ T fz,w.heap[g]? = some (.cells cs.toArray T fz)
structure Env (TB:cG) where
 w0:World
 h0:PH
 ρ0:RM
 tb:dR TB h0 w0
structure Sh where
 n:Nat
 fix:List Nat
 lnd:List Nat:=[]
def uT {TB:cG} (E:Env TB) (n:Sh) (b:Nat):Prop:=∃ k,k ∈ n.lnd ∧ cq (E.ρ0 k) = some b
def OwnOk {TB:cG} (E:Env TB) (n:Sh) (own:List (Nat × OC)) (h:PH) (ρ:RM) (w:World):Prop :=
 ∀ k c,(k,c) ∈ own → c.ok h ρ (ρ k) w ∧ (∀ b,cq (ρ k) = some b → (E.w0.heap.size ≤ b ∨ uT E n b) ∧ ∀ o,h b o = none) ∧
  ∀ k' c',(k',c') ∈ own → k' ≠ k → ∀ b,cq (ρ k) = some b → cq (ρ k') ≠ some b
structure WR {TB:cG} (E:Env TB) (n:Sh) (own:List (Nat × OC)) (h:PH) (ρ:RM) (w:World):Prop where
 agree:tK h w
 le:E.h0.le h
 fresh:∀ b,b < E.w0.heap.size → ¬ uT E n b → h b = E.h0 b
 size:E.w0.heap.size ≤ w.heap.size
 same:∀ b,b < E.w0.heap.size → ¬ uT E n b → w.heap[b]? = E.w0.heap[b]?
 fixed:∀ k,k ∈ n.fix → ρ k = E.ρ0 k
 os:w.os = E.w0.os
 out:w.output = E.w0.output
 nl:∀ b,uT E n b → ∀ o,E.h0 b o = none
 owned:OwnOk E n own h ρ w
def ck (h:PH) (ρ:RM) (slots:List (Nat × SV)) (tmps:Array Value):Prop:=∀ k x,(k,x) ∈ slots → ∃ v,tmps[k]? = some v ∧ x.rel h ρ v
structure R {TB:cG} (E:Env TB) (n:Sh) (s:St) (a:Act) (w:World):Prop where
 defers:a.defers = []
 size:a.tmps.size = n.n
 rest:∃ h ρ,WR E n s.own h ρ w ∧ ck h ρ s.slots a.tmps
def St.get (s:St) (k:Nat):Option SV:=lk s.slots k
def St.set (n d:Nat) (x:SV) (s:St):St:=if d < n then ⟨(d,x) :: del d s.slots,s.own⟩ else s
def St.put (n:Sh) (dst:Option Nat) (x:SV) (s:St):St:=match dst with | some d=>s.set n.n d x | none=>s
def sx {α:Type}:List Nat → List (Nat × α) → List (Nat × α)
 | [],_=>[]
 | k :: ks,l=>match lk l k with
  | some x=>(k,x) :: sx ks l
  | none=>sx ks l
def St.ik (ks kos:List Nat) (s:St):St:=⟨sx ks s.slots,sx kos s.own⟩
theorem mT {α:Type} {l:List (Nat × α)} {p:Nat × α}:∀ {ks:List Nat},p ∈ sx ks l → p ∈ l
 | [],h=>by simp [sx] at h
 | k :: ks,h=>by
  unfold sx at h
  split at h
  ·rename_i x hx
   cases List.mem_cons.1 h with
   | inl e=>subst e; exact dl hx
   | inr e=>exact mT e
  ·exact mT h
theorem WR.bj {TB:cG} {E:Env TB} {n:Sh} {own:List (Nat × OC)} {h:PH} {ρ:RM} {w:World} (hw:WR E n own h ρ w):dR TB h w:=by
 intro g cs hm
 obtain ⟨h1,h2,T,fz,h3⟩:=E.tb g cs hm
 refine ⟨h1,fun o v hv=>hw.le _ _ _ (h2 o v hv),T,fz,?_⟩
 have hlt:g < E.w0.heap.size:=by
  rcases Nat.lt_or_ge g E.w0.heap.size with h | h
  ·exact h
  ·simp [Array.getElem?_eq_none h] at h3
 rw [hw.same g hlt fun hl=>?_]
 ·exact h3
 ·have e0:cs[0]? = some cs[0]:=by simp [h1]
  have:=h2 0 _ e0
  rw [hw.nl g hl 0] at this
  simp at this
theorem WR.sub {TB:cG} {E:Env TB} {n:Sh} {own own':List (Nat × OC)} {h:PH} {ρ:RM} {w:World} (hw:WR E n own h ρ w) (hs:∀ p,p ∈ own' → p ∈ own):WR E n own' h ρ w :=
 ⟨hw.agree,hw.le,hw.fresh,hw.size,hw.same,hw.fixed,hw.os,hw.out,hw.nl,fun j c hj=>by
  obtain ⟨h1,h2,h3⟩:=hw.owned j c (hs _ hj)
  exact ⟨h1,h2,fun j' c' hj'=>h3 j' c' (hs _ hj')⟩⟩
theorem ck.set {h:PH} {ρ:RM} {slots:List (Nat × SV)} {tmps:Array Value} {n d:Nat} {x:SV} {v:Value} (hs:ck h ρ slots tmps) (hn:tmps.size = n) (hd:d < n) (hx:x.rel h ρ v) :
  ck h ρ ((d,x) :: del d slots) (tmps.setIfInBounds d v):=by
 intro k y hy
 cases List.mem_cons.1 hy with
 | inl e=>
  obtain ⟨rfl,rfl⟩:=Prod.mk.inj e
  exact ⟨v,by simp [hn,hd],hx⟩
 | inr e=>
  obtain ⟨h1,h2⟩:=gy e
  obtain ⟨u,hu,hr⟩:=hs k y h1
  refine ⟨u,?_,hr⟩
  rw [Array.getElem?_setIfInBounds_ne (fun e=>h2 e.symm)]
  exact hu
theorem R.put {TB:cG} {E:Env TB} {n:Sh} {s:St} {a:Act} {w':World} {own:List (Nat × OC)} {h:PH} {ρ:RM} {x:SV} {v:Value} {dst:Option Nat}
  (hd:a.defers = []) (hn:a.tmps.size = n.n) (hw:WR E n own h ρ w') (hs:ck h ρ s.slots a.tmps) (hx:x.rel h ρ v) :
  R E n (({ s with own:=own }:St).put n dst x) (a.put dst v) w':=by
 cases dst with
 | none=>exact ⟨hd,hn,h,ρ,hw,hs⟩
 | some d=>
  by_cases hdn:d < n.n
  ·refine ⟨hd,by simp [Act.put,hn],h,ρ,?_,?_⟩
   ·simpa [St.put,St.set,hdn] using hw
   ·simpa [St.put,St.set,hdn,Act.put] using hs.set hn hdn hx
  ·refine ⟨hd,by simp [Act.put,hn],h,ρ,?_,?_⟩
   ·simpa [St.put,St.set,hdn] using hw
   ·have:a.tmps.setIfInBounds d v = a.tmps:=by
     apply Array.ext_getElem?
     intro i
     by_cases hi:d = i
     ·subst hi; simp [hn,hdn]
     ·rw [Array.getElem?_setIfInBounds_ne hi]
    simpa [St.put,St.set,hdn,Act.put,this] using hs
theorem R.ik {TB:cG} {E:Env TB} {n:Sh} {s:St} {a:Act} {w:World} (ks kos:List Nat) (hr:R E n s a w):R E n (s.ik ks kos) a w:=by
 obtain ⟨hd,hn,h,ρ,hw,hs⟩:=hr
 exact ⟨hd,hn,h,ρ,hw.sub fun _ hp=>mT hp,fun _ _ hx=>hs _ _ (mT hx)⟩
def cst:Value → Option CP
 | .int k n=>if k.min ≤ n ∧ n ≤ k.max then some (.int k n) else none
 | .bool b=>some (.bool b)
 | .string s=>if s.data.toList.length ≤ maxLen then some (.str s.data.toList) else none
 | .slice none 0 0=>some .nil
 | .func f a b=>some (.raw (.func f a b))
 | .nilFunc=>some (.raw .nilFunc)
 | .pointer none=>some (.raw (.pointer none))
 | _=>none
def cvs:List Value → Option (List CP)
 | []=>some []
 | v :: l=>(cst v).bind fun c=>(cvs l).map (c :: ·)
def St.ev (s:St):Operand → Option SV
 | .tmp t=>s.get t
 | .const (.agg cs)=>(cvs cs.toList).map fun ps=>.b (.agg ps)
 | .const v=>(cst v).map fun c=>.b (.one c)
 | .func f=>some (.b (.one (.raw (.func (.func f) #[] #[]))))
 | .global _=>none
theorem Bf {v:Value} {c:CP} (hc:cst v = some c) (h:PH):c.rel h v:=by
 unfold cst at hc
 split at hc <;> first | (split at hc <;> simp at hc <;> subst hc <;> simp_all [CP.int,CP.str,rW]; done) | (simp at hc; subst hc; simp [CP.bool,CP.nil,CP.raw,Value.oneCell']; done) | simp at hc
theorem mb (h:PH):∀ {l:List Value} {ps:List CP},cvs l = some ps → bd h ps l
 | [],ps,e=>by simp [cvs] at e; subst e; exact .nil
 | v :: l,ps,e=>by
  unfold cvs at e
  cases hc:cst v with
  | none=>simp [hc] at e
  | some c=>
   cases hl:cvs l with
   | none=>simp [hc,hl] at e
   | some q=>
    simp [hc,hl] at e
    subst e
    exact .cons (Bf hc h) (mb h hl)
theorem bC {h:PH} {ρ:RM} {s:St} {a:Act} (hs:ck h ρ s.slots a.tmps) {o:Operand} {x:SV} (he:s.ev o = some x):x.rel h ρ (a.eval o):=by
 cases o with
 | tmp t=>
  obtain ⟨v,hv,hr⟩:=hs _ _ (dl (show lk s.slots t = some x from he))
  have:a.eval (.tmp t) = v:=by simp [Act.eval,Array.getD_eq_getD_getElem?,hv]
  rw [this]; exact hr
 | const v=>
  cases v with
  | agg cs=>
   simp only [St.ev,Option.map_eq_some_iff] at he
   obtain ⟨ps,hps,rfl⟩:=he
   exact ⟨cs,rfl,mb h hps⟩
  | _=>
   simp only [St.ev,Option.map_eq_some_iff] at he
   obtain ⟨c,hc,rfl⟩:=he
   exact Bf hc h
 | global g=>simp [St.ev] at he
 | func f=>simp only [St.ev,Option.some.injEq] at he; subst he; exact ⟨rfl,rfl⟩
abbrev fi:=Exit → Act → World → Prop
def bY (P:Program) {TB:cG} (E:Env TB) (n:Sh) (o:Oper) (s s':St):Prop :=
 ∀ a w,R E n s a w → ∀ (next:Act → World → Prop) (Q:fi),(∀ a' w',R E n s' a' w' → next a' w') → o.wp P a w next Q
def Ops (P:Program) {TB:cG} (E:Env TB) (n:Sh) (ops:Array Oper) (is:List Nat) (s:St) (Q:fi):Prop:=∀ a w,R E n s a w → wpOps P ops Q is a w
def ab (P:Program) {TB:cG} (E:Env TB) (n:Sh) (c:Code) (s:St) (Q:fi):Prop:=∀ a w,R E n s a w → c.wp P Q a w
def Fin {TB:cG} (E:Env TB) (n:Sh) (e:Exit) (s:St) (Q:fi):Prop:=∀ a w,R E n s a w → Q e a w
section
variable {P:Program} {TB:cG} {E:Env TB} {n:Sh} {ops:Array Oper} {is:List Nat} {s s':St} {Q:fi} {i:Nat} {o:Oper} {c x y:Code}
theorem Ops.nil (h:Fin E n .normal s Q):Ops P E n ops [] s Q:=fun a w hr=>h a w hr
theorem Ops.ik (ks kos:List Nat) (hs:s.ik ks kos = s') (h:Ops P E n ops is s' Q):Ops P E n ops is s Q:=fun a w hr=>h a w (hs ▸ hr.ik ks kos)
theorem ab.ik (ks kos:List Nat) (hs:s.ik ks kos = s') (h:ab P E n c s' Q):ab P E n c s Q:=fun a w hr=>h a w (hs ▸ hr.ik ks kos)
theorem Fin.ik {e:Exit} (ks kos:List Nat) (hs:s.ik ks kos = s') (h:Fin E n e s' Q):Fin E n e s Q:=fun a w hr=>h a w (hs ▸ hr.ik ks kos)
theorem ab.region {id:Nat} (h:Ops P E n ops (List.range ops.size) s Q):ab P E n (.region id ops false) s Q:=fun a w hr=>wp_region (h a w hr)
theorem ab.seq (h:ab P E n x s (Exit.then (y.wp P Q) Q)):ab P E n (.seq x y) s Q:=fun a w hr=>wp_seq (h a w hr)
theorem ab.skip (h:Fin E n .normal s Q):ab P E n .skip s Q:=fun a w hr=>wp_skip (h a w hr)
theorem ab.ret (h:Fin E n .ret s Q):ab P E n .ret s Q:=fun a w hr=>wp_ret (h a w hr)
theorem ab.exit {id:Nat} (h:Fin E n (.exit id) s Q):ab P E n (.exit id) s Q:=fun a w hr=>wp_exit (h a w hr)
theorem ab.block {id:Nat} (h:ab P E n c s (Exit.inBlock id Q)):ab P E n (.block id c) s Q:=fun a w hr=>wp_block (h a w hr)
theorem ab.cond {t:Nat} {b:Bool} (hs:s.get t = some (.b (.one (.bool b)))) (h1:b = true → ab P E n x s Q) (h2:b = false → ab P E n y s Q):ab P E n (.cond (.tmp t) x y) s Q:=by
 intro a w hr
 obtain ⟨hdf,hn,h,ρ,hw,hsl⟩:=id hr
 have:a.eval (.tmp t) = .bool b:=bC hsl (o:=.tmp t) hs
 exact wp_cond_split this (fun e=>h1 e a w hr) (fun e=>h2 e a w hr)
theorem Fin.then (h:ab P E n y s Q):Fin E n .normal s (Exit.then (y.wp P Q) Q):=fun a w hr=>h a w hr
theorem Fin.ar {K:Act → World → Prop} (h:Fin E n .ret s Q):Fin E n .ret s (Exit.then K Q):=fun a w hr=>h a w hr
theorem Fin.aG {K:Act → World → Prop} {id:Nat} (h:Fin E n (.exit id) s Q):Fin E n (.exit id) s (Exit.then K Q):=fun a w hr=>h a w hr
theorem Fin.aH {id:Nat} (h:Fin E n .normal s Q):Fin E n .normal s (Exit.inBlock id Q):=fun a w hr=>h a w hr
theorem Fin.aL {id:Nat} (h:Fin E n .ret s Q):Fin E n .ret s (Exit.inBlock id Q):=fun a w hr=>h a w hr
theorem Fin.aY {id:Nat} (h:Fin E n .normal s Q):Fin E n (.exit id) s (Exit.inBlock id Q):=fun a w hr=>by simp only [Exit.inBlock,if_true]; exact h a w hr
theorem Fin.so {id id':Nat} (hne:id' ≠ id) (h:Fin E n (.exit id') s Q):Fin E n (.exit id') s (Exit.inBlock id Q):=fun a w hr=>by simp only [Exit.inBlock,hne,if_false]; exact h a w hr
def Again {ι:Type} {TB:cG} (E:Env TB) (n:Sh) (S:ι → St) (I:ι → Prop) (μ:ι → Nat) (m:Nat) (a:Act) (w:World):Prop:=∃ j,I j ∧ μ j < m ∧ R E n (S j) a w
theorem ab.loop {ι:Type} (S:ι → St) (I:ι → Prop) (μ:ι → Nat) (j₀:ι) (h₀:I j₀) (hs:s = S j₀)
  (round:∀ j,I j → ab P E n c (S j) (Exit.then (Again E n S I μ (μ j)) Q)):ab P E n (.loop c) s Q:=by
 intro a w hr b k cs
 have key:∀ m j a w,μ j = m → I j → R E n (S j) a w → ∃ e a' w',Q e a' w' ∧ Arrives P (lone (b.at a (.code c :: .inLoop c :: k)) cs w) b k cs e a' w':=by
  intro m
  induction m using Nat.strongRecOn with
  | _ m ih=>
   intro j a w hm hI hr
   obtain ⟨e,a₁,w₁,hq,harr⟩:=round j hI a w hr b (.inLoop c :: k) cs
   cases e with
   | normal=>
    obtain ⟨j',hI',hlt,hr'⟩:=hq
    obtain ⟨e₂,a₂,w₂,hq₂,harr₂⟩:=ih (μ j') (hm ▸ hlt) j' a₁ w₁ rfl hI' hr'
    exact ⟨e₂,a₂,w₂,hq₂,.of_steps (Steps.trans harr (.one step_inLoop)) harr₂⟩
   | exit id=>exact ⟨_,a₁,w₁,hq,.pass (x:=.inLoop c) rfl (fun _ _=>.inl (by simp)) harr⟩
   | goto l=>exact ⟨_,a₁,w₁,hq,.pass (x:=.inLoop c) rfl (fun _ _=>.inl (by simp)) harr⟩
   | ret=>exact ⟨_,a₁,w₁,hq,.pass (x:=.inLoop c) rfl (fun _ _=>.inl (by simp)) harr⟩
   | panic ch=>exact ⟨_,a₁,w₁,hq,.pass (x:=.inLoop c) rfl (fun _ _=>.inl (by simp)) harr⟩
   | outgrown=>exact ⟨_,a₁,w₁,hq,.pass (x:=.inLoop c) rfl (fun _ _=>.inl (by simp)) harr⟩
 obtain ⟨e,a',w',hq,harr⟩:=key _ j₀ a w rfl h₀ (hs ▸ hr)
 exact ⟨e,a',w',hq,.of_steps (.one step_loop) harr⟩
theorem Fin.again {ι:Type} {S:ι → St} {I:ι → Prop} {μ:ι → Nat} {m:Nat} (j:ι) (hj:I j) (hm:μ j < m) (hs:s = S j):Fin E n .normal s (Exit.then (Again E n S I μ m) Q) :=
 fun _ _ hr=>⟨j,hj,hm,hs ▸ hr⟩
end
end Go.Sk
namespace Go.Sk
set_option linter.unusedSimpArgs false
set_option linter.unusedVariables false
open Go
def wpL (P:Program) (ops:Array Oper) (Q:fi):List Oper → Act → World → Prop
 | [],a,w=>Q .normal a w
 | o :: rest,a,w=>if Region.wanted o (yielded ops a.tmps) then o.wp P a w (wpL P ops Q rest) Q else wpL P ops Q rest (a.put o.dst undef) w
def ad (P:Program) {TB:cG} (E:Env TB) (n:Sh) (ops:Array Oper) (l:List Oper) (s:St) (Q:fi):Prop:=∀ a w,R E n s a w → wpL P ops Q l a w
theorem nO {P:Program} {ops:Array Oper} {Q:fi}:∀ (l:List Oper) (k:Nat),(∀ j,ops[k + j]? = l[j]?) → ∀ a w,wpL P ops Q l a w → wpOps P ops Q (List.range' k l.length) a w
 | [],k,hl,a,w,h=>by simpa [wpOps,wpL] using h
 | o :: l,k,hl,a,w,h=>by
  have h0:ops[k]? = some o:=by simpa using hl 0
  have hr:∀ j,ops[k + 1 + j]? = l[j]?:=fun j=>by have:=hl (j + 1); rw [Nat.add_assoc,Nat.add_comm 1 j]; simpa using this
  simp only [List.length_cons,List.range'_succ,wpOps,h0]
  unfold wpL at h
  split
  ·rename_i hw
   simp only [hw,if_true] at h
   exact .inl (Oper.wp_mono (fun a w hh=>nO l (k + 1) hr a w hh) h)
  ·rename_i hw
   simp only [hw] at h
   exact nO l (k + 1) hr _ _ h
section
variable {P:Program} {TB:cG} {E:Env TB} {n:Sh} {ops:Array Oper} {l:List Oper} {s s':St} {Q:fi} {o:Oper}
theorem ab.aa {id:Nat} {l:List Oper} (h:ad P E n l.toArray l s Q):ab P E n (.region id l.toArray false) s Q:=by
 refine ab.region fun a w hr=>?_
 have:=nO (P:=P) (ops:=l.toArray) (Q:=Q) l 0 (fun j=>by simp) a w (h a w hr)
 simpa [List.range_eq_range'] using this
theorem ad.cons (hg:o.guard = none) (h1:bY P E n o s s') (h2:ad P E n ops l s' Q):ad P E n ops (o :: l) s Q:=by
 intro a w hr
 unfold wpL
 have:Region.wanted o (yielded ops a.tmps) = true:=by simp [Region.wanted,hg]
 simp only [this,if_true]
 exact h1 a w hr _ _ fun a' w' hr'=>h2 a' w' hr'
def qq (ks:List Nat) (k:Nat):SV → SV
 | .dA c z=>if ks.contains k then .b z else .dA c z
 | y=>y
def qp:Nat → List Nat → List (Nat × SV) → List (Nat × SV)
 | 0,_,l=>l
 | _ + 1,_,[]=>[]
 | m + 1,ks,(k,x) :: l=>(k,qq ks k x) :: qp m ks l
def eP:Nat → List Nat → List (Nat × SV) → Prop
 | 0,_,_=>True
 | _ + 1,_,[]=>True
 | m + 1,ks,(k,x) :: l=>match x with
  | .dA c _=>if ks.contains k then c = true ∧ eP m ks l else eP m ks l
  | _=>eP m ks l
def St.lW (m:Nat) (ks:List Nat) (s:St):St:=⟨qp m ks s.slots,s.own⟩
theorem rG (ks:List Nat) (k:Nat) (x:SV):qq ks k x = x ∨ ∃ c z,x = .dA c z ∧ ks.contains k = true ∧ qq ks k x = .b z:=by
 cases x with
 | dA c z=>
  cases hk:ks.contains k with
  | true=>exact .inr ⟨c,z,rfl,rfl,by simp only [qq,hk,if_true]⟩
  | false=>exact .inl (by simp only [qq,hk,Bool.false_eq_true,if_false])
 | b z=>exact .inl rfl
 | fE z=>exact .inl rfl
 | n8 z=>exact .inl rfl
theorem qc {m:Nat} {ks:List Nat} {k:Nat} {x:SV} {l:List (Nat × SV)} (h:eP (m + 1) ks ((k,x) :: l)):eP m ks l:=by
 unfold eP at h
 cases x with
 | dA c z=>
  dsimp only at h
  split at h
  ·exact h.2
  ·exact h
 | b z=>exact h
 | fE z=>exact h
 | n8 z=>exact h
theorem uE {ks:List Nat}:∀ {m:Nat} {l:List (Nat × SV)} {k:Nat} {y:SV},(k,y) ∈ qp m ks l → eP m ks l → (k,y) ∈ l ∨ ∃ c z,y = .b z ∧ (k,.dA c z) ∈ l ∧ c = true
 | 0,l,k,y,h,_=>.inl h
 | m + 1,[],k,y,h,_=>.inl h
 | m + 1,(j,x) :: l,k,y,h,hc=>by
  cases List.mem_cons.1 h with
  | inl e=>
   obtain ⟨rfl,rfl⟩:=Prod.mk.inj e
   rcases rG ks k x with h1 | ⟨c,z,rfl,hk,h1⟩
   ·rw [h1]; exact .inl List.mem_cons_self
   ·rw [h1]
    refine .inr ⟨c,z,rfl,List.mem_cons_self,?_⟩
    unfold eP at hc
    simp only [hk,if_true] at hc
    exact hc.1
  | inr e=>
   rcases uE e (qc hc) with h | ⟨c',z',h1,h2,h3⟩
   ·exact .inl (List.mem_cons_of_mem _ h)
   ·exact .inr ⟨c',z',h1,List.mem_cons_of_mem _ h2,h3⟩
theorem nI {ks:List Nat}:∀ {m:Nat} {l:List (Nat × SV)} {k:Nat} {y:SV},(k,y) ∈ l → eP m ks l → (k,y) ∈ qp m ks l ∨ ∃ c z,y = .dA c z ∧ c = true ∧ (k,.b z) ∈ qp m ks l
 | 0,l,k,y,h,_=>.inl h
 | m + 1,(j,x) :: l,k,y,h,hc=>by
  cases List.mem_cons.1 h with
  | inl e=>
   obtain ⟨rfl,rfl⟩:=Prod.mk.inj e
   rcases rG ks k y with h1 | ⟨c,z,rfl,hk,h1⟩
   ·refine .inl ?_
    show (k,y) ∈ (k,qq ks k y) :: qp m ks l
    rw [h1]; exact List.mem_cons_self
   ·unfold eP at hc
    simp only [hk,if_true] at hc
    refine .inr ⟨c,z,rfl,hc.1,?_⟩
    show (k,SV.b z) ∈ (k,qq ks k (.dA c z)) :: qp m ks l
    rw [h1]; exact List.mem_cons_self
  | inr e=>
   rcases nI (ks:=ks) (m:=m) e (qc hc) with h | ⟨c,z,h1,h2,h3⟩
   ·exact .inl (List.mem_cons_of_mem _ h)
   ·exact .inr ⟨c,z,h1,h2,List.mem_cons_of_mem _ h3⟩
theorem R.lW {a:Act} {w:World} {m:Nat} {ks:List Nat} (hr:R E n s a w) (hc:eP m ks s.slots):R E n (s.lW m ks) a w:=by
 obtain ⟨h1,h2,h,ρ,hw,hs⟩:=hr
 refine ⟨h1,h2,h,ρ,hw,fun k y hy=>?_⟩
 rcases uE hy hc with hm | ⟨c,z,rfl,hm,hct⟩
 ·exact hs k y hm
 ·obtain ⟨v,hv,hrel⟩:=hs k _ hm
  exact ⟨v,hv,hrel.1 hct⟩
theorem qk {a:Act} {w:World} {m:Nat} {ks:List Nat} {dst:Option Nat} {b:Bool} {z:BV} (hb:b = true) (hc:eP m ks s.slots) (hr:R E n ((s.lW m ks).put n dst (.b z)) a w):R E n (s.put n dst (.dA b z)) a w:=by
 obtain ⟨h1,h2,h,ρ,hw,hs⟩:=hr
 have hback:∀ {L l:List (Nat × SV)},ck h ρ L a.tmps → (∀ p,p ∈ l → p ∈ L ∨ ∃ c z,p.2 = .dA c z ∧ c = true ∧ (p.1,.b z) ∈ L) → ck h ρ l a.tmps:=fun {L l} hl hsub k y hy=>by
  rcases hsub _ hy with hm | ⟨c,z,hyz,hct,hm⟩
  ·exact hl k y hm
  ·obtain ⟨v,hv,hrel⟩:=hl k _ hm
   have hy2:y = .dA c z:=hyz
   exact ⟨v,hv,by rw [hy2,hct]; exact ⟨fun _=>hrel,fun e=>by simp at e⟩⟩
 cases dst with
 | none=>exact ⟨h1,h2,h,ρ,hw,hback hs fun p hp=>nI hp hc⟩
 | some d=>
  simp only [St.put,St.set,St.lW] at hw hs ⊢
  split at hs
  ·rename_i hdn
   simp only [hdn,if_true] at hw ⊢
   refine ⟨h1,h2,h,ρ,hw,?_⟩
   refine hback hs fun p hp=>?_
   cases List.mem_cons.1 hp with
   | inl e=>subst e; exact .inr ⟨b,z,rfl,hb,List.mem_cons_self⟩
   | inr e=>
    obtain ⟨e1,e2⟩:=gy e
    rcases nI (m:=m) (ks:=ks) (k:=p.1) (y:=p.2) e1 hc with hm | ⟨c,z',h3,hct,hm⟩
    ·exact .inl (List.mem_cons_of_mem _ (jP hm e2))
    ·exact .inr ⟨c,z',h3,hct,List.mem_cons_of_mem _ (jP hm e2)⟩
  ·rename_i hdn
   simp only [hdn,if_false] at hw ⊢
   exact ⟨h1,h2,h,ρ,hw,hback hs fun p hp=>nI hp hc⟩
inductive pM (s:St) (t:Nat) (want:Bool):Bool → Prop
 | plain {b:Bool} (h:s.get t = some (.b (.one (.bool b)))):pM s t want (b == want)
 | under {c b:Bool} (h:s.get t = some (.dA c (.one (.bool b)))):pM s t want (c && (b == want))
theorem pM.wanted {j t:Nat} {want gd:Bool} (hG:pM s t want gd) (hg:o.guard = some (j,want)) (hj:(ops[j]?).bind (·.dst) = some t) {a:Act} {w:World} (hr:R E n s a w):Region.wanted o (yielded ops a.tmps) = gd:=by
 obtain ⟨hdf,hn,h,ρ,hw,hsl⟩:=hr
 cases hG with
 | @plain b hs=>
  obtain ⟨v,hv,hrel⟩:=hsl _ _ (dl (show lk s.slots t = some _ from hs))
  have hvb:v = .bool b:=hrel
  subst hvb
  have hy:yielded ops a.tmps j = some b:=by simp [yielded,hj,hv]
  simp [Region.wanted,hg,hy]
 | @under c b hs=>
  obtain ⟨v,hv,hrel⟩:=hsl _ _ (dl (show lk s.slots t = some _ from hs))
  cases c with
  | true=>
   have hvb:v = .bool b:=hrel.1 rfl
   subst hvb
   have hy:yielded ops a.tmps j = some b:=by simp [yielded,hj,hv]
   simp [Region.wanted,hg,hy]
  | false=>
   have hvb:v = undef:=hrel.2 rfl
   subst hvb
   have hy:yielded ops a.tmps j = none:=by simp [yielded,hj,hv,undef]
   simp [Region.wanted,hg,hy]
theorem ad.dy {j t:Nat} {want gd:Bool} {z:BV} (gd':Bool) (m:Nat) (ks:List Nat) (hG:pM s t want gd) (hgd:gd = gd') (hg:o.guard = some (j,want)) (hj:(ops[j]?).bind (·.dst) = some t)
  (hc:gd' = true → eP m ks s.slots) (h1:gd' = true → bY P E n o (s.lW m ks) ((s.lW m ks).put n o.dst (.b z))) (h2:ad P E n ops l (s.put n o.dst (.dA gd' z)) Q) :
  ad P E n ops (o :: l) s Q:=by
 subst hgd
 intro a w hr
 unfold wpL
 have hwant:=hG.wanted hg hj hr
 cases hb:gd with
 | true=>
  rw [hb] at hwant
  simp only [hwant,if_true]
  exact h1 hb a w (hr.lW (hc hb)) _ _ fun a' w' hr'=>h2 a' w' (qk hb (hc hb) hr')
 | false=>
  rw [hb] at hwant
  simp only [hwant,Bool.false_eq_true,if_false]
  refine h2 _ _ ?_
  rw [hb]
  obtain ⟨hdf,hn,h,ρ,hw,hsl⟩:=hr
  exact R.put (s:=s) hdf hn hw hsl ⟨fun e=>by simp at e,fun _=>rfl⟩
theorem ob (b:Bool):(b == true) = b:=by cases b <;> rfl
theorem eq_f (b:Bool):(b == false) = !b:=by cases b <;> rfl
theorem gu (c b:Bool):(c && (b == true)) = (c && b):=by cases b <;> rfl
theorem eZ (c b:Bool):(c && (b == false)) = (c && !b):=by cases b <;> rfl
theorem ad.nil (h:Fin E n .normal s Q):ad P E n ops [] s Q:=fun a w hr=>h a w hr
theorem ad.nilK {y:Code} (ks kos:List Nat) (hs:s.ik ks kos = s') (h:ab P E n y s' Q):ad P E n ops [] s (Exit.then (y.wp P Q) Q):=fun a w hr=>h a w (hs ▸ hr.ik ks kos)
theorem ad.ik (ks kos:List Nat) (hs:s.ik ks kos = s') (h:ad P E n ops l s' Q):ad P E n ops l s Q:=fun a w hr=>h a w (hs ▸ hr.ik ks kos)
theorem bY.val {x:SV} (H:∀ (a:Act) (w:World) (h:PH) (ρ:RM),WR E n s.own h ρ w → ck h ρ s.slots a.tmps → ∃ v,(execOp a.eval o).run P w = .ok (.value v) w ∧ x.rel h ρ v):bY P E n o s (s.put n o.dst x):=by
 intro a w ⟨hdf,hn,h,ρ,hw,hs⟩ next Q hnext
 obtain ⟨v,hv,hx⟩:=H a w h ρ hw hs
 unfold Oper.wp
 rw [hv]
 exact hnext _ _ (R.put (s:=s) hdf hn hw hs hx)
end
theorem q9 (a b:Int):(a == b) = decide (a = b):=by rw [Bool.eq_iff_iff]; simp
theorem vx (l:bg):(⟨⟨l⟩⟩:ByteArray).toList = l:=by rw [ByteArray.toList_eq]
theorem te (a b:bg):((⟨⟨a⟩⟩:ByteArray).toList == (⟨⟨b⟩⟩:ByteArray).toList) = decide (a = b):=by
 rw [vx,vx,Bool.eq_iff_iff]
 simp
theorem mD (k:IntKind) (z:Int):rW k (k.wrap z):=by
 unfold rW
 cases k <;> simp [IntKind.wrap,IntKind.min,IntKind.max,IntKind.signed,IntKind.bits] <;> (try split) <;> omega
theorem inR_i64 {z:Int} (h1:-9223372036854775808 ≤ z) (h2:z ≤ 9223372036854775807):rW .i64 z:=by
 simp [rW,IntKind.min,IntKind.max,IntKind.signed,IntKind.bits]; omega
theorem yw {z:Int}:rW .i64 z ↔ -9223372036854775808 ≤ z ∧ z ≤ 9223372036854775807:=by
 simp [rW,IntKind.min,IntKind.max,IntKind.signed,IntKind.bits]
abbrev I (n:Int):SV:=.b (.one (.int .i64 n))
abbrev B (b:Bool):SV:=.b (.one (.bool b))
abbrev CP.i (n:Int):CP:=.int .i64 n
section
variable {P:Program} {TB:cG} {E:Env TB} {n:Sh} {s:St} {dst:Option Nat} {t ty yt:TypeId} {pos:String} {after:Array Edge} {g:Option (Nat × Bool)} {x y c:Operand} {k:IntKind} {a b:Int}
theorem fW {z:SV} (hx:s.ev x = some z):bY P E n ⟨dst,.move x,ty,pos,after,g⟩ s (s.put n dst z) :=
 bY.val (o:=⟨dst,.move x,ty,pos,after,g⟩) fun _ _ _ _ _ hs=>⟨_,rfl,bC hs hx⟩
theorem vr {z:SV} (hx:s.ev x = some z):bY P E n ⟨dst,.assign x,ty,pos,after,g⟩ s (s.put n dst z) :=
 bY.val (o:=⟨dst,.assign x,ty,pos,after,g⟩) fun _ _ _ _ _ hs=>⟨_,rfl,bC hs hx⟩
theorem cj {h:PH} {ρ:RM} {ac:Act} (hs:ck h ρ s.slots ac.tmps) (hx:s.ev x = some (.b (.one (.int k a)))):ac.eval x = .int k a ∧ rW k a:=bC hs hx
theorem kI {h:PH} {ρ:RM} {ac:Act} {b:Bool} (hs:ck h ρ s.slots ac.tmps) (hx:s.ev x = some (B b)):ac.eval x = .bool b:=bC hs hx
theorem kw {h:PH} {ρ:RM} {ac:Act} {z:bg} (hs:ck h ρ s.slots ac.tmps) (hx:s.ev x = some (.b (.one (.str z)))):ac.eval x = .string ⟨⟨z⟩⟩ ∧ z.length ≤ maxLen:=bC hs hx
theorem yb {op:BinOp} {f:Int → Int → Int} (w:World) (u v:Operand) (hop:op = .add ∧ f = (· + ·) ∨ op = .sub ∧ f = (· - ·) ∨ op = .mul ∧ f = (· * ·)) :
  (do eqGuard op t u v (.int k a) (.int k b); binOp op t (.int k a) (.int k b):Sem Value).run P w = .ok (.int k (k.wrap (f a b))) w:=by
 rcases hop with ⟨rfl,rfl⟩ | ⟨rfl,rfl⟩ | ⟨rfl,rfl⟩ <;> simp [eqGuard,binOp,Op.intArith]
theorem ui {op:BinOp} {f:Int → Int → Int} (hop:op = .add ∧ f = (· + ·) ∨ op = .sub ∧ f = (· - ·) ∨ op = .mul ∧ f = (· * ·)) (hx:s.ev x = some (.b (.one (.int k a)))) (hy:s.ev y = some (.b (.one (.int k b)))) :
  bY P E n ⟨dst,.binOp op t x y yt,ty,pos,after,g⟩ s (s.put n dst (.b (.one (.int k (k.wrap (f a b)))))) :=
 bY.val (o:=⟨dst,.binOp op t x y yt,ty,pos,after,g⟩) fun ac w h ρ hw hs=>by
  refine ⟨.int k (k.wrap (f a b)),?_,rfl,mD _ _⟩
  have:=yb (P:=P) (t:=t) (k:=k) (a:=a) (b:=b) (f:=f) w x y hop
  simp only [execOp,(cj hs hx).1,(cj hs hy).1]
  rw [Sem.run_bind,this]; rfl
theorem bb (hx:s.ev x = some (.b (.one (.int k a)))) (hy:s.ev y = some (.b (.one (.int k b)))):bY P E n ⟨dst,.binOp .add t x y yt,ty,pos,after,g⟩ s (s.put n dst (.b (.one (.int k (k.wrap (a + b)))))) :=
 ui (f:=(· + ·)) (.inl ⟨rfl,rfl⟩) hx hy
theorem bX (hx:s.ev x = some (.b (.one (.int k a)))) (hy:s.ev y = some (.b (.one (.int k b)))):bY P E n ⟨dst,.binOp .sub t x y yt,ty,pos,after,g⟩ s (s.put n dst (.b (.one (.int k (k.wrap (a - b)))))) :=
 ui (f:=(· - ·)) (.inr (.inl ⟨rfl,rfl⟩)) hx hy
theorem fN (hx:s.ev x = some (.b (.one (.int k a)))) (hy:s.ev y = some (.b (.one (.int k b)))):bY P E n ⟨dst,.binOp .mul t x y yt,ty,pos,after,g⟩ s (s.put n dst (.b (.one (.int k (k.wrap (a * b)))))) :=
 ui (f:=(· * ·)) (.inr (.inr ⟨rfl,rfl⟩)) hx hy
theorem r5 {op:BinOp} {f:Int → Int → Bool} (hop:(do eqGuard op t x y (.int k a) (.int k b); binOp op t (.int k a) (.int k b):Sem Value) = (pure (.bool (f a b)):Sem Value))
  (hx:s.ev x = some (.b (.one (.int k a)))) (hy:s.ev y = some (.b (.one (.int k b)))) :
  bY P E n ⟨dst,.binOp op t x y yt,ty,pos,after,g⟩ s (s.put n dst (B (f a b))) :=
 bY.val (o:=⟨dst,.binOp op t x y yt,ty,pos,after,g⟩) fun ac w h ρ hw hs=>by
  refine ⟨.bool (f a b),?_,rfl⟩
  simp only [execOp,(cj hs hx).1,(cj hs hy).1]
  rw [Sem.run_bind,hop]; rfl
theorem bK (hx:s.ev x = some (.b (.one (.int k a)))) (hy:s.ev y = some (.b (.one (.int k b)))):bY P E n ⟨dst,.binOp .lss t x y yt,ty,pos,after,g⟩ s (s.put n dst (B (decide (a < b)))) :=
 r5 (f:=fun a b=>decide (a < b)) (by simp [eqGuard,binOp,Op.intCmp]) hx hy
theorem lh (hx:s.ev x = some (.b (.one (.int k a)))) (hy:s.ev y = some (.b (.one (.int k b)))):bY P E n ⟨dst,.binOp .leq t x y yt,ty,pos,after,g⟩ s (s.put n dst (B (decide (a ≤ b)))) :=
 r5 (f:=fun a b=>decide (a ≤ b)) (by simp [eqGuard,binOp,Op.intCmp]) hx hy
theorem dB (hx:s.ev x = some (.b (.one (.int k a)))) (hy:s.ev y = some (.b (.one (.int k b)))):bY P E n ⟨dst,.binOp .gtr t x y yt,ty,pos,after,g⟩ s (s.put n dst (B (decide (b < a)))) :=
 r5 (f:=fun a b=>decide (b < a)) (by simp [eqGuard,binOp,Op.intCmp]) hx hy
theorem fy (hx:s.ev x = some (.b (.one (.int k a)))) (hy:s.ev y = some (.b (.one (.int k b)))):bY P E n ⟨dst,.binOp .geq t x y yt,ty,pos,after,g⟩ s (s.put n dst (B (decide (b ≤ a)))) :=
 r5 (f:=fun a b=>decide (b ≤ a)) (by simp [eqGuard,binOp,Op.intCmp]) hx hy
theorem cy (hx:s.ev x = some (.b (.one (.int k a)))) (hy:s.ev y = some (.b (.one (.int k b)))):bY P E n ⟨dst,.binOp .eql t x y yt,ty,pos,after,g⟩ s (s.put n dst (B (decide (a = b)))) :=
 r5 (f:=fun a b=>decide (a = b)) (by simp [eqGuard,binOp,Op.intCmp,q9]) hx hy
theorem dY (hx:s.ev x = some (.b (.one (.int k a)))) (hy:s.ev y = some (.b (.one (.int k b)))):bY P E n ⟨dst,.binOp .neq t x y yt,ty,pos,after,g⟩ s (s.put n dst (B (decide (a ≠ b)))) :=
 r5 (f:=fun a b=>decide (a ≠ b)) (by simp [eqGuard,binOp,Op.intCmp,bne,q9]) hx hy
theorem bq {b:Bool} (hx:s.ev x = some (B b)):bY P E n ⟨dst,.unOp .not t x,ty,pos,after,g⟩ s (s.put n dst (B (!b))) :=
 bY.val (o:=⟨dst,.unOp .not t x,ty,pos,after,g⟩) fun ac w h ρ hw hs=>⟨.bool (!b),by simp [execOp,kI hs hx,Op.unary],rfl⟩
theorem mn (hx:s.ev x = some (.b (.one (.int k a)))):bY P E n ⟨dst,.unOp .neg t x,ty,pos,after,g⟩ s (s.put n dst (.b (.one (.int k (k.wrap (-a)))))) :=
 bY.val (o:=⟨dst,.unOp .neg t x,ty,pos,after,g⟩) fun ac w h ρ hw hs=>⟨.int k (k.wrap (-a)),by simp [execOp,(cj hs hx).1,Op.unary,Op.intArith],rfl,mD _ _⟩
theorem aD {b z gd:Bool} {d:SV} (hg:b = true → gd = true) (hx:s.ev x = some (B b)) (hy:s.ev y = some (.dA gd (.one (.bool z)))) (hc:s.ev c = some d) (hd:d = B false:=by rfl) :
  bY P E n ⟨dst,.pick x y c,ty,pos,after,g⟩ s (s.put n dst (B (b && z))) :=
 bY.val (o:=⟨dst,.pick x y c,ty,pos,after,g⟩) fun ac w h ρ hw hs=>by
  subst hd
  refine ⟨.bool (b && z),?_,rfl⟩
  have h2:gd = true → ac.eval y = .bool z:=(bC hs hy).1
  have h3:ac.eval c = .bool false:=bC hs hc
  cases b
  ·simp [execOp,kI hs hx,asBool,h3]
  ·simp [execOp,kI hs hx,asBool,h2 (hg rfl)]
theorem aU {b z gd:Bool} {d:SV} (hg:b = false → gd = true) (hx:s.ev x = some (B b)) (hy:s.ev y = some d) (hc:s.ev c = some (.dA gd (.one (.bool z)))) (hd:d = B true:=by rfl) :
  bY P E n ⟨dst,.pick x y c,ty,pos,after,g⟩ s (s.put n dst (B (b || z))) :=
 bY.val (o:=⟨dst,.pick x y c,ty,pos,after,g⟩) fun ac w h ρ hw hs=>by
  subst hd
  refine ⟨.bool (b || z),?_,rfl⟩
  have h2:gd = true → ac.eval c = .bool z:=(bC hs hc).1
  have h3:ac.eval y = .bool true:=bC hs hy
  cases b
  ·simp [execOp,kI hs hx,asBool,h2 (hg rfl)]
  ·simp [execOp,kI hs hx,asBool,h3]
theorem sK {b d:Bool} (ht:P.underlying t = some .bool) (hx:s.ev x = some (B b)) (hy:s.ev y = some (B d)):bY P E n ⟨dst,.binOp .eql t x y yt,ty,pos,after,g⟩ s (s.put n dst (B (b == d))) :=
 bY.val (o:=⟨dst,.binOp .eql t x y yt,ty,pos,after,g⟩) fun ac w h ρ hw hs=>by
  refine ⟨.bool (b == d),?_,rfl⟩
  simp only [execOp,kI hs hx,kI hs hy]
  simp [eqGuard,binOp,run_equal_bool _ _ _ _ ht]
theorem gw {b d:Bool} (ht:P.underlying t = some .bool) (hx:s.ev x = some (B b)) (hy:s.ev y = some (B d)):bY P E n ⟨dst,.binOp .neq t x y yt,ty,pos,after,g⟩ s (s.put n dst (B (b != d))) :=
 bY.val (o:=⟨dst,.binOp .neq t x y yt,ty,pos,after,g⟩) fun ac w h ρ hw hs=>by
  refine ⟨.bool (b != d),?_,rfl⟩
  simp only [execOp,kI hs hx,kI hs hy]
  simp [eqGuard,binOp,bne,run_equal_bool _ _ _ _ ht]
theorem bh {u v:bg} (hx:s.ev x = some (.b (.one (.str u)))) (hy:s.ev y = some (.b (.one (.str v)))):bY P E n ⟨dst,.binOp .eql t x y yt,ty,pos,after,g⟩ s (s.put n dst (B (decide (u = v)))) :=
 bY.val (o:=⟨dst,.binOp .eql t x y yt,ty,pos,after,g⟩) fun ac w h ρ hw hs=>by
  refine ⟨.bool (decide (u = v)),?_,rfl⟩
  simp only [execOp,(kw hs hx).1,(kw hs hy).1]
  simp [eqGuard,binOp,Op.stringOp,← te]
theorem qL {u v:bg} (hx:s.ev x = some (.b (.one (.str u)))) (hy:s.ev y = some (.b (.one (.str v)))):bY P E n ⟨dst,.binOp .neq t x y yt,ty,pos,after,g⟩ s (s.put n dst (B (decide (u ≠ v)))) :=
 bY.val (o:=⟨dst,.binOp .neq t x y yt,ty,pos,after,g⟩) fun ac w h ρ hw hs=>by
  refine ⟨.bool (decide (u ≠ v)),?_,rfl⟩
  simp only [execOp,(kw hs hx).1,(kw hs hy).1]
  simp [eqGuard,binOp,Op.stringOp,← te]
end
end Go.Sk
namespace Go.Sk
set_option linter.unusedSimpArgs false
set_option linter.unusedVariables false
open Go
def ins {α:Type} (k:Nat) (c:α):List (Nat × α) → List (Nat × α)
 | []=>[(k,c)]
 | (j,x) :: l=>if k == j then (k,c) :: del k l else (j,x) :: ins k c l
theorem pE {α:Type} {k:Nat} {c:α}:∀ {l:List (Nat × α)} {j:Nat} {x:α},(j,x) ∈ ins k c l → (j = k ∧ x = c) ∨ (j ≠ k ∧ (j,x) ∈ l)
 | [],j,x,h=>by simp [ins] at h; exact .inl h
 | (i,y) :: l,j,x,h=>by
  unfold ins at h
  split at h
  ·cases List.mem_cons.1 h with
   | inl e=>obtain ⟨rfl,rfl⟩:=Prod.mk.inj e; exact .inl ⟨rfl,rfl⟩
   | inr e=>exact .inr ⟨(gy e).2,List.mem_cons_of_mem _ (gy e).1⟩
  ·rename_i hne
   cases List.mem_cons.1 h with
   | inl e=>
    obtain ⟨rfl,rfl⟩:=Prod.mk.inj e
    exact .inr ⟨fun e=>hne (by simp [e]),List.mem_cons_self⟩
   | inr e=>
    rcases pE e with h | ⟨h1,h2⟩
    ·exact .inl h
    ·exact .inr ⟨h1,List.mem_cons_of_mem _ h2⟩
def tx (ρ:RM) (k:Nat) (v:Value):RM:=fun j=>if j = k then v else ρ j
theorem eN (ρ:RM) (k:Nat) (v:Value):tx ρ k v k = v:=by simp [tx]
theorem gP (ρ:RM) {j k:Nat} (v:Value) (h:j ≠ k):tx ρ k v j = ρ j:=by simp [tx,h]
def eJ (k:Nat):List (Nat × SV) → List (Nat × SV)
 | []=>[]
 | (j,x) :: l=>if x.cI k then eJ k l else (j,x) :: eJ k l
theorem gS {k:Nat}:∀ {l:List (Nat × SV)} {p:Nat × SV},p ∈ eJ k l → p ∈ l ∧ p.2.cI k = false
 | (j,x) :: l,p,h=>by
  unfold eJ at h
  split at h
  ·exact ⟨List.mem_cons_of_mem _ (gS h).1,(gS h).2⟩
  ·rename_i hx
   cases List.mem_cons.1 h with
   | inl e=>subst e; exact ⟨List.mem_cons_self,by simpa using hx⟩
   | inr e=>exact ⟨List.mem_cons_of_mem _ (gS e).1,(gS e).2⟩
theorem ck.eJ {h:PH} {ρ:RM} {slots:List (Nat × SV)} {tmps:Array Value} (hs:ck h ρ slots tmps) (k:Nat) (v:Value):ck h (tx ρ k v) (eJ k slots) tmps:=by
 intro j x hx
 obtain ⟨h1,h2⟩:=gS hx
 obtain ⟨u,hu,hr⟩:=hs j x h1
 exact ⟨u,hu,SV.mono (PH.le_refl h) (fun i hi=>gP ρ v (fun e=>by subst e; simp [h2] at hi)) hr⟩
theorem ck.mono {h h':PH} {ρ:RM} {slots:List (Nat × SV)} {tmps:Array Value} (hl:h.le h') (hs:ck h ρ slots tmps):ck h' ρ slots tmps :=
 fun j x hx=>let ⟨u,hu,hr⟩:=hs j x hx; ⟨u,hu,SV.mono hl (fun _ _=>rfl) hr⟩
theorem OC.ok.congr {c:OC} {h:PH} {ρ:RM} {v:Value} {w w':World} (hc:c.ok h ρ v w) (hb:∀ b,cq v = some b → w'.heap[b]? = w.heap[b]?):c.ok h ρ v w':=by
 cases c with
 | box T ps=>
  obtain ⟨b,cur,rfl,h2,h3⟩:=hc
  exact ⟨b,cur,rfl,by rw [hb b rfl]; exact h2,h3⟩
 | s8 q pos=>
  obtain ⟨b,rfl,h2,h3⟩:=hc
  exact ⟨b,rfl,by rw [hb b rfl]; exact h2,h3⟩
 | mp es=>
  obtain ⟨b,ms,clk,rfl,h2,h3⟩:=hc
  exact ⟨b,ms,clk,rfl,by rw [hb b rfl]; exact h2,h3⟩
 | n7 T ps=>
  obtain ⟨b,cur,rfl,h2,h3⟩:=hc
  exact ⟨b,cur,rfl,by rw [hb b rfl]; exact h2,h3⟩
 | row T size es=>
  obtain ⟨hu,hz,xs,⟨hl,ho⟩,hr⟩:=hc
  refine ⟨hu,hz,xs,⟨hl,?_⟩,hr⟩
  rcases ho with ho | ⟨g,cap,cur,rfl,h1,h2,h3⟩
  ·exact .inl ho
  ·exact .inr ⟨g,cap,cur,rfl,h1,by rw [hb g rfl]; exact h2,h3⟩
 | k9 T size es=>
  obtain ⟨hu,hz,xs,⟨hl,ho⟩,hr⟩:=hc
  refine ⟨hu,hz,xs,⟨hl,?_⟩,hr⟩
  rcases ho with ho | ⟨g,cap,cur,rfl,h1,h2,h3⟩
  ·exact .inl ho
  ·exact .inr ⟨g,cap,cur,rfl,h1,by rw [hb g rfl]; exact h2,h3⟩
theorem OC.ok.mono {c:OC} {h h':PH} {ρ:RM} {v:Value} {w:World} (hl:h.le h') (hc:c.ok h ρ v w):c.ok h' ρ v w:=by
 cases c with
 | box T ps=>obtain ⟨b,cur,e,h2,h3⟩:=hc; exact ⟨b,cur,e,h2,h3.mono hl⟩
 | s8 q pos=>exact hc
 | mp es=>obtain ⟨b,ms,clk,e,h2,h3,h4⟩:=hc; exact ⟨b,ms,clk,e,h2,bT.mono h3 fun p e hp=>⟨p.1.mono hl hp.1,BV.mono hl (fun _ _=>rfl) hp.2⟩,h4⟩
 | n7 T ps=>obtain ⟨b,cur,e,h2,h3⟩:=hc; exact ⟨b,cur,e,h2,bT.mono h3 fun z u hz=>⟨BV.mono hl (fun _ _=>rfl) hz.1,hz.2⟩⟩
 | row T size es=>obtain ⟨hu,hz,xs,ho,hr⟩:=hc; exact ⟨hu,hz,xs,ho,hr.mono hl⟩
 | k9 T size es=>obtain ⟨hu,hz,xs,ho,hr⟩:=hc; exact ⟨hu,hz,xs,ho,hr.mono hl⟩
theorem OC.ok.lt {c:OC} {h:PH} {ρ:RM} {v:Value} {w:World} (hc:c.ok h ρ v w) {b:Nat} (hb:cq v = some b):b < w.heap.size:=by
 have key:∀ {o:Obj},w.heap[b]? = some o → b < w.heap.size:=fun e=>by
  rcases Nat.lt_or_ge b w.heap.size with h | h
  ·exact h
  ·simp [Array.getElem?_eq_none h] at e
 cases c with
 | box T ps=>obtain ⟨b',cur,rfl,h2,h3⟩:=hc; simp [cq] at hb; subst hb; exact key h2
 | s8 q pos=>obtain ⟨b',rfl,h2,h3⟩:=hc; simp [cq] at hb; subst hb; exact key h2
 | mp es=>obtain ⟨b',ms,clk,rfl,h2,h3⟩:=hc; simp [cq] at hb; subst hb; exact key h2
 | n7 T ps=>obtain ⟨b',cur,rfl,h2,h3⟩:=hc; simp [cq] at hb; subst hb; exact key h2
 | row T size es=>
  obtain ⟨hu,hz,xs,⟨hl,ho⟩,hr⟩:=hc
  rcases ho with ⟨rfl,_⟩ | ⟨g,cap,cur,rfl,h1,h2,h3⟩
  ·simp [cq] at hb
  ·simp [cq] at hb; subst hb; exact key h2
 | k9 T size es=>
  obtain ⟨hu,hz,xs,⟨hl,ho⟩,hr⟩:=hc
  rcases ho with ⟨rfl,_⟩ | ⟨g,cap,cur,rfl,h1,h2,h3⟩
  ·simp [cq] at hb
  ·simp [cq] at hb; subst hb; exact key h2
theorem cell_of_heap {w w':World} {b:Nat} (h:w'.heap[b]? = w.heap[b]?) (o:Nat):w'.cell? ⟨b,o,none⟩ = w.cell? ⟨b,o,none⟩:=by simp [World.cell?,h]
theorem fQ {w:World} {b o:Nat} {v:Value} (h:w.cell? ⟨b,o,none⟩ = some v):b < w.heap.size:=block_lt_of_cell h
theorem WR.step {TB:cG} {E:Env TB} {n:Sh} {own:List (Nat × OC)} {h:PH} {ρ:RM} {w w':World} (hw:WR E n own h ρ w) (k:Nat) (v':Value) (c':OC) (row:Option Nat)
  (hrow:∀ b,row = some b → ∃ c,(k,c) ∈ own ∧ cq (ρ k) = some b)
  (hsize:w.heap.size ≤ w'.heap.size) (hos:w'.os = w.os) (hout:w'.output = w.output) (hsame:∀ b,b < w.heap.size → some b ≠ row → w'.heap[b]? = w.heap[b]?)
  (hc:c'.ok h (tx ρ k v') v' w') (hblk:∀ b,cq v' = some b → row = some b ∨ w.heap.size ≤ b) (hfx:v' = ρ k ∨ k ∉ n.fix) (hnu:v' = ρ k ∨ jo k own = true):WR E n (ins k c' own) h (tx ρ k v') w':=by
 have hren:∀ j x,(j,x) ∈ own → ∀ i,x.cI i = true → tx ρ k v' i = ρ i:=fun j x hx i hi=>by
  by_cases e:i = k
  ·subst e
   rcases hnu with h | h
   ·rw [eN]; exact h
   ·rw [vw h hx] at hi; simp at hi
  ·exact gP _ _ e
 have hrowx:∀ b,row = some b → (E.w0.heap.size ≤ b ∨ uT E n b) ∧ (∀ o,h b o = none):=fun b hb=>by
  obtain ⟨c,hc1,hc2⟩:=hrow b hb
  exact (hw.owned k c hc1).2.1 b hc2
 have hnew:∀ b,w.heap.size ≤ b → ∀ o,h b o = none:=fun b hb o=>by
  cases e:h b o with
  | none=>rfl
  | some u=>have:=fQ (hw.agree b o u e); omega
 have hothers:∀ j x,(j,x) ∈ own → j ≠ k → x.ok h ρ (ρ j) w ∧ x.ok h (tx ρ k v') (ρ j) w' ∧ ∀ b,cq (ρ j) = some b → row ≠ some b ∧ b < w.heap.size:=fun j x hx hj=>by
  have h1:=hw.owned j x hx
  have h2:∀ b,cq (ρ j) = some b → row ≠ some b ∧ b < w.heap.size:=fun b hb=>by
   refine ⟨fun hr=>?_,h1.1.lt hb⟩
   obtain ⟨c,hc1,hc2⟩:=hrow b hr
   exact h1.2.2 k c hc1 (fun e=>hj e.symm) b hb hc2
  exact ⟨h1.1,(h1.1.congr fun b hb=>hsame b (h2 b hb).2 fun e=>(h2 b hb).1 e.symm).ren (hren j x hx),h2⟩
 refine ⟨?_,hw.le,hw.fresh,Nat.le_trans hw.size hsize,?_,?_,hos.trans hw.os,hout.trans hw.out,hw.nl,?_⟩
 ·intro b o u hu
  have hcell:=hw.agree b o u hu
  have hlt:=fQ hcell
  have hne:some b ≠ row:=fun e=>by have:=(hrowx b e.symm).2 o; rw [this] at hu; simp at hu
  rw [cell_of_heap (hsame b hlt hne)]; exact hcell
 ·intro b hb hl
  have hlt:b < w.heap.size:=Nat.lt_of_lt_of_le hb hw.size
  have hne:some b ≠ row:=fun e=>by
   rcases (hrowx b e.symm).1 with h1 | h1
   ·omega
   ·exact hl h1
  rw [hsame b hlt hne]; exact hw.same b hb hl
 ·intro j hj
  by_cases e:j = k
  ·subst e
   rw [eN]
   rcases hfx with h | h
   ·rw [h]; exact hw.fixed j hj
   ·exact absurd hj h
  ·rw [gP _ _ e]; exact hw.fixed j hj
 ·intro j x hx
  rcases pE hx with ⟨rfl,rfl⟩ | ⟨hj,hx⟩
  ·rw [eN]
   refine ⟨hc,?_,?_⟩
   ·intro b hb
    rcases hblk b hb with h1 | h1
    ·exact hrowx b h1
    ·exact ⟨.inl (Nat.le_trans hw.size h1),hnew b h1⟩
   ·intro i y hy hij b hb
    rcases pE hy with ⟨h1,_⟩ | ⟨h1,h2⟩
    ·exact absurd h1 hij
    ·rw [gP _ _ h1]
     intro hb'
     have h3:=(hothers i y h2 h1).2.2 b hb'
     rcases hblk b hb with h4 | h4
     ·exact h3.1 h4
     ·omega
  ·rw [gP _ _ hj]
   obtain ⟨h1,h2,h3⟩:=hothers j x hx hj
   refine ⟨h2,(hw.owned j x hx).2.1,?_⟩
   intro i y hy hij b hb
   rcases pE hy with ⟨rfl,rfl⟩ | ⟨hik,h5⟩
   ·rw [eN]
    intro hb'
    rcases hblk b hb' with h4 | h4
    ·exact (h3 b hb).1 h4
    ·have:=(h3 b hb).2; omega
   ·rw [gP _ _ hik]
    exact (hw.owned j x hx).2.2 i y h5 hij b hb
def aggD:TypeDesc → Bool
 | .struct _ | .array _ _=>true
 | _=>false
structure gJ (P:Program) (t:TypeId) (n:Nat):Prop where
 und:∃ d,P.underlying t = some d ∧ aggD d = true
 size:∃ i,P.info? t = some i ∧ i.size = n
structure fG (P:Program) (t:TypeId):Prop where
 und:∃ d,P.underlying t = some d ∧ aggD d = false
 size:∃ i,P.info? t = some i ∧ i.size = 1
structure cX (P:Program) (t:TypeId) (f off:Nat) (ft:TypeId):Prop where
 und:∃ fs fd i,P.underlying t = some (.struct fs) ∧ fs[f]? = some fd ∧ fd.offset = off ∧ fd.type = ft ∧ P.info? ft = some i ∧ 0 < i.size
structure og (P:Program) (t e:TypeId) (size bytes:Nat) (zs:List CP):Prop where
 und:P.underlying t = some (.slice e)
 info:∃ i z,P.info? e = some i ∧ i.size = size ∧ i.bytes = bytes ∧ i.zero = some z ∧ z.cells.size = size ∧ 0 < size ∧ cvs z.cells.toList = some zs
structure jL (P:Program) (t:TypeId) (zs:List CP):Prop where
 info:∃ i z,P.info? t = some i ∧ i.zero = some z ∧ cvs z.cells.toList = some zs
theorem mN {P:Program} {t:TypeId} {d:TypeDesc} (hd:P.underlying t = some d) (w:World):(isAgg t).run P w = .ok (aggD d) w:=by
 unfold isAgg
 rw [Sem.run_bind,run_underlying hd]
 cases d <;> rfl
theorem run_sizeOf {P:Program} {t:TypeId} {i:TypeInfo} (hi:P.info? t = some i) (w:World):(sizeOf t).run P w = .ok i.size w:=by
 simp [sizeOf,typeInfo,hi]
theorem Reads.list {h:PH} {b:Nat}:∀ {ps:List CP} {o:Nat},Reads h b o ps → ∃ cs,bd h ps cs ∧ ∀ j v,cs[j]? = some v → h b (o + j) = some v
 | [],_,_=>⟨[],.nil,fun j v hv=>by simp at hv⟩
 | p :: ps,o,hr=>by
  obtain ⟨u,hu,hpu⟩:=hr 0 p (by simp)
  obtain ⟨cs,h1,h2⟩:=Reads.list (ps:=ps) (o:=o + 1) (fun j c hc=>by
   obtain ⟨u,hu,hr⟩:=hr (j + 1) c (by simpa using hc)
   exact ⟨u,by rw [Nat.add_assoc,Nat.add_comm 1 j]; exact hu,hr⟩)
  refine ⟨u :: cs,.cons hpu h1,fun j v hv=>?_⟩
  cases j with
  | zero=>simp at hv; subst hv; exact hu
  | succ j=>have:=h2 j v (by simpa using hv); rw [Nat.add_assoc,Nat.add_comm 1 j] at this; exact this
theorem kO {P:Program} {t:TypeId} {n:Nat} (ht:gJ P t n) {w:World} {b o:Nat} {cs:List Value} (hl:cs.length = n) (hc:∀ j v,cs[j]? = some v → w.cell? ⟨b,o + j,none⟩ = some v) :
  (loadVar t ⟨b,o,none⟩).run P w = .ok (.agg cs.toArray) w:=by
 obtain ⟨d,hd,ha⟩:=ht.und
 obtain ⟨i,hi,hn⟩:=ht.size
 have hh:∀ j v,cs[j]? = some v → w.cell? ((⟨b,o,none⟩:Addr).add j) = some v:=fun j v hv=>by rw [Addr.add_lit]; exact hc j v hv
 have hrun:=run_loadCells_list (P:=P) w ⟨b,o,none⟩ cs hh
 unfold loadVar
 rw [Sem.run_bind,mN hd,Result.andThen,ha]
 simp only [if_true]
 rw [Sem.run_bind,run_sizeOf hi,Result.andThen,hn,← hl,Sem.run_bind,hrun]
 rfl
theorem kN {P:Program} {t:TypeId} (ht:fG P t) {w:World} {b o:Nat} {v:Value} (hc:w.cell? ⟨b,o,none⟩ = some v):(loadVar t ⟨b,o,none⟩).run P w = .ok v w:=by
 obtain ⟨d,hd,ha⟩:=ht.und
 unfold loadVar
 rw [Sem.run_bind,mN hd,Result.andThen,ha]
 simp [load,Sem.run,hc]
section
variable {P:Program} {TB:cG} {E:Env TB} {n:Sh} {s:St} {dst:Option Nat} {t ty yt:TypeId} {pos:String} {after:Array Edge} {g:Option (Nat × Bool)} {x y c:Operand}
theorem vo {ps qs:List CP} {m:Nat} (ht:gJ P t m) (hx:s.ev x = some (.b (.qn ps))) (hp:ps.take m = qs) (hq:qs.length = m) :
  bY P E n ⟨dst,.load t x,ty,pos,after,g⟩ s (s.put n dst (.b (.agg qs))) :=
 bY.val (o:=⟨dst,.load t x,ty,pos,after,g⟩) fun ac w h ρ hw hs=>by
  obtain ⟨b,o,he,hr⟩:=(bC hs hx:BV.rel h ρ (.qn ps) _)
  have hr':Reads h b o qs:=fun j c hc=>hr j c (by
   rw [← hp] at hc
   rw [List.getElem?_take] at hc
   split at hc
   ·exact hc
   ·simp at hc)
  obtain ⟨cs,h1,h2⟩:=hr'.list
  refine ⟨.agg cs.toArray,?_,cs.toArray,rfl,by simpa using h1⟩
  have:=kO ht (w:=w) (b:=b) (o:=o) (cs:=cs) (by rw [← h1.length,hq]) (fun j v hv=>hw.agree _ _ _ (h2 j v hv))
  simp only [execOp,he,Instr.loadAt,Instr.sureAddr]
  simp [this]
theorem fk {ps:List CP} {p:CP} (ht:fG P t) (hx:s.ev x = some (.b (.qn ps))) (hp:ps[0]? = some p) :
  bY P E n ⟨dst,.load t x,ty,pos,after,g⟩ s (s.put n dst (.b (.one p))) :=
 bY.val (o:=⟨dst,.load t x,ty,pos,after,g⟩) fun ac w h ρ hw hs=>by
  obtain ⟨b,o,he,hr⟩:=(bC hs hx:BV.rel h ρ (.qn ps) _)
  obtain ⟨u,hu,hpu⟩:=hr 0 p hp
  have:=kN ht (w:=w) (b:=b) (o:=o) (v:=u) (hw.agree _ _ _ hu)
  refine ⟨u,?_,hpu⟩
  simp only [execOp,he,Instr.loadAt,Instr.sureAddr]
  simp [this]
theorem jk {h:PH} {ρ:RM} {own:List (Nat × OC)} {w:World} (hw:WR E n own h ρ w) {k:Nat} {T:TypeId} {ps:List CP} (hk:lk own k = some (.box T ps)) :
  ∃ b cur,ρ k = .pointer (some ⟨b,0,none⟩) ∧ w.heap[b]? = some (.cells cur T (0,0)) ∧ bd h ps cur.toList :=
 (hw.owned k _ (dl hk)).1
theorem hO {w:World} {b:Nat} {cur:Array Value} {T:TypeId} {fr:Nat × Nat} (hb:w.heap[b]? = some (.cells cur T fr)) (o:Nat):w.cell? ⟨b,o,none⟩ = cur[o]?:=by simp [World.cell?,hb]
theorem aQ {k off:Nat} {T:TypeId} {ps qs:List CP} {m:Nat} (ht:gJ P t m) (hx:s.ev x = some (.b (.ptr k off))) (hk:lk s.own k = some (.box T ps)) (hp:(ps.drop off).take m = qs) (hq:qs.length = m) :
  bY P E n ⟨dst,.load t x,ty,pos,after,g⟩ s (s.put n dst (.b (.agg qs))) :=
 bY.val (o:=⟨dst,.load t x,ty,pos,after,g⟩) fun ac w h ρ hw hs=>by
  obtain ⟨b,he,hv⟩:=(bC hs hx:BV.rel h ρ (.ptr k off) _)
  obtain ⟨b',cur,hb1,hb2,hb3⟩:=jk hw hk
  have:b' = b:=by rw [hb1] at he; simpa using he
  subst this
  have hc:bd h qs ((cur.toList.drop off).take m):=by rw [← hp]; exact bT.take (bT.drop hb3 off) m
  refine ⟨.agg ((cur.toList.drop off).take m).toArray,?_,_,rfl,by simpa using hc⟩
  have:=kO ht (w:=w) (b:=b') (o:=off) (cs:=(cur.toList.drop off).take m) (by rw [← hc.length,hq]) (fun j v hv=>by
   rw [hO hb2]
   rw [List.getElem?_take] at hv
   split at hv
   ·simpa using hv
   ·simp at hv)
  simp only [execOp,hv,Instr.loadAt,Instr.sureAddr]
  simp [this]
theorem ax {k off:Nat} {T:TypeId} {ps:List CP} {p:CP} (ht:fG P t) (hx:s.ev x = some (.b (.ptr k off))) (hk:lk s.own k = some (.box T ps)) (hp:ps[off]? = some p) :
  bY P E n ⟨dst,.load t x,ty,pos,after,g⟩ s (s.put n dst (.b (.one p))) :=
 bY.val (o:=⟨dst,.load t x,ty,pos,after,g⟩) fun ac w h ρ hw hs=>by
  obtain ⟨b,he,hv⟩:=(bC hs hx:BV.rel h ρ (.ptr k off) _)
  obtain ⟨b',cur,hb1,hb2,hb3⟩:=jk hw hk
  have:b' = b:=by rw [hb1] at he; simpa using he
  subst this
  obtain ⟨u,hu,hpu⟩:=hb3.get off p hp
  have:=kN ht (w:=w) (b:=b') (o:=off) (v:=u) (by rw [hO hb2]; simpa using hu)
  refine ⟨u,?_,hpu⟩
  simp only [execOp,hv,Instr.loadAt,Instr.sureAddr]
  simp [this]
theorem yc {f off:Nat} {ft:TypeId} (ht:cX P t f off ft) (w:World) (b o:Nat):(Instr.fieldAt t (.pointer (some ⟨b,o,none⟩)) f).run P w = .ok (.pointer (some ⟨b,o + off,none⟩)) w:=by
 obtain ⟨fs,fd,i,h1,h2,rfl,rfl,h5,h6⟩:=ht.und
 unfold Instr.fieldAt
 rw [Sem.run_bind,run_underlying h1,Result.andThen]
 simp only [h2]
 have hz:¬ i.size = 0:=by omega
 simp [Instr.sureAddr,fieldPlace,sizeOf,typeInfo,h5,hz,Addr.add_lit]
theorem af {f off k o o':Nat} {ft:TypeId} (ht:cX P t f off ft) (hx:s.ev x = some (.b (.ptr k o))) (ho:o + off = o') :
  bY P E n ⟨dst,.fieldAddr t x f,ty,pos,after,g⟩ s (s.put n dst (.b (.ptr k o'))) :=
 bY.val (o:=⟨dst,.fieldAddr t x f,ty,pos,after,g⟩) fun ac w h ρ hw hs=>by
  obtain ⟨b,he,hv⟩:=(bC hs hx:BV.rel h ρ (.ptr k o) _)
  refine ⟨.pointer (some ⟨b,o + off,none⟩),?_,b,he,by rw [ho]⟩
  simp only [execOp,hv]
  simp [yc ht]
theorem pn {e:TypeId} {size bytes:Nat} {zs:List CP} (ht:og P t e size bytes zs) (w:World) (b o len cap:Nat) (k:IntKind) (i:Int) (h0:0 ≤ i) (h1:i < len) :
  (Instr.indexAt t (.slice (some ⟨b,o,none⟩) len cap) (.int k i)).run P w = .ok (.pointer (some ⟨b,o + i.toNat * size,none⟩)) w:=by
 obtain ⟨inf,z,hi,rfl,_⟩:=ht.info
 have hel:P.underlying t = some (.slice e):=ht.und
 simp [Instr.indexAt,run_underlying hel,asIntOf,h0,h1,sizeOf,typeInfo,hi,Addr.add_lit]
theorem ef {e:TypeId} {size bytes:Nat} {zs ps:List CP} {es:List (List CP)} {k:IntKind} {i:Int} (ht:og P t e size bytes zs) (h0:0 ≤ i) (hi:es[i.toNat]? = some ps)
  (hx:s.ev x = some (.b (.one (.sl size es)))) (hy:s.ev y = some (.b (.one (.int k i)))) :
  bY P E n ⟨dst,.indexAddr t x y,ty,pos,after,g⟩ s (s.put n dst (.b (.qn ps))) :=
 bY.val (o:=⟨dst,.indexAddr t x y,ty,pos,after,g⟩) fun ac w h ρ hw hs=>by
  obtain ⟨hu,hz,hv⟩:=(bC hs hx:(CP.sl size es).rel h _)
  have hlt:=(List.getElem?_eq_some_iff.1 hi).1
  rcases hv with ⟨_,rfl⟩ | ⟨b,o,c,hv,hc1,hc2,hr⟩
  ·simp at hlt
  ·refine ⟨.pointer (some ⟨b,o + i.toNat * size,none⟩),?_,b,_,rfl,hr.elem hu _ _ hi⟩
   simp only [execOp,hv,(cj hs hy).1]
   simp [pn ht w b o es.length c k i h0 (by omega)]
theorem gB {e T:TypeId} {j size size' bytes o:Nat} {zs:List CP} {es:List (List CP)} {k:IntKind} {i:Int} (ht:og P t e size bytes zs) (h0:0 ≤ i) (h1:i < es.length)
  (hx:s.ev x = some (.b (.row j))) (hk:lk s.own j = some (.row T size' es)) (hy:s.ev y = some (.b (.one (.int k i)))) (ho:i.toNat * size = o) :
  bY P E n ⟨dst,.indexAddr t x y,ty,pos,after,g⟩ s (s.put n dst (.b (.j2 j o))) :=
 bY.val (o:=⟨dst,.indexAddr t x y,ty,pos,after,g⟩) fun ac w h ρ hw hs=>by
  have hv:ac.eval x = ρ j:=(bC hs hx:BV.rel h ρ (.row j) _)
  obtain ⟨hu,hz,xs,⟨_,how⟩,hr⟩:=(hw.owned j _ (dl hk)).1
  rcases how with ⟨_,he⟩ | ⟨b,cap,cur,hρ,_,hb,hc1,hc2,hc3,hc4⟩
  ·omega
  ·refine ⟨.pointer (some ⟨b,i.toNat * size,none⟩),?_,b,es.length,cap,hρ,by rw [ho]⟩
   simp only [execOp,hv,hρ,(cj hs hy).1]
   simp [pn ht w b 0 es.length cap k i h0 (by omega)]
theorem s6 {e:TypeId} {m size:Nat} {inf:TypeInfo} (hu:P.underlying t = some (.array m e)) (hi:P.info? e = some inf) (hs:inf.size = size) (w:World) (b o:Nat) (k:IntKind) (i:Int) (h0:0 ≤ i) (h1:i < m) :
  (Instr.indexAt t (.pointer (some ⟨b,o,none⟩)) (.int k i)).run P w = .ok (.pointer (some ⟨b,o + i.toNat * size,none⟩)) w:=by
 subst hs
 simp [Instr.indexAt,run_underlying hu,asIntOf,Instr.sureAddr,h0,h1,sizeOf,typeInfo,hi,Addr.add_lit]
structure mC (P:Program) (t e:TypeId) (m size:Nat):Prop where
 und:P.underlying t = some (.array m e)
 info:∃ i,P.info? e = some i ∧ i.size = size
theorem aN {e:TypeId} {m size j o o':Nat} {k:IntKind} {i:Int} (ht:mC P t e m size) (h0:0 ≤ i) (h1:i < m) (hx:s.ev x = some (.b (.ptr j o))) (hy:s.ev y = some (.b (.one (.int k i)))) (ho:o + i.toNat * size = o') :
  bY P E n ⟨dst,.indexAddr t x y,ty,pos,after,g⟩ s (s.put n dst (.b (.ptr j o'))) :=
 bY.val (o:=⟨dst,.indexAddr t x y,ty,pos,after,g⟩) fun ac w h ρ hw hs=>by
  obtain ⟨b,he,hv⟩:=(bC hs hx:BV.rel h ρ (.ptr j o) _)
  obtain ⟨inf,hi,hsz⟩:=ht.info
  refine ⟨.pointer (some ⟨b,o + i.toNat * size,none⟩),?_,b,he,by rw [ho]⟩
  simp only [execOp,hv,(cj hs hy).1]
  simp [s6 ht.und hi hsz w b o k i h0 h1]
theorem aR {j o:Nat} (hx:s.ev x = some (.b (.ptr j o))):bY P E n ⟨dst,.nilCheck x,ty,pos,after,g⟩ s (s.put n dst (.b (.ptr j o))) :=
 bY.val (o:=⟨dst,.nilCheck x,ty,pos,after,g⟩) fun ac w h ρ hw hs=>by
  obtain ⟨b,he,hv⟩:=(bC hs hx:BV.rel h ρ (.ptr j o) _)
  refine ⟨.pointer (some ⟨b,o,none⟩),?_,b,he,rfl⟩
  simp only [execOp,hv]; rfl
end
end Go.Sk
namespace Go.Sk
set_option linter.unusedSimpArgs false
set_option linter.unusedVariables false
open Go Go.BigFrame
theorem pD (l:bg):(⟨⟨l⟩⟩:ByteArray).size = l.length:=rfl
section
variable {P:Program} {TB:cG} {E:Env TB} {n:Sh} {s:St} {dst:Option Nat} {t ty yt:TypeId} {pos:String} {after:Array Edge} {g:Option (Nat × Bool)} {x y c:Operand}
theorem len_le {h:PH} {size:Nat} {es:List (List CP)} {v:Value} (hv:(CP.sl size es).rel h v):es.length ≤ maxLen:=by
 rcases hv.2.2 with ⟨_,rfl⟩ | ⟨b,o,c,_,h1,h2,_⟩
 ·simp
 ·omega
theorem dZ:maxLen = 9223372036854775807:=by simp [maxLen]
theorem rc {m:Nat} (h:m ≤ maxLen):rW .i64 (m:Int):=by rw [dZ] at h; exact inR_i64 (by omega) (by omega)
theorem Dx {size:Nat} {es:List (List CP)} {e:TypeId} (ht:P.underlying t = some (.slice e)) (hx:s.ev x = some (.b (.one (.sl size es)))) :
  bY P E n ⟨dst,.call ⟨.builtin .len,#[x],#[t]⟩,ty,pos,after,g⟩ s (s.put n dst (I (es.length:Int))) :=
 bY.val (o:=⟨dst,.call ⟨.builtin .len,#[x],#[t]⟩,ty,pos,after,g⟩) fun ac w h ρ hw hs=>by
  have hv:=(bC hs hx:(CP.sl size es).rel h _)
  have hl:=len_le hv
  refine ⟨.int .i64 es.length,?_,rfl,rc hl⟩
  rw [execOp_builtin,builtin_len]
  rcases hv.2.2 with ⟨hv1,rfl⟩ | ⟨b,o,c,hv1,_⟩ <;> simp [hv1,Builtin.len_,run_underlying ht,goInt]
theorem b6 {z:bg} (ht:P.underlying t = some .string) (hx:s.ev x = some (.b (.one (.str z)))) :
  bY P E n ⟨dst,.call ⟨.builtin .len,#[x],#[t]⟩,ty,pos,after,g⟩ s (s.put n dst (I (z.length:Int))) :=
 bY.val (o:=⟨dst,.call ⟨.builtin .len,#[x],#[t]⟩,ty,pos,after,g⟩) fun ac w h ρ hw hs=>by
  obtain ⟨hv,hl⟩:=kw hs hx
  refine ⟨.int .i64 z.length,?_,rfl,rc hl⟩
  rw [execOp_builtin,builtin_len]
  simp [hv,Builtin.len_,run_underlying ht,goInt,pD]
theorem oE {TB:cG} {E:Env TB} {n:Sh} {h:PH} {ρ:RM} {own:List (Nat × OC)} {w:World} (hw:WR E n own h ρ w) {k:Nat} {T:TypeId} {size:Nat} {es:List (List CP)} (hk:lk own k = some (.row T size es)) :
  eC size es ∧ 0 < size ∧ ((ρ k = .slice none 0 0 ∧ es = []) ∨ ∃ b cap cur,ρ k = .slice (some ⟨b,0,none⟩) es.length cap ∧ w.heap[b]? = some (.cells cur T (0,0)) ∧ es.length ≤ cap ∧ cap ≤ maxLen ∧ cur.size = cap * size ∧
   bd h es.flatten (cur.toList.take (es.length * size))):=by
 obtain ⟨hu,hz,xs,⟨hl,how⟩,hr⟩:=(hw.owned k _ (dl hk)).1
 refine ⟨hu,hz,?_⟩
 rcases how with ⟨h1,he⟩ | ⟨b,cap,cur,h1,_,h3,h4,h5,h6,h7⟩
 ·exact .inl ⟨h1,by cases es <;> simp_all⟩
 ·exact .inr ⟨b,cap,cur,h1,h3,h4,h5,h6,by rw [h7]; exact hr⟩
theorem Dw {k size:Nat} {T e:TypeId} {es:List (List CP)} (ht:P.underlying t = some (.slice e)) (hx:s.ev x = some (.b (.row k))) (hk:lk s.own k = some (.row T size es)) :
  bY P E n ⟨dst,.call ⟨.builtin .len,#[x],#[t]⟩,ty,pos,after,g⟩ s (s.put n dst (I (es.length:Int))) :=
 bY.val (o:=⟨dst,.call ⟨.builtin .len,#[x],#[t]⟩,ty,pos,after,g⟩) fun ac w h ρ hw hs=>by
  have hv:ac.eval x = ρ k:=(bC hs hx:BV.rel h ρ (.row k) _)
  obtain ⟨_,_,hf⟩:=oE hw hk
  rw [execOp_builtin,builtin_len]
  rcases hf with ⟨h1,rfl⟩ | ⟨b,cap,cur,h1,_,h2,h3,_⟩
  ·exact ⟨.int .i64 0,by simp [hv,h1,Builtin.len_,run_underlying ht,goInt],rfl,rc (by simp)⟩
  ·exact ⟨.int .i64 es.length,by simp [hv,h1,Builtin.len_,run_underlying ht,goInt],rfl,rc (by omega)⟩
theorem ay {l:List BV} {i:Nat} {z:BV} (hx:s.ev x = some (.fE l)) (hi:l[i]? = some z):bY P E n ⟨dst,.extract x i,ty,pos,after,g⟩ s (s.put n dst (.b z)) :=
 bY.val (o:=⟨dst,.extract x i,ty,pos,after,g⟩) fun ac w h ρ hw hs=>by
  obtain ⟨vs,hv,ha⟩:=(bC hs hx:SV.rel h ρ (.fE l) _)
  obtain ⟨u,hu,hr⟩:=ha.get i z hi
  have:vs[i]? = some u:=by simpa using hu
  exact ⟨u,by simp only [execOp,hv]; simp [Instr.extract,this],hr⟩
theorem cf {z:bg} {k:IntKind} {i:Int} {b:UInt8} (ht:P.underlying t = some .string) (hx:s.ev x = some (.b (.one (.str z)))) (hy:s.ev y = some (.b (.one (.int k i)))) (h0:0 ≤ i) (hi:z[i.toNat]? = some b) :
  bY P E n ⟨dst,.index t x y,ty,pos,after,g⟩ s (s.put n dst (.b (.one (.int .u8 b.toNat)))) :=
 bY.val (o:=⟨dst,.index t x y,ty,pos,after,g⟩) fun ac w h ρ hw hs=>by
  obtain ⟨hv,hl⟩:=kw hs hx
  have hlt:=(List.getElem?_eq_some_iff.1 hi).1
  have hsz:(⟨⟨z⟩⟩:ByteArray)[i.toNat]? = some b:=by
   have:i.toNat < (⟨⟨z⟩⟩:ByteArray).size:=hlt
   rw [getElem?_pos (⟨⟨z⟩⟩:ByteArray) i.toNat this]
   exact congrArg some (List.getElem?_eq_some_iff.1 hi).2
  refine ⟨.int .u8 b.toNat,?_,rfl,?_⟩
  ·simp only [execOp,hv,(cj hs hy).1]
   simp [Instr.index,asIntOf,run_underlying ht,h0,hsz]
  ·have:=b.toNat_lt
   simp [rW,IntKind.min,IntKind.max,IntKind.signed,IntKind.bits]
   omega
def cP {α:Type} (ps:List α) (off:Nat) (qs:List α):List α:=ps.take off ++ qs ++ ps.drop (off + qs.length)
theorem bT.cP {α β:Type} {r:α → β → Prop} {as:List α} {bs:List β} {qs:List α} {us:List β} (h:bT r as bs) (hq:bT r qs us) (off:Nat):bT r (Sk.cP as off qs) (Sk.cP bs off us):=by
 unfold Sk.cP
 rw [hq.length]
 exact ((h.take off).append hq).append (h.drop _)
theorem nS {m:Nat} {i:TypeInfo} (hi:P.info? t = some i) (hm:i.size = m) {w:World} {b o:Nat} {cur:Array Value} {T:TypeId} (hb:w.heap[b]? = some (.cells cur T (0,0))) {v:Value} (hl:v.cells.size = m)
  (ho:o + m ≤ cur.size) (h1:∀ u ∈ v.cells.toList,u.oneCell' = true) :
  (storeVar t ⟨b,o,none⟩ v).run P w = .ok () (w.setRow b (Sk.cP cur.toList o v.cells.toList).toArray):=by
 subst hm
 have:=run_storeCells_at P b o T v.cells.toList 0 cur w hb (by simp; omega) h1
 simp [storeVar,sizeOf,typeInfo,hi,hl,this,Sk.cP]
structure De (P:Program) (t:TypeId) (m:Nat):Prop where
 info:∃ i,P.info? t = some i ∧ i.size = m
theorem gJ.sz {m:Nat} (h:gJ P t m):De P t m:=⟨h.size⟩
theorem fG.sz (h:fG P t):De P t 1:=⟨h.size⟩
theorem WR.Cz {h:PH} {ρ:RM} {own:List (Nat × OC)} {w:World} (hw:WR E n own h ρ w) {k b:Nat} {T:TypeId} {ps ps':List CP} {cur:Array Value} {cs:List Value} (hk:lk own k = some (.box T ps)) (hρ:ρ k = .pointer (some ⟨b,0,none⟩))
  (hb:w.heap[b]? = some (.cells cur T (0,0))) (hr:bd h ps' cs):WR E n (ins k (.box T ps') own) h ρ (w.setRow b cs.toArray):=by
 have hst:=hw.step (w':=w.setRow b cs.toArray) k (ρ k) (.box T ps') (some b) (fun b' e=>by cases e; exact ⟨_,dl hk,by rw [hρ]; rfl⟩) (by simp) rfl rfl
  (fun b' _ hne=>setRow_other _ _ _ _ (fun e=>hne (by rw [e]))) ⟨b,cs.toArray,hρ,setRow_heap _ _ _ _ _ _ hb,by simpa using hr⟩ (fun b' hb'=>by rw [hρ] at hb'; simp [cq] at hb'; exact .inl (by rw [hb'])) (.inl rfl) (.inl rfl)
 have:tx ρ k (ρ k) = ρ:=by funext j; simp only [tx]; split <;> simp_all
 rwa [this] at hst
theorem bY.store {o:Oper} {own':List (Nat × OC)} (hd:o.dst = none)
  (H:∀ (a:Act) (w:World) (h:PH) (ρ:RM),WR E n s.own h ρ w → ck h ρ s.slots a.tmps → ∃ w',(execOp a.eval o).run P w = .ok .skip w' ∧ WR E n own' h ρ w'):bY P E n o s ⟨s.slots,own'⟩:=by
 intro a w ⟨hdf,hn,h,ρ,hw,hs⟩ next Q hnext
 obtain ⟨w',hv,hw'⟩:=H a w h ρ hw hs
 unfold Oper.wp
 rw [hv]
 refine hnext _ _ ?_
 rw [hd]
 exact ⟨hdf,hn,h,ρ,hw',hs⟩
theorem bQ {k off:Nat} {T:TypeId} {ps ps':List CP} {p:CP} (ht:fG P t) (hx:s.ev x = some (.b (.ptr k off))) (hk:lk s.own k = some (.box T ps)) (hy:s.ev y = some (.b (.one p))) (hlt:off < ps.length) (hps:ps.set off p = ps') :
  bY P E n ⟨none,.store t x y,ty,pos,after,g⟩ s ⟨s.slots,ins k (.box T ps') s.own⟩ :=
 bY.store (o:=⟨none,.store t x y,ty,pos,after,g⟩) rfl fun ac w h ρ hw hs=>by
  obtain ⟨b,he,hv⟩:=(bC hs hx:BV.rel h ρ (.ptr k off) _)
  obtain ⟨b',cur,hb1,hb2,hb3⟩:=jk hw hk
  have:b' = b:=by rw [hb1] at he; simpa using he
  subst this
  have hp:p.rel h (ac.eval y):=bC hs hy
  have h1:=p.one hp
  obtain ⟨i,hi,hm⟩:=ht.size
  have hcells:(ac.eval y).cells = #[ac.eval y]:=by cases hq:ac.eval y <;> first | rfl | (rw [hq] at h1; simp [Value.oneCell'] at h1)
  have hlen:=hb3.length
  have hrun:=nS (P:=P) (t:=t) hi hm hb2 (v:=ac.eval y) (o:=off) (by rw [hcells]; rfl) (by simp at hlen; omega) (by rw [hcells]; simpa using h1)
  refine ⟨_,by simp only [execOp,hv,Instr.storeAt,Instr.sureAddr]; simp [hrun]; rfl,?_⟩
  refine hw.Cz hk hb1 hb2 ?_
  rw [← hps]
  have hset:Sk.cP cur.toList off (ac.eval y).cells.toList = cur.toList.set off (ac.eval y):=by
   rw [hcells]
   have:off < cur.toList.length:=by rw [← hlen]; exact hlt
   simp only [Sk.cP,List.length_cons,List.length_nil]
   rw [List.set_eq_take_append_cons_drop,if_pos this]; simp
  rw [hset]
  exact bT.set hb3 off hp
theorem ag {k off m:Nat} {T:TypeId} {ps ps' qs:List CP} (ht:gJ P t m) (hx:s.ev x = some (.b (.ptr k off))) (hk:lk s.own k = some (.box T ps)) (hy:s.ev y = some (.b (.agg qs))) (hq:qs.length = m) (hlt:off + m ≤ ps.length) (hps:Sk.cP ps off qs = ps') :
  bY P E n ⟨none,.store t x y,ty,pos,after,g⟩ s ⟨s.slots,ins k (.box T ps') s.own⟩ :=
 bY.store (o:=⟨none,.store t x y,ty,pos,after,g⟩) rfl fun ac w h ρ hw hs=>by
  obtain ⟨b,he,hv⟩:=(bC hs hx:BV.rel h ρ (.ptr k off) _)
  obtain ⟨b',cur,hb1,hb2,hb3⟩:=jk hw hk
  have:b' = b:=by rw [hb1] at he; simpa using he
  subst this
  obtain ⟨cs,hcv,hcr⟩:=(bC hs hy:BV.rel h ρ (.agg qs) _)
  obtain ⟨i,hi,hm⟩:=ht.size
  have hlen:=hb3.length
  have hlen2:=hcr.length
  have hrun:=nS (P:=P) (t:=t) hi hm hb2 (v:=.agg cs) (o:=off) (by simp [Value.cells] at hlen2 ⊢; omega) (by simp at hlen; omega) (by simpa [Value.cells] using hcr.one)
  refine ⟨_,by simp only [execOp,hv,hcv,Instr.storeAt,Instr.sureAddr]; simp [hrun]; rfl,?_⟩
  refine hw.Cz hk hb1 hb2 ?_
  rw [← hps]
  exact bT.cP hb3 hcr off
end
end Go.Sk
namespace Go.Sk
set_option linter.unusedSimpArgs false
set_option linter.unusedVariables false
open Go Go.BigFrame
section
variable {P:Program} {TB:cG} {E:Env TB} {n:Sh} {s:St} {dst:Option Nat} {t ty yt:TypeId} {pos:String} {after:Array Edge} {g:Option (Nat × Bool)} {x y c:Operand}
theorem bY.make {o:Oper} {k:Nat} {c':OC} {res:SV} (H:∀ (a:Act) (w:World) (h:PH) (ρ:RM),WR E n s.own h ρ w → ck h ρ s.slots a.tmps →
      ∃ v' vk w' row,(execOp a.eval o).run P w = .ok (.value v') w' ∧ (∀ b,row = some b → ∃ c,(k,c) ∈ s.own ∧ cq (ρ k) = some b) ∧ w.heap.size ≤ w'.heap.size ∧ w'.os = w.os ∧ w'.output = w.output ∧
        (∀ b,b < w.heap.size → some b ≠ row → w'.heap[b]? = w.heap[b]?) ∧ c'.ok h (tx ρ k vk) vk w' ∧ (∀ b,cq vk = some b → row = some b ∨ w.heap.size ≤ b) ∧ res.rel h (tx ρ k vk) v') (hfx:n.fix.contains k = false) (hnu:jo k s.own = true:=by rfl) :
    bY P E n o s ((⟨eJ k s.slots,ins k c' s.own⟩:St).put n o.dst res):=by
  intro a w ⟨hdf,hn,h,ρ,hw,hs⟩ next Q hnext
  obtain ⟨v',vk,w',row,hv,h1,h2,h3,h4,h5,h6,h7,h8⟩:=H a w h ρ hw hs
  unfold Oper.wp
  rw [hv]
  exact hnext _ _ (R.put (s:=⟨eJ k s.slots,ins k c' s.own⟩) hdf hn (hw.step k vk c' row h1 h2 h3 h4 h5 h6 h7 (.inr fun e=>by simp at hfx; exact hfx e) (.inr hnu)) (hs.eJ k vk) h8)
theorem aA {T k:Nat} {zs:List CP} (ht:jL P T zs) (hfx:n.fix.contains k = false) (hnu:jo k s.own = true:=by rfl):bY P E n ⟨dst,.alloc T,ty,pos,after,g⟩ s ((⟨eJ k s.slots,ins k (.box T zs) s.own⟩:St).put n dst (.b (.ptr k 0))) :=
 bY.make (hfx:=hfx) (hnu:=hnu) (o:=⟨dst,.alloc T,ty,pos,after,g⟩) fun ac w h ρ hw hs=>by
  obtain ⟨i,z,hi,hz,hzs⟩:=ht.info
  refine ⟨.pointer (some ⟨w.heap.size,0,none⟩),.pointer (some ⟨w.heap.size,0,none⟩),w.alloc (.cells z.cells T),none,?_,fun b e=>by simp at e,by simp,rfl,rfl,fun b hb _=>heap_alloc_old w _ hb,⟨w.heap.size,z.cells,rfl,heap_alloc_new w _,mb h hzs⟩,
   fun b e=>by simp [cq] at e; subst e; exact .inr (Nat.le_refl _),w.heap.size,eN _ _ _,rfl⟩
  simp [execOp,Instr.alloc,zeroValue,typeInfo,hi,hz,newVar,newRow]
theorem aS {T k:Nat} {ps:List CP} (hx:s.ev x = some (.b (.agg ps))) (hfx:n.fix.contains k = false) (hnu:jo k s.own = true:=by rfl):bY P E n ⟨dst,.box T x,ty,pos,after,g⟩ s ((⟨eJ k s.slots,ins k (.box T ps) s.own⟩:St).put n dst (.b (.ptr k 0))) :=
 bY.make (hfx:=hfx) (hnu:=hnu) (o:=⟨dst,.box T x,ty,pos,after,g⟩) fun ac w h ρ hw hs=>by
  obtain ⟨cs,hv,hr⟩:=(bC hs hx:BV.rel h ρ (.agg ps) _)
  refine ⟨.pointer (some ⟨w.heap.size,0,none⟩),.pointer (some ⟨w.heap.size,0,none⟩),w.alloc (.cells cs T),none,?_,fun b e=>by simp at e,by simp,rfl,rfl,fun b hb _=>heap_alloc_old w _ hb,⟨w.heap.size,cs,rfl,heap_alloc_new w _,hr⟩,
   fun b e=>by simp [cq] at e; subst e; exact .inr (Nat.le_refl _),w.heap.size,eN _ _ _,rfl⟩
  simp only [execOp,hv]
  simp [Instr.box,newVar,newRow,Value.cells]
def SV.cells:SV → Option (List CP)
 | .b (.one p)=>some [p]
 | .b (.agg ps)=>some ps
 | _=>none
theorem SV.B3 {h:PH} {ρ:RM} {z:SV} {ps:List CP} {v:Value} (hz:z.cells = some ps) (hv:z.rel h ρ v):bd h ps v.cells.toList:=by
 cases z with
 | b z=>cases z with
  | one p=>
   simp [SV.cells] at hz; subst hz
   have h1:=p.one (hv:p.rel h v)
   have hcells:v.cells = #[v]:=by cases v <;> first | rfl | simp [Value.oneCell'] at h1
   rw [hcells]; exact .cons hv .nil
  | agg qs=>simp [SV.cells] at hz; subst hz; obtain ⟨cs,rfl,hr⟩:=hv; exact hr
  | _=>simp [SV.cells] at hz
 | _=>simp [SV.cells] at hz
def l7 (s:St):List (Nat × Operand) → Option (List (Nat × List CP))
 | []=>some []
 | (i,x) :: l=>(s.ev x).bind fun z=>z.cells.bind fun ps=>(l7 s l).map fun r=>(i,ps) :: r
def sy (place:Nat → Option (Nat × Nat)) (zs:List CP):List (Nat × List CP) → Option (List CP)
 | []=>some zs
 | (i,qs) :: r=>(place i).bind fun q=>if qs.length = q.2 ∧ q.1 + qs.length ≤ zs.length then sy place (cP zs q.1 qs) r else none
theorem xJ (off:Nat):∀ (l:List Value) (k:Nat) (cs:Array Value),off + k + l.length ≤ cs.size →
  ((l.zipIdx k).foldl (fun (cs:Array Value) (p:Value × Nat)=>cs.setIfInBounds (off + p.2) p.1) cs).toList = cP cs.toList (off + k) l
 | [],k,cs,_=>by simp [cP]
 | v :: l,k,cs,h=>by
  simp only [List.length_cons] at h
  rw [List.zipIdx_cons,List.foldl_cons,xJ off l (k + 1) _ (by simp; omega)]
  apply List.ext_getElem?
  intro i
  have hc:cs.toList.length = cs.size:=by simp
  simp only [cP,Array.toList_setIfInBounds]
  by_cases h1:i < off + k
  ·rw [List.append_assoc,List.append_assoc,List.getElem?_append_left (by simp; omega),List.getElem?_append_left (by simp; omega)]
   rw [List.getElem?_take,List.getElem?_take,List.getElem?_set]
   simp [h1,show i < off + (k + 1) by omega,show ¬ off + k = i by omega]
  ·by_cases h2:i < off + k + (l.length + 1)
   ·have e1:(List.take (off + k) cs.toList ++ v :: l ++ List.drop (off + k + (v :: l).length) cs.toList)[i]? = (v :: l)[i - (off + k)]?:=by
     rw [List.append_assoc,List.getElem?_append_right (by simp; omega),List.getElem?_append_left (by simp; omega)]
     congr 1
     simp; omega
    rw [e1]
    by_cases h3:i = off + k
    ·subst h3
     rw [List.append_assoc,List.getElem?_append_left (by simp; omega),List.getElem?_take,List.getElem?_set]
     simp [show off + k < off + (k + 1) by omega,show off + k < cs.size by omega]
    ·rw [List.append_assoc,List.getElem?_append_right (by simp; omega),List.getElem?_append_left (by simp; omega)]
     have e2:i - (off + k) = (i - (off + k) - 1) + 1:=by omega
     rw [e2,List.getElem?_cons_succ]
     congr 1
     simp; omega
   ·rw [List.append_assoc,List.getElem?_append_right (by simp; omega),List.getElem?_append_right (by simp; omega)]
    rw [List.append_assoc,List.getElem?_append_right (by simp; omega),List.getElem?_append_right (by simp; omega)]
    simp only [List.getElem?_drop,List.getElem?_set,List.length_take,List.length_set,List.length_cons,hc]
    rw [if_neg (by omega)]
    congr 1
    omega
theorem oM {h:PH} {ρ:RM} {ac:Act} (hs:ck h ρ s.slots ac.tmps) (place:Nat → Option (Nat × Nat)):∀ (parts:List (Nat × Operand)) (cps:List (Nat × List CP)) (zs qs:List CP) (zc:Array Value),
  l7 s parts = some cps → sy place zs cps = some qs → bd h zs zc.toList → ∃ cs,Instr.fill place zc (parts.map fun p=>(p.1,ac.eval p.2)) = some cs ∧ bd h qs cs.toList
 | [],cps,zs,qs,zc,he,hf,hz=>by
  simp [l7] at he; subst he
  simp [sy] at hf; subst hf
  exact ⟨zc,rfl,hz⟩
 | (i,x) :: l,cps,zs,qs,zc,he,hf,hz=>by
  unfold l7 at he
  simp only [Option.bind_eq_some_iff,Option.map_eq_some_iff] at he
  obtain ⟨z,hz1,ps,hps,r,hr,rfl⟩:=he
  unfold sy at hf
  simp only [Option.bind_eq_some_iff] at hf
  obtain ⟨⟨off,size⟩,hpl,hf⟩:=hf
  split at hf
  ·rename_i hc
   obtain ⟨hc1,hc2⟩:=hc
   have hrel:=SV.B3 hps (bC hs hz1)
   have hl:=hrel.length
   have hzl:=hz.length
   simp only [Array.length_toList] at hl hzl
   dsimp only at hc1 hc2 hf
   have hsp:((ac.eval x).cells.zipIdx.foldl (fun cs (p:Value × Nat)=>cs.setIfInBounds (off + p.2) p.1) zc).toList = cP zc.toList off (ac.eval x).cells.toList:=by
    have:=xJ off (ac.eval x).cells.toList 0 zc (by simp; omega)
    rw [Nat.add_zero] at this
    rw [← this,← Array.foldl_toList]
    congr 2
    simp
   obtain ⟨cs,h1,h2⟩:=oM hs place l r (cP zs off ps) qs _ hr hf (by rw [hsp]; exact bT.cP hz hrel off)
   refine ⟨cs,?_,h2⟩
   simp only [List.map_cons,Instr.fill,hpl]
   rw [if_neg (by simp; omega)]
   exact h1
  ·simp at hf
structure jY (P:Program) (t:TypeId) (pl:List (Nat × Nat)) (zs:List CP):Prop where
 info:∃ it z fs,P.info? t = some it ∧ it.zero = some z ∧ cvs z.cells.toList = some zs ∧ P.underlying t = some (.struct fs) ∧ fs.toList.mapM (fun f=>(P.info? f.type).map fun i=>(f.offset,i.size)) = some pl
theorem aV {pl:List (Nat × Nat)} {zs qs:List CP} {parts:Array (Nat × Operand)} {cps:List (Nat × List CP)} (ht:jY P t pl zs) (hp:l7 s parts.toList = some cps) (hf:sy (pl.toArray[·]?) zs cps = some qs) :
  bY P E n ⟨dst,.build t parts,ty,pos,after,g⟩ s (s.put n dst (.b (.agg qs))) :=
 bY.val (o:=⟨dst,.build t parts,ty,pos,after,g⟩) fun ac w h ρ hw hs=>by
  obtain ⟨it,z,fs,h1,h2,h3,h4,h5⟩:=ht.info
  obtain ⟨cs,hc1,hc2⟩:=oM hs (pl.toArray[·]?) parts.toList cps zs qs z.cells hp hf (mb h h3)
  refine ⟨.agg cs,?_,cs,rfl,hc2⟩
  have hb:P.built t (parts.map fun (i,x)=>(i,ac.eval x)).toList = some cs:=by
   simp only [Program.built,h1,h4,h2,h5]
   rw [← hc1]
   simp
  have:=run_build (P:=P) w t _ cs hb
  simp only [execOp]
  simp [this]
theorem vh {h:PH} {zs:List CP} {zc:List Value} (hz:bd h zs zc) (hp:0 < zs.length) (m:Nat) :
  bd h ((List.range m).map fun i=>zs.getD (i % zs.length) .any) ((List.range m).map fun i=>zc[i % zc.length]!):=by
 refine bT.tN (by simp) fun i a b ha hb=>?_
 simp only [List.getElem?_map,Option.map_eq_some_iff] at ha hb
 obtain ⟨j,hj,rfl⟩:=ha
 obtain ⟨j',hj',rfl⟩:=hb
 rw [hj] at hj'; cases hj'
 have hlt:j % zs.length < zs.length:=Nat.mod_lt _ hp
 obtain ⟨u,hu,hr⟩:=hz.get (j % zs.length) zs[j % zs.length] (List.getElem?_eq_getElem hlt)
 rw [hz.length] at hu
 have e1:zs.getD (j % zs.length) .any = zs[j % zs.length]:=by simp [List.getD,List.getElem?_eq_getElem hlt]
 have e2:zc[j % zc.length]! = u:=by rw [List.getElem!_eq_getElem?_getD]; simp [hu]
 rw [e1,e2]; exact hr
theorem br {e k len size bytes:Nat} {zs:List CP} {es:List (List CP)} {parts:Array (Nat × Operand)} {cps:List (Nat × List CP)} (ht:og P t e size bytes zs) (hp:l7 s parts.toList = some cps)
  (hf:sy (fun i=>some (i * size,size)) ((List.range (len * size)).map fun i=>zs.getD (i % size) .any) cps = some es.flatten) (hu:eC size es) (hl:es.length = len) (h0:0 < len * size) (h24:len * size ≤ 16777216) (hfx:n.fix.contains k = false) (hnu:jo k s.own = true:=by rfl) :
  bY P E n ⟨dst,.buildSlice t len parts,ty,pos,after,g⟩ s ((⟨eJ k s.slots,ins k (.row e size es) s.own⟩:St).put n dst (.b (.row k))) :=
 bY.make (hfx:=hfx) (hnu:=hnu) (o:=⟨dst,.buildSlice t len parts,ty,pos,after,g⟩) fun ac w h ρ hw hs=>by
  obtain ⟨i,z,h1,h2,h3,h4,h5,h6,h7⟩:=ht.info
  have hzr:=mb h h7
  have hzl:zs.length = size:=by rw [hzr.length]; simpa using h5
  have hzeros:=vh hzr (by omega) (len * size)
  rw [hzl] at hzeros
  have hzc:((Array.range (len * size)).map (z.cells[· % z.cells.size]!)).toList = (List.range (len * size)).map fun i=>z.cells.toList[i % z.cells.toList.length]!:=by
   rw [Array.toList_map,Array.toList_range]
   refine List.map_congr_left fun j _=>?_
   rw [List.getElem!_eq_getElem?_getD,Array.getElem!_eq_getD]
   simp [Array.getD_eq_getD_getElem?]
  obtain ⟨cs,hc1,hc2⟩:=oM hs (fun i=>some (i * size,size)) parts.toList cps _ es.flatten ((Array.range (len * size)).map (z.cells[· % z.cells.size]!)) hp hf (by rw [hzc]; exact hzeros)
  have hcl:cs.size = len * size:=by have:=hc2.length; rw [km hu,hl] at this; simpa using this.symm
  refine ⟨.slice (some ⟨w.heap.size,0,none⟩) len len,.slice (some ⟨w.heap.size,0,none⟩) len len,w.alloc (.cells cs e),none,?_,fun b e=>by simp at e,by simp,rfl,rfl,fun b hb _=>heap_alloc_old w _ hb,?_,
   fun b e=>by simp [cq] at e; subst e; exact .inr (Nat.le_refl _),(eN _ _ _).symm⟩
  ·have hne:¬ len * size = 0:=by omega
   have hmap:(parts.map fun x=>(x.1,ac.eval x.2)).toList = parts.toList.map fun p=>(p.1,ac.eval p.2):=by simp
   simp only [execOp]
   have hrun:(Instr.buildSlice t len (parts.map fun (i,x)=>(i,ac.eval x))).run P w = .ok (.slice (some ⟨w.heap.size,0,none⟩) len len) (w.alloc (.cells cs e)):=by
    unfold Instr.buildSlice
    rw [Sem.run_bind,run_underlying ht.und,Result.andThen]
    simp only [Sem.run_bind,run_sizeOf h1,h2,Result.andThen_ok]
    rw [if_neg (by omega),if_neg hne]
    simp [zeroValue,typeInfo,h1,h4,hc1,newRow]
   simp [hrun]
  ·refine ⟨hu,h6,cs.toList,⟨by simp [hcl,hl],.inr ⟨w.heap.size,len,cs,by rw [hl],Nat.zero_le _,heap_alloc_new w _,by omega,?_,hcl,?_⟩⟩,hc2⟩
   ·have:len ≤ len * size:=Nat.le_mul_of_pos_right _ h6
    rw [dZ]; omega
   ·rw [List.take_of_length_le]
    simp [hcl,hl]
end
end Go.Sk
namespace Go.Sk
set_option linter.unusedSimpArgs false
set_option linter.unusedVariables false
open Go Go.BigFrame
section
variable {P:Program} {TB:cG} {E:Env TB} {n:Sh} {s s':St} {dst:Option Nat} {t ty yt:TypeId} {pos:String} {after:Array Edge} {g:Option (Nat × Bool)} {x y c:Operand} {ops:Array Oper} {l:List Oper} {Q:fi} {cd:Code}
theorem WR.drop {h:PH} {ρ:RM} {own:List (Nat × OC)} {w:World} (hw:WR E n own h ρ w) (k:Nat):WR E n (del k own) h ρ w:=hw.sub fun _ hp=>(gy hp).1
theorem yk {v:Value} (h:(∀ a,v ≠ .pointer (some a)) ∧ ∀ b,v ≠ .map (some b)):v.ownBlock = cq v:=by
 cases v with
 | map b=>cases b with
  | none=>rfl
  | some b=>exact absurd rfl (h.2 b)
 | slice a n c=>cases a <;> rfl
 | pointer a=>cases a with
  | none=>rfl
  | some a=>exact absurd rfl (h.1 a)
 | _=>rfl
theorem zB {h:PH} {ρ:RM} {v:Value} {w:World} {T:TypeId} {size:Nat} {es:List (List CP)} (hc:(OC.row T size es).ok h ρ v w):(∀ a,v ≠ .pointer (some a)) ∧ ∀ b,v ≠ .map (some b):=by
 obtain ⟨_,_,xs,⟨_,how⟩,_⟩:=hc
 rcases how with ⟨rfl,_⟩ | ⟨_,_,_,rfl,_⟩ <;> simp
structure Src (w:World) (v:Value) (h:PH) (size:Nat) (news:List (List CP)):Prop where
 uni:eC size news
 pos:0 < size
 form:(v = .slice none 0 0 ∧ news = []) ∨ ∃ b o c cs,v = .slice (some ⟨b,o,none⟩) news.length c ∧ news.length ≤ maxLen ∧ bd h news.flatten cs ∧ (∀ j u,cs[j]? = some u → w.cell? ⟨b,o + j,none⟩ = some u)
theorem Src.of_sl {h:PH} {ρ:RM} {own:List (Nat × OC)} {w:World} (hw:WR E n own h ρ w) {v:Value} {size:Nat} {es:List (List CP)} (hv:(CP.sl size es).rel h v):Src w v h size es:=by
 obtain ⟨hu,hz,hv⟩:=hv
 refine ⟨hu,hz,?_⟩
 rcases hv with hv | ⟨b,o,c,hv,h1,h2,h3⟩
 ·exact .inl hv
 ·obtain ⟨cs,hc1,hc2⟩:=h3.list
  exact .inr ⟨b,o,c,cs,hv,by omega,hc1,fun j u hu=>hw.agree _ _ _ (hc2 j u hu)⟩
theorem Src.of_row {h:PH} {ρ:RM} {own:List (Nat × OC)} {w:World} (hw:WR E n own h ρ w) {k:Nat} {T:TypeId} {size:Nat} {es:List (List CP)} (hk:lk own k = some (.row T size es)):Src w (ρ k) h size es:=by
 obtain ⟨hu,hz,hf⟩:=oE hw hk
 refine ⟨hu,hz,?_⟩
 rcases hf with hf | ⟨b,cap,cur,h1,h2,h3,h4,h5,h6⟩
 ·exact .inl hf
 ·refine .inr ⟨b,0,cap,_,h1,by omega,h6,fun j u hu=>?_⟩
  rw [hO h2]
  rw [List.getElem?_take] at hu
  split at hu
  ·simpa using hu
  ·simp at hu
theorem sV {h:PH} {ρ:RM} {w:World} (hw:WR E n s.own h ρ w) {k size bytes:Nat} {T e:TypeId} {zs:List CP} {es news:List (List CP)} {v:Value} (ht:og P t e size bytes zs)
  (hk:lk s.own k = some (.row T size es)) (hT:T = e) (hsrc:Src w v h size news) (hb:(es.length + news.length) * bytes ≤ 140737488355328) (hm:es.length + news.length ≤ maxLen) :
  ∃ v' w',(Builtin.append_ #[t,t] ty #[ρ k,v]).run P w = .ok v' w' ∧ w.heap.size ≤ w'.heap.size ∧ w'.os = w.os ∧ w'.output = w.output ∧ (∀ b,b < w.heap.size → some b ≠ cq (ρ k) → w'.heap[b]? = w.heap[b]?) ∧
   (OC.row e size (es ++ news)).ok h ρ v' w' ∧ (∀ b,cq v' = some b → cq (ρ k) = some b ∨ w.heap.size ≤ b):=by
 subst hT
 obtain ⟨i,z,h1,h2,h3,h4,h5,h6,h7⟩:=ht.info
 have hok:=(hw.owned k _ (dl hk)).1
 have hnp:=zB hok
 obtain ⟨hu,hz,xs,how,hr⟩:=id hok
 rcases hsrc.form with ⟨rfl,rfl⟩ | ⟨b,o,c,cs,rfl,hl,hc1,hc2⟩
 ·refine ⟨ρ k,w,run_append_owned_none w 0 t ty T i size ht.und h1 (ρ k) es.length xs how,Nat.le_refl _,rfl,rfl,fun _ _ _=>rfl,by simpa using hok,fun b hb=>.inl hb⟩
 ·have hlen:cs.length = news.length * size:=by rw [← hc1.length,km hsrc.uni]
  have hzs:z.cells.size = size:=h5
  have hnews:∀ j u,cs[j]? = some u → w.cell? ((⟨b,o,none⟩:Addr).add j) = some u:=fun j u hu=>by rw [Addr.add_lit]; exact hc2 j u hu
  obtain ⟨v',w',hrun,how',hg,hnil⟩:=run_append_own (P:=P) w 0 t ty T i z size bytes ht.und h1 h4 h2 h3 hzs h6 (ρ k) es.length xs how ⟨b,o,none⟩ news.length c cs hlen hnews hc1.one hm hb (Nat.zero_le _)
  refine ⟨v',w',hrun,hg.size,hg.os,hg.output,fun b hb hne=>hg.block b hb (by rw [yk hnp]; exact hne),⟨?_,h6,xs ++ cs,by simpa using how',?_⟩,?_⟩
  ·intro ps hps
   rcases List.mem_append.1 hps with h | h
   ·exact hu ps h
   ·exact hsrc.uni ps h
  ·rw [List.flatten_append]; exact bT.append hr hc1
  ·rw [dZ] at hm
   rcases how.2 with ⟨hv,hn0⟩ | ⟨g,cap,cur,hv,_,hh,hn1,hn2,hn3,hn4⟩
   ·by_cases hm0:news.length = 0
    ·have:=hnil.2 ⟨hv,hm0⟩
     rw [this]; intro b hb; simp [cq] at hb
    ·have hr2:=run_append_nil (P:=P) w t ty T i z ht.und h1 h4 ⟨b,o,none⟩ news.length c cs (by rw [h2]; exact hlen) hnews (by omega) (by omega) (by rw [h3]; rw [hn0,Nat.zero_add] at hb; omega)
     rw [hv,hr2] at hrun
     cases hrun
     intro b hb; simp [cq] at hb; subst hb; exact .inr (Nat.le_refl _)
   ·by_cases hroom:es.length + news.length ≤ cap
    ·have hfit:es.length * i.size + cs.length ≤ cur.size:=by rw [hlen,hn3,h2,← Nat.add_mul]; exact Nat.mul_le_mul_right _ hroom
     have hr2:=run_append_room (P:=P) w t ty T i ht.und h1 g es.length cap cur hh ⟨b,o,none⟩ news.length c cs (by rw [h2]; exact hlen) hnews hc1.one hroom hfit
     rw [hv,hr2] at hrun
     cases hrun
     intro b hb; simp [cq] at hb; subst hb; rw [hv]; exact .inl rfl
    ·have hold:∀ j u,xs[j]? = some u → w.cell? ((⟨g,0,none⟩:Addr).add j) = some u:=fun j u hu=>by
      rw [Addr.add_lit,Nat.zero_add,hO hh]
      rw [← hn4,List.getElem?_take] at hu
      split at hu
      ·simpa using hu
      ·simp at hu
     have hr2:=run_append_grow (P:=P) w t ty T i z ht.und h1 h4 ⟨g,0,none⟩ es.length cap xs (by rw [h2]; exact how.1) hold ⟨b,o,none⟩ news.length c cs (by rw [h2]; exact hlen) hnews (by omega) (by omega)
      (growslice_fits (by omega) (by rw [h3]; exact hb))
     rw [hv,hr2] at hrun
     cases hrun
     intro b hb; simp [cq] at hb; subst hb; exact .inr (Nat.le_refl _)
theorem vt {k size bytes:Nat} {e:TypeId} {zs:List CP} {es news es':List (List CP)} (ht:og P t e size bytes zs) (hb:(es.length + news.length) * bytes ≤ 140737488355328) (hm:es.length + news.length ≤ 9223372036854775807)
  (hx:s.ev x = some (.b (.row k))) (hk:lk s.own k = some (.row e size es)) (hy:s.ev y = some (.b (.one (.sl size news)))) (he:es ++ news = es') (hfx:n.fix.contains k = false) (hnu:jo k s.own = true:=by rfl) :
  bY P E n ⟨dst,.call ⟨.builtin .append,#[x,y],#[t,t]⟩,ty,pos,after,g⟩ s ((⟨eJ k s.slots,ins k (.row e size es') s.own⟩:St).put n dst (.b (.row k))) :=
 bY.make (hfx:=hfx) (hnu:=hnu) (o:=⟨dst,.call ⟨.builtin .append,#[x,y],#[t,t]⟩,ty,pos,after,g⟩) fun ac w h ρ hw hs=>by
  have hv:ac.eval x = ρ k:=(bC hs hx:BV.rel h ρ (.row k) _)
  have hu:=(bC hs hy:(CP.sl size news).rel h _)
  obtain ⟨v',w',hrun,h1,h2,h3,h4,h5,h6⟩:=sV (ty:=ty) hw ht hk rfl (Src.of_sl hw hu) hb (by rw [dZ]; exact hm)
  subst he
  refine ⟨v',v',w',cq (ρ k),?_,fun b hb=>⟨_,dl hk,hb⟩,h1,h2,h3,h4,h5,h6,(eN _ _ _).symm⟩
  rw [execOp_builtin,builtin_append]
  simp [hv,hrun]
theorem kj {k j size bytes:Nat} {e:TypeId} {zs:List CP} {es news es':List (List CP)} (ht:og P t e size bytes zs) (hb:(es.length + news.length) * bytes ≤ 140737488355328) (hm:es.length + news.length ≤ 9223372036854775807)
  (hx:s.ev x = some (.b (.row k))) (hk:lk s.own k = some (.row e size es)) (hy:s.ev y = some (.b (.row j))) (hj:lk s.own j = some (.row e size news)) (he:es ++ news = es') (hfx:n.fix.contains k = false) (hnu:jo k s.own = true:=by rfl) :
  bY P E n ⟨dst,.call ⟨.builtin .append,#[x,y],#[t,t]⟩,ty,pos,after,g⟩ s ((⟨eJ k s.slots,ins k (.row e size es') s.own⟩:St).put n dst (.b (.row k))) :=
 bY.make (hfx:=hfx) (hnu:=hnu) (o:=⟨dst,.call ⟨.builtin .append,#[x,y],#[t,t]⟩,ty,pos,after,g⟩) fun ac w h ρ hw hs=>by
  have hv:ac.eval x = ρ k:=(bC hs hx:BV.rel h ρ (.row k) _)
  have hu:ac.eval y = ρ j:=(bC hs hy:BV.rel h ρ (.row j) _)
  obtain ⟨v',w',hrun,h1,h2,h3,h4,h5,h6⟩:=sV (ty:=ty) hw ht hk rfl (Src.of_row hw hj) hb (by rw [dZ]; exact hm)
  subst he
  refine ⟨v',v',w',cq (ρ k),?_,fun b hb=>⟨_,dl hk,hb⟩,h1,h2,h3,h4,h5,h6,(eN _ _ _).symm⟩
  rw [execOp_builtin,builtin_append]
  simp [hv,hu,hrun]
theorem ab.drop (k:Nat) (h:ab P E n cd ⟨eJ k s.slots,del k s.own⟩ Q):ab P E n cd s Q:=fun a w hr=>h a w (by
 obtain ⟨h1,h2,h,ρ,hw,hs⟩:=hr
 exact ⟨h1,h2,h,ρ,hw.drop k,fun j x hx=>hs j x (gS hx).1⟩)
theorem ad.drop (k:Nat) (h:ad P E n ops l ⟨eJ k s.slots,del k s.own⟩ Q):ad P E n ops l s Q:=fun a w hr=>h a w (by
 obtain ⟨h1,h2,h,ρ,hw,hs⟩:=hr
 exact ⟨h1,h2,h,ρ,hw.drop k,fun j x hx=>hs j x (gS hx).1⟩)
theorem R.kq {i k size:Nat} {T:TypeId} {a:Act} {w:World} (hr:R E n s a w) (hi:s.get i = some (.b (.one .nil))) (hz:0 < size) (hfx:n.fix.contains k = false) (hnu:jo k s.own = true:=by rfl):R E n ⟨(i,.b (.row k)) :: del i (eJ k s.slots),ins k (.row T size []) s.own⟩ a w:=by
 obtain ⟨h1,h2,h,ρ,hw,hs⟩:=hr
 have hst:=hw.step (w':=w) k (.slice none 0 0) (.row T size []) none (fun b e=>by simp at e) (Nat.le_refl _) rfl rfl (fun _ _ _=>rfl)
  ⟨fun ps hps=>by simp at hps,hz,[],⟨by simp,.inl ⟨rfl,rfl⟩⟩,.nil⟩ (fun b hb=>by simp [cq] at hb) (.inr fun e=>by simp at hfx; exact hfx e) (.inr hnu)
 refine ⟨h1,h2,h,_,hst,?_⟩
 have hd:=hs.eJ k (.slice none 0 0)
 intro j x hx
 cases List.mem_cons.1 hx with
 | inl e=>
  obtain ⟨rfl,rfl⟩:=Prod.mk.inj e
  obtain ⟨v,hv,hrel⟩:=hs _ _ (dl (show lk s.slots j = some _ from hi))
  exact ⟨v,hv,by rw [show v = .slice none 0 0 from hrel.1]; exact (eN _ _ _).symm⟩
 | inr e=>exact hd j x (gy e).1
theorem ab.kq (i k size:Nat) (T:TypeId) (hi:s.get i = some (.b (.one .nil))) (hz:0 < size) (hfx:n.fix.contains k = false) (h:ab P E n cd ⟨(i,.b (.row k)) :: del i (eJ k s.slots),ins k (.row T size []) s.own⟩ Q) (hnu:jo k s.own = true:=by rfl):ab P E n cd s Q :=
 fun a w hr=>h a w (hr.kq hi hz hfx hnu)
theorem ad.kq (i k size:Nat) (T:TypeId) (hi:s.get i = some (.b (.one .nil))) (hz:0 < size) (hfx:n.fix.contains k = false) (h:ad P E n ops l ⟨(i,.b (.row k)) :: del i (eJ k s.slots),ins k (.row T size []) s.own⟩ Q) (hnu:jo k s.own = true:=by rfl):ad P E n ops l s Q :=
 fun a w hr=>h a w (hr.kq hi hz hfx hnu)
theorem R.p5 {i size:Nat} {a:Act} {w:World} (hr:R E n s a w) (hi:s.get i = some (.b (.one .nil))) (hz:0 < size):R E n ⟨(i,.b (.one (.sl size []))) :: del i s.slots,s.own⟩ a w:=by
 obtain ⟨h1,h2,h,ρ,hw,hs⟩:=hr
 refine ⟨h1,h2,h,ρ,hw,?_⟩
 intro j x hx
 cases List.mem_cons.1 hx with
 | inl e=>
  obtain ⟨rfl,rfl⟩:=Prod.mk.inj e
  obtain ⟨v,hv,hrel⟩:=hs _ _ (dl (show lk s.slots j = some _ from hi))
  exact ⟨v,hv,fun ps hps=>by simp at hps,hz,.inl ⟨hrel.1,rfl⟩⟩
 | inr e=>exact hs j x (gy e).1
theorem ab.p5 (i size:Nat) (hi:s.get i = some (.b (.one .nil))) (hz:0 < size) (h:ab P E n cd ⟨(i,.b (.one (.sl size []))) :: del i s.slots,s.own⟩ Q):ab P E n cd s Q :=
 fun a w hr=>h a w (hr.p5 hi hz)
theorem ad.p5 (i size:Nat) (hi:s.get i = some (.b (.one .nil))) (hz:0 < size) (h:ad P E n ops l ⟨(i,.b (.one (.sl size []))) :: del i s.slots,s.own⟩ Q):ad P E n ops l s Q :=
 fun a w hr=>h a w (hr.p5 hi hz)
def CV.j3 (k:Nat) (p:CP):CV → CV
 | .row j=>if k == j then .one p else .row j
 | z=>z
def BV.j3 (k:Nat) (p:CP):BV → BV
 | .row j=>if k == j then .one p else .row j
 | .pY f fs cs=>.pY f (fs.map (·.j3 k p)) (cs.map (·.j3 k p))
 | z=>z
def SV.j3 (k:Nat) (p:CP):SV → SV
 | .b z=>.b (z.j3 k p)
 | .fE l=>.fE (l.map (·.j3 k p))
 | .n8 l=>.n8 (l.map (·.j3 k p))
 | .dA c z=>.dA c (z.j3 k p)
def qQ (k:Nat) (p:CP):List (Nat × SV) → List (Nat × SV)
 | []=>[]
 | (j,x) :: l=>(j,x.j3 k p) :: qQ k p l
theorem sd {k:Nat} {p:CP}:∀ {l:List (Nat × SV)} {j:Nat} {x:SV},(j,x) ∈ qQ k p l → ∃ y,(j,y) ∈ l ∧ x = y.j3 k p
 | (i,y) :: l,j,x,h=>by
  unfold qQ at h
  cases List.mem_cons.1 h with
  | inl e=>obtain ⟨rfl,rfl⟩:=Prod.mk.inj e; exact ⟨y,List.mem_cons_self,rfl⟩
  | inr e=>obtain ⟨z,hz,hx⟩:=sd e; exact ⟨z,List.mem_cons_of_mem _ hz,hx⟩
theorem CV.hH {h:PH} {ρ:RM} {k:Nat} {p:CP} (hp:p.rel h (ρ k)) {z:CV} {v:Value} (hz:z.rel h ρ v):(z.j3 k p).rel h ρ v:=by
 cases z with
 | row j=>
  cases hkj:k == j with
  | true=>
   have e':k = j:=by simpa using hkj
   subst e'
   have hv:v = ρ k:=hz
   simp only [CV.j3,hkj,if_true]
   rw [hv]; exact hp
  | false=>
   simp only [CV.j3,hkj]
   exact hz
 | _=>exact hz
theorem CV.Cj {h:PH} {ρ:RM} {k:Nat} {p:CP} (hp:p.rel h (ρ k)):∀ {l:List CV} {vs:List Value},bT (fun (x:CV) v=>x.rel h ρ v) l vs → bT (fun (x:CV) v=>x.rel h ρ v) (l.map (·.j3 k p)) vs
 | _,_,.nil=>.nil
 | _,_,.cons h1 t=>.cons (CV.hH hp h1) (CV.Cj hp t)
theorem BV.hH {h:PH} {ρ:RM} {k:Nat} {p:CP} (hp:p.rel h (ρ k)) {z:BV} {v:Value} (hz:z.rel h ρ v):(z.j3 k p).rel h ρ v:=by
 cases z with
 | row j=>
  cases hkj:k == j with
  | true=>
   have e':k = j:=by simpa using hkj
   subst e'
   have hv:v = ρ k:=hz
   simp only [BV.j3,hkj,if_true]
   rw [hv]; exact hp
  | false=>
   simp only [BV.j3,hkj]
   exact hz
 | pY f fs cs=>obtain ⟨a,b,e,h1,h2⟩:=hz; exact ⟨a,b,e,CV.Cj hp h1,CV.Cj hp h2⟩
 | _=>exact hz
theorem SV.hH {h:PH} {ρ:RM} {k:Nat} {p:CP} (hp:p.rel h (ρ k)) {z:SV} {v:Value} (hz:z.rel h ρ v):(z.j3 k p).rel h ρ v:=by
 cases z with
 | b z=>exact BV.hH hp hz
 | dA c z=>exact ⟨fun hc=>BV.hH hp (hz.1 hc),hz.2⟩
 | fE l=>
  obtain ⟨vs,e,ha⟩:=hz
  refine ⟨vs,e,?_⟩
  clear e
  generalize vs.toList = vl at ha
  induction ha with
  | nil=>exact .nil
  | cons h' _ ih=>exact .cons (BV.hH hp h') ih
 | n8 l=>
  obtain ⟨vs,e,ha⟩:=hz
  refine ⟨vs,e,?_⟩
  clear e
  generalize vs.toList = vl at ha
  induction ha with
  | nil=>exact .nil
  | cons h' _ ih=>exact .cons ⟨BV.hH hp h'.1,h'.2⟩ ih
def OC.j3 (k:Nat) (p:CP):OC → OC
 | .n7 T cs=>.n7 T (cs.map (·.j3 k p))
 | .mp es=>.mp (es.map fun q=>(q.1,q.2.j3 k p))
 | c=>c
def qR (k:Nat) (p:CP) (l:List (Nat × OC)):List (Nat × OC):=l.map fun q=>(q.1,q.2.j3 k p)
theorem OC.pers_ok {h:PH} {ρ:RM} {k:Nat} {p:CP} (hp:p.rel h (ρ k)) {c:OC} {v:Value} {w:World} (hc:c.ok h ρ v w):(c.j3 k p).ok h ρ v w:=by
 cases c with
 | box T ps=>exact hc
 | row T size es=>exact hc
 | k9 T size es=>exact hc
 | s8 q pos=>exact hc
 | mp es=>
  obtain ⟨b,ms,clk,e1,e2,ha,e3⟩:=hc
  refine ⟨b,ms,clk,e1,e2,?_,e3⟩
  clear e2 e3
  unfold jW at ha ⊢
  generalize ms.toList = l at ha
  induction ha with
  | nil=>exact .nil
  | cons h1 t ih=>exact .cons ⟨h1.1,BV.hH hp h1.2⟩ ih
 | n7 T cs=>
  obtain ⟨b,cur,e1,e2,ha⟩:=hc
  refine ⟨b,cur,e1,e2,?_⟩
  clear e2
  generalize cur.toList = l at ha
  induction ha with
  | nil=>exact .nil
  | cons h1 t ih=>exact .cons ⟨BV.hH hp h1.1,h1.2⟩ ih
theorem WR.qR {h:PH} {ρ:RM} {own:List (Nat × OC)} {w:World} {k:Nat} {p:CP} (hw:WR E n own h ρ w) (hp:p.rel h (ρ k)):WR E n (Sk.qR k p own) h ρ w :=
 ⟨hw.agree,hw.le,hw.fresh,hw.size,hw.same,hw.fixed,hw.os,hw.out,hw.nl,fun j c hj=>by
  obtain ⟨⟨j0,y⟩,hm,he⟩:=List.mem_map.1 hj
  obtain ⟨rfl,rfl⟩:=Prod.mk.inj he
  obtain ⟨e1,e2,e3⟩:=hw.owned _ _ hm
  refine ⟨OC.pers_ok hp e1,e2,fun j' c' hj'=>?_⟩
  obtain ⟨⟨j1,y1⟩,hm1,he1⟩:=List.mem_map.1 hj'
  obtain ⟨rfl,rfl⟩:=Prod.mk.inj he1
  exact e3 _ _ hm1⟩
def eX (h:PH) (g:Nat) (cs:List Value):PH:=fun b o=>if b = g then cs[o]? else h b o
theorem R.eY {k size:Nat} {T:TypeId} {es:List (List CP)} {a:Act} {w:World} (hr:R E n s a w) (hk:lk s.own k = some (.row T size es)):R E n ⟨qQ k (.sl size es) s.slots,qR k (.sl size es) (del k s.own)⟩ a w:=by
 obtain ⟨h1,h2,h,ρ,hw,hs⟩:=hr
 obtain ⟨hu,hz,hf⟩:=oE hw hk
 have hown:=hw.owned k _ (dl hk)
 rcases hf with ⟨hρ,rfl⟩ | ⟨g,cap,cur,hρ,hh,hn1,hn2,hn3,hn4⟩
 ·refine ⟨h1,h2,h,ρ,(hw.drop k).qR ⟨hu,hz,.inl ⟨hρ,rfl⟩⟩,?_⟩
  intro j x hx
  obtain ⟨y,hy,rfl⟩:=sd hx
  obtain ⟨v,hv,hrel⟩:=hs j y hy
  exact ⟨v,hv,SV.hH (p:=.sl size []) ⟨hu,hz,.inl ⟨hρ,rfl⟩⟩ hrel⟩
 ·have hg:=hown.2.1 g (by rw [hρ]; rfl)
  let cs:=cur.toList.take (es.length * size)
  have hle:h.le (eX h g cs):=fun b o v hv=>by
   unfold eX
   split
   ·rename_i e; subst e; rw [hg.2 o] at hv; simp at hv
   ·exact hv
  have hsl:(CP.sl size es).rel (eX h g cs) (ρ k):=by
   refine ⟨hu,hz,.inr ⟨g,0,cap,hρ,hn1,hn2,?_⟩⟩
   intro j c hc
   obtain ⟨u,hu',hr'⟩:=hn4.get j c hc
   exact ⟨u,by simp only [eX,if_true,Nat.zero_add]; exact hu',c.mono hle hr'⟩
  refine ⟨h1,h2,eX h g cs,ρ,WR.qR (k:=k) (p:=.sl size es) (own:=del k s.own) ⟨?_,PH.le_trans hw.le hle,?_,hw.size,hw.same,hw.fixed,hw.os,hw.out,hw.nl,?_⟩ hsl,?_⟩
  ·intro b o v hv
   unfold eX at hv
   split at hv
   ·rename_i e; subst e
    rw [hO hh]
    simp only [cs,List.getElem?_take] at hv
    split at hv
    ·simpa using hv
    ·simp at hv
   ·exact hw.agree b o v hv
  ·intro b hb hnl
   rw [← hw.fresh b hb hnl]
   funext o
   unfold eX
   rw [if_neg fun e=>by
    subst e
    rcases hg.1 with h | h
    ·omega
    ·exact hnl h]
  ·intro j c hj
   obtain ⟨hj1,hj2⟩:=gy hj
   obtain ⟨e1,e2,e3⟩:=hw.owned j c hj1
   refine ⟨e1.mono hle,fun b hb=>⟨(e2 b hb).1,fun o=>?_⟩,fun j' c' hj'=>e3 j' c' (gy hj').1⟩
   have hbg:b ≠ g:=fun e=>by
    subst e
    exact e3 k _ (dl hk) (fun e=>hj2 e.symm) b hb (by rw [hρ]; rfl)
   unfold eX
   rw [if_neg hbg]
   exact (e2 b hb).2 o
  ·intro j x hx
   obtain ⟨y,hy,rfl⟩:=sd hx
   obtain ⟨v,hv,hrel⟩:=hs j y hy
   exact ⟨v,hv,SV.hH hsl (SV.mono hle (fun _ _=>rfl) hrel)⟩
theorem ab.eY (k:Nat) {size:Nat} {T:TypeId} {es:List (List CP)} (hk:lk s.own k = some (.row T size es)) (h:ab P E n cd ⟨qQ k (.sl size es) s.slots,qR k (.sl size es) (del k s.own)⟩ Q):ab P E n cd s Q:=fun a w hr=>h a w (hr.eY hk)
theorem ad.eY (k:Nat) {size:Nat} {T:TypeId} {es:List (List CP)} (hk:lk s.own k = some (.row T size es)) (h:ad P E n ops l ⟨qQ k (.sl size es) s.slots,qR k (.sl size es) (del k s.own)⟩ Q):ad P E n ops l s Q:=fun a w hr=>h a w (hr.eY hk)
theorem Fin.eY {e:Exit} (k:Nat) {size:Nat} {T:TypeId} {es:List (List CP)} (hk:lk s.own k = some (.row T size es)) (h:Fin E n e ⟨qQ k (.sl size es) s.slots,qR k (.sl size es) (del k s.own)⟩ Q):Fin E n e s Q:=fun a w hr=>h a w (hr.eY hk)
end
end Go.Sk
namespace Go.Sk
set_option linter.unusedSimpArgs false
set_option linter.unusedVariables false
open Go Go.BigFrame
def Lent (own:List (Nat × OC)) (h:PH) (ρ:RM) (w:World):Prop :=
 ∀ k c,(k,c) ∈ own → c.ok h ρ (ρ k) w ∧ (∀ b,cq (ρ k) = some b → ∀ o,h b o = none) ∧ ∀ k' c',(k',c') ∈ own → k' ≠ k → ∀ b,cq (ρ k) = some b → cq (ρ k') ≠ some b
def bL (own:List (Nat × OC)):List Nat:=own.map (·.1)
def cx:List (Nat × OC) → List Nat
 | []=>[]
 | (k,c) :: l=>if c.xh then k :: cx l else cx l
abbrev oq:=List (Nat × OC) → SV → Prop
def Ce {TB:cG} (E:Env TB) (n:Sh) (post:oq) (e:Ending) (w':World):Prop :=
 ∃ v own' res h' ρ',e = .returned v ∧ post own' res ∧ WR E n own' h' ρ' w' ∧ res.rel h' ρ' v
def az (P:Program) (TB:cG) (f:FuncId) (own:List (Nat × OC)) (args:List BV) (post:oq):Prop :=
 ∀ (w:World) (h:PH) (ρ:RM) (vals:List Value) (tb:dR TB h w),tK h w → Lent own h ρ w → bT (fun (x:BV) v=>x.rel h ρ v) args vals →
  Calls P f vals.toArray w (Ce ⟨w,h,ρ,tb⟩ ⟨0,cx own,bL own⟩ post)
def Is (own:List (Nat × OC)) (res:SV):oq:=fun o r=>o = own ∧ r = res
theorem WR.sh {TB:cG} {E:Env TB} {n n':Sh} {own:List (Nat × OC)} {h:PH} {ρ:RM} {w:World} (hn:n.fix = n'.fix) (hl:n.lnd = n'.lnd) (hw:WR E n own h ρ w):WR E n' own h ρ w:=by
 cases n; cases n'; cases hn; cases hl
 exact ⟨hw.agree,hw.le,hw.fresh,hw.size,hw.same,hw.fixed,hw.os,hw.out,hw.nl,hw.owned⟩
def oQ:Nat → List BV → List (Nat × SV)
 | _,[]=>[]
 | i,x :: l=>(i,.b x) :: oQ (i + 1) l
theorem rN:∀ {l:List BV} {i k:Nat} {x:SV},(k,x) ∈ oQ i l → ∃ j z,k = i + j ∧ l[j]? = some z ∧ x = .b z
 | [],i,k,x,h=>by simp [oQ] at h
 | y :: l,i,k,x,h=>by
  unfold oQ at h
  cases List.mem_cons.1 h with
  | inl e=>obtain ⟨rfl,rfl⟩:=Prod.mk.inj e; exact ⟨0,y,rfl,rfl,rfl⟩
  | inr e=>obtain ⟨j,z,rfl,hz,rfl⟩:=rN e; exact ⟨j + 1,z,by omega,by simpa using hz,rfl⟩
def Ret (P:Program) (fn:Func) {TB:cG} (E:Env TB) (n:Sh) (post:oq):fi:=bodyPost P fn (Ce E n post)
theorem az.intro {P:Program} {TB:cG} {f:FuncId} {fn:Func} {c:Code} {own:List (Nat × OC)} {args:List BV} {post:oq} (m:Nat) (hf:P.funcs[f]? = some fn) (hm:fn.ntmps = m) (hb:fn.body = some c) (hl:args.length ≤ m)
  (hbody:∀ E:Env TB,ab P E ⟨m,cx own,bL own⟩ c ⟨oQ 0 args,own⟩ (Ret P fn E ⟨m,cx own,bL own⟩ post)):az P TB f own args post:=by
 intro w h ρ vals tb hag hlent hargs
 have hlen:=hargs.length
 refine (calls_of_wp (R:=Ce ⟨w,h,ρ,tb⟩ ⟨m,cx own,bL own⟩ post) hf hb (hbody ⟨w,h,ρ,tb⟩ _ w ⟨rfl,?_,h,ρ,⟨hag,PH.le_refl h,fun _ _ _=>rfl,Nat.le_refl _,fun _ _ _=>rfl,fun _ _=>rfl,rfl,rfl,?_,?_⟩,?_⟩)).mono ?_
 ·simp [hm]; omega
 ·rintro b ⟨k,hk,hb⟩ o
  obtain ⟨⟨k',c⟩,hm',rfl⟩:=List.mem_map.1 hk
  exact (hlent k' c hm').2.1 b hb o
 ·intro k c hc
  obtain ⟨h1,h3,h4⟩:=hlent k c hc
  exact ⟨h1,fun b hb=>⟨.inr ⟨k,List.mem_map.2 ⟨(k,c),hc,rfl⟩,hb⟩,h3 b hb⟩,h4⟩
 ·intro k x hx
  obtain ⟨j,z,rfl,hz,rfl⟩:=rN hx
  obtain ⟨v,hv,hr⟩:=hargs.get j z hz
  refine ⟨v,?_,hr⟩
  have hj:=(List.getElem?_eq_some_iff.1 hv).1
  rw [Nat.zero_add,Array.getElem?_append_left (by simpa using hj)]
  simpa using hv
 ·rintro e w' ⟨v,own',res,h',ρ',e1,e2,e3,e4⟩
  exact ⟨v,own',res,h',ρ',e1,e2,WR.sh (n:=⟨m,cx own,bL own⟩) (n':=⟨0,cx own,bL own⟩) rfl rfl e3,e4⟩
section
variable {P:Program} {TB:cG} {E:Env TB} {n:Sh} {s s':St} {dst:Option Nat} {t ty yt:TypeId} {pos:String} {after:Array Edge} {g:Option (Nat × Bool)} {x y c:Operand} {ops:Array Oper} {l:List Oper} {Q:fi} {cd:Code}
def lX (tmps:Array Value):ResultVar → Sem Value
 | .tmp t=>pure (tmps.getD t undef)
 | .cell b t=>do loadVar t (← asAddr (tmps.getD b undef))
theorem zC (fn:Func) (tmps:Array Value):results fn tmps = (do let vs ← fn.results.mapM (lX tmps); pure (if h:vs.size = 1 then vs[0] else .tuple vs)):=by
 have:(fun x=>match x with
  | ResultVar.tmp t=>pure (tmps.getD t undef)
  | ResultVar.cell a t=>do loadVar t (← asAddr (tmps.getD a undef))) = lX tmps:=by funext x; cases x <;> rfl
 unfold results
 rw [← this]
 rfl
inductive qT (P:Program) (s:St):ResultVar → BV → Prop
 | tmp {t:Nat} {z:BV} (h:s.get t = some (.b z)):qT P s (.tmp t) z
 | agg {t k off m:Nat} {T T':TypeId} {ps qs:List CP} (ht:gJ P T m) (h:s.get t = some (.b (.ptr k off))) (hk:lk s.own k = some (.box T' ps)) (hp:(ps.drop off).take m = qs) (hq:qs.length = m):qT P s (.cell t T) (.agg qs)
 | one {t k off:Nat} {T T':TypeId} {ps:List CP} {p:CP} (ht:fG P T) (h:s.get t = some (.b (.ptr k off))) (hk:lk s.own k = some (.box T' ps)) (hp:ps[off]? = some p):qT P s (.cell t T) (.one p)
def Cg:List BV → SV
 | [z]=>.b z
 | l=>.fE l
theorem qT.run {rv:ResultVar} {z:BV} (hr:qT P s rv z) {a:Act} {w:World} {h:PH} {ρ:RM} (hw:WR E n s.own h ρ w) (hs:ck h ρ s.slots a.tmps) :
  ∃ v,(lX a.tmps rv).run P w = .ok v w ∧ z.rel h ρ v:=by
 cases hr with
 | tmp h'=>
  obtain ⟨v,hv,hrel⟩:=hs _ _ (dl (show lk s.slots _ = some _ from h'))
  exact ⟨v,by simp [lX,Array.getD_eq_getD_getElem?,hv],hrel⟩
 | @agg t' k off m T T' ps qs ht h' hk hp hq=>
  obtain ⟨v,hv,b,he,hv'⟩:=hs _ _ (dl (show lk s.slots _ = some _ from h'))
  obtain ⟨b',cur,hb1,hb2,hb3⟩:=jk hw hk
  have:b' = b:=by rw [hb1] at he; simpa using he
  subst this
  have hc:bd h qs ((cur.toList.drop off).take m):=by rw [← hp]; exact bT.take (bT.drop hb3 off) m
  have hrun:=kO ht (w:=w) (b:=b') (o:=off) (cs:=(cur.toList.drop off).take m) (by rw [← hc.length,hq]) (fun j v hv=>by
   rw [hO hb2]
   rw [List.getElem?_take] at hv
   split at hv
   ·simpa using hv
   ·simp at hv)
  have hg:a.tmps.getD t' undef = .pointer (some ⟨b',off,none⟩):=by simp [Array.getD_eq_getD_getElem?,hv,hv']
  refine ⟨.agg ((cur.toList.drop off).take m).toArray,?_,_,rfl,by simpa using hc⟩
  simp only [lX,hg]
  simp [asAddr,hrun]
 | @one t' k off T T' ps p ht h' hk hp=>
  obtain ⟨v,hv,b,he,hv'⟩:=hs _ _ (dl (show lk s.slots _ = some _ from h'))
  obtain ⟨b',cur,hb1,hb2,hb3⟩:=jk hw hk
  have:b' = b:=by rw [hb1] at he; simpa using he
  subst this
  obtain ⟨u,hu,hpu⟩:=hb3.get off p hp
  have hrun:=kN ht (w:=w) (b:=b') (o:=off) (v:=u) (by rw [hO hb2]; simpa using hu)
  have hg:a.tmps.getD t' undef = .pointer (some ⟨b',off,none⟩):=by simp [Array.getD_eq_getD_getElem?,hv,hv']
  refine ⟨u,?_,hpu⟩
  simp only [lX,hg]
  simp [asAddr,hrun]
theorem sC {fn:Func} {zs:List BV} (hr:bT (qT P s) fn.results.toList zs) {a:Act} {w:World} {h:PH} {ρ:RM} (hw:WR E n s.own h ρ w) (hs:ck h ρ s.slots a.tmps) :
  ∃ v,(results fn a.tmps).run P w = .ok v w ∧ (Cg zs).rel h ρ v:=by
 have key:∀ (rs:List ResultVar) (zs:List BV),bT (qT P s) rs zs → ∃ vs,(rs.mapM (lX a.tmps)).run P w = .ok vs w ∧ bT (fun (x:BV) u=>x.rel h ρ u) zs vs:=by
  intro rs zs hh
  induction hh with
  | nil=>exact ⟨[],by simp,.nil⟩
  | cons h' _ ih=>
   obtain ⟨v,hv,hrel⟩:=h'.run hw hs
   obtain ⟨vs,hvs,hall⟩:=ih
   refine ⟨v :: vs,?_,.cons hrel hall⟩
   rw [List.mapM_cons,Sem.run_bind,hv,Result.andThen,Sem.run_bind,hvs]
   rfl
 obtain ⟨vs,hvs,hall⟩:=key _ _ hr
 rw [zC]
 have hm:(fn.results.mapM (lX a.tmps)).run P w = .ok vs.toArray w:=by
  rw [Array.mapM_eq_mapM_toList]
  simp [hvs]
 rw [Sem.run_bind,hm,Result.andThen]
 cases hall with
 | nil=>exact ⟨.tuple #[],by simp,_,rfl,.nil⟩
 | @cons z v zs' vs' h1 h2=>
  cases h2 with
  | nil=>exact ⟨v,by simp,h1⟩
  | @cons z2 v2 zs2 vs2 h3 h4=>
   exact ⟨.tuple (v :: v2 :: vs2).toArray,by simp,_,rfl,by simpa using .cons h1 (.cons h3 h4)⟩
theorem Fin.result {fn:Func} {post:oq} {e:Exit} {rs:List ResultVar} (zs:List BV) (he:e = .ret ∨ e = .normal) (hrs:fn.results.toList = rs) (hr:bT (qT P s) rs zs) (hp:post s.own (Cg zs)):Fin E n e s (Ret P fn E n post):=by
 intro a w ⟨h1,h2,h,ρ,hw,hs⟩
 obtain ⟨v,hv,hrel⟩:=sC (fn:=fn) (hrs ▸ hr) hw hs
 have:a.defers = [] ∧ ∃ v,(results fn a.tmps).run P w = .ok v w ∧ Ce E n post (.returned v) w:=⟨h1,v,hv,v,s.own,_,h,ρ,rfl,hp,hw,hrel⟩
 rcases he with rfl | rfl <;> exact this
def evB (s:St) (x:Operand):Option BV :=
 match s.ev x with
 | some (.b z)=>some z
 | _=>none
def lj (s:St):List Operand → Option (List BV)
 | []=>some []
 | x :: l=>(evB s x).bind fun z=>(lj s l).map fun r=>z :: r
theorem qM {h:PH} {ρ:RM} {a:Act} (hs:ck h ρ s.slots a.tmps):∀ {l:List Operand} {zs:List BV},lj s l = some zs → bT (fun (x:BV) v=>x.rel h ρ v) zs (l.map a.eval)
 | [],zs,e=>by simp [lj] at e; subst e; exact .nil
 | x :: l,zs,e=>by
  unfold lj at e
  simp only [Option.bind_eq_some_iff,Option.map_eq_some_iff] at e
  obtain ⟨z,hz,r,hr,rfl⟩:=e
  refine .cons ?_ (qM hs hr)
  unfold evB at hz
  split at hz
  ·rename_i z' hz'
   simp at hz; subst hz
   exact bC hs hz'
  ·simp at hz
def evBB (s:St) (x:Operand):Option BV :=
 match s.ev x with
 | some (.b (.row k))=>match lk s.own k with
  | some (.row _ size es)=>some (.one (.sl size es))
  | _=>none
 | some (.b z)=>some z
 | _=>none
def pI (s:St):List Operand → Option (List BV)
 | []=>some []
 | x :: l=>(evBB s x).bind fun z=>(pI s l).map fun r=>z :: r
def full (w:World):PH:=fun b o=>w.cell? ⟨b,o,none⟩
theorem AH {h:PH} {w:World} (ha:tK h w):h.le (full w):=fun b o v hv=>ha b o v hv
theorem dR.full {TB:cG} {h:PH} {w:World} (ht:dR TB h w) (ha:tK h w):dR TB (full w) w:=fun g cs hm=>⟨(ht g cs hm).1,fun o v hv=>ha _ _ _ ((ht g cs hm).2.1 o v hv),(ht g cs hm).2.2⟩
theorem Dn {h:PH} {ρ:RM} {own:List (Nat × OC)} {w:World} (hw:WR E n own h ρ w) {k:Nat} {T:TypeId} {size:Nat} {es:List (List CP)} (hk:lk own k = some (.row T size es)):(CP.sl size es).rel (full w) (ρ k):=by
 obtain ⟨hu,hz,hf⟩:=oE hw hk
 refine ⟨hu,hz,?_⟩
 rcases hf with hf | ⟨b,cap,cur,h1,h2,h3,h4,h5,h6⟩
 ·exact .inl hf
 ·refine .inr ⟨b,0,cap,h1,h3,h4,fun j c hc=>?_⟩
  obtain ⟨u,hu,hr⟩:=h6.get j c hc
  refine ⟨u,?_,c.mono (AH hw.agree) hr⟩
  rw [List.getElem?_take] at hu
  unfold full
  rw [hO h2,Nat.zero_add]
  split at hu
  ·simpa using hu
  ·simp at hu
theorem sR {h:PH} {ρ:RM} {a:Act} {w:World} (hw:WR E n s.own h ρ w) (hs:ck h ρ s.slots a.tmps):∀ {l:List Operand} {zs:List BV},pI s l = some zs → bT (fun (x:BV) v=>x.rel (full w) ρ v) zs (l.map a.eval)
 | [],zs,e=>by simp [pI] at e; subst e; exact .nil
 | x :: l,zs,e=>by
  unfold pI at e
  simp only [Option.bind_eq_some_iff,Option.map_eq_some_iff] at e
  obtain ⟨z,hz,r,hr,rfl⟩:=e
  refine .cons ?_ (sR hw hs hr)
  unfold evBB at hz
  split at hz
  ·rename_i k hk
   split at hz
   ·rename_i T size es hko
    simp at hz; subst hz
    have hv:a.eval x = ρ k:=(bC hs hk:BV.rel h ρ (.row k) _)
    rw [hv]; exact Dn hw hko
   ·simp at hz
  ·rename_i z' _ hz'
   simp at hz; subst hz
   exact BV.mono (AH hw.agree) (fun _ _=>rfl) (bC hs hz')
  ·simp at hz
def CP.flat (p:CP):Prop:=∀ h h' v,p.rel h v → p.rel h' v
def BV.flat:BV → Prop
 | .one p=>p.flat
 | .agg ps=>∀ p ∈ ps,p.flat
 | _=>False
def SV.flat:SV → Prop
 | .b z=>z.flat
 | .fE l=>∀ z ∈ l,z.flat
 | .dA _ z=>z.flat
 | .n8 _=>False
theorem CP.eR {k:IntKind} {m:Int}:(CP.int k m).flat:=fun _ _ _ h=>h
theorem CP.dJ {b:Bool}:(CP.bool b).flat:=fun _ _ _ h=>h
theorem CP.DX {z:bg}:(CP.str z).flat:=fun _ _ _ h=>h
theorem BV.oL {z:BV} (hz:z.flat) {h h':PH} {ρ ρ':RM} {v:Value} (hv:z.rel h ρ v):z.rel h' ρ' v:=by
 cases z with
 | one p=>exact hz _ _ _ hv
 | agg ps=>
  obtain ⟨cs,e,ha⟩:=hv
  refine ⟨cs,e,?_⟩
  have hz':∀ p ∈ ps,p.flat:=hz
  clear e hz
  generalize cs.toList = l at ha
  induction ha with
  | nil=>exact .nil
  | cons h1 _ ih=>exact .cons (hz' _ (by simp) _ _ _ h1) (ih fun p hp=>hz' p (by simp [hp]))
 | _=>exact hz.elim
theorem SV.oL {z:SV} (hz:z.flat) {h h':PH} {ρ ρ':RM} {v:Value} (hv:z.rel h ρ v):z.rel h' ρ' v:=by
 cases z with
 | b z=>exact BV.oL hz hv
 | dA c z=>exact ⟨fun hc=>BV.oL hz (hv.1 hc),hv.2⟩
 | n8 l=>exact hz.elim
 | fE l=>
  obtain ⟨vs,e,ha⟩:=hv
  refine ⟨vs,e,?_⟩
  have hz':∀ p ∈ l,p.flat:=hz
  clear e hz
  generalize vs.toList = q at ha
  induction ha with
  | nil=>exact .nil
  | cons h1 _ ih=>exact .cons (BV.oL (hz' _ (by simp)) h1) (ih fun p hp=>hz' p (by simp [hp]))
structure bn (P:Program) (f:FuncId):Prop where
 run:∀ (args:Array Value) (w:World),(callFunc f args).run P w = .ok (.enter f args) w
theorem uo {f:FuncId} {xs:Array Operand} {ats:Array TypeId} (hf:bn P f) (a:Act) (w:World):(execOp a.eval ⟨dst,.call ⟨.value (.func f),xs,ats⟩,ty,pos,after,g⟩).run P w = .ok (.enter f (xs.toList.map a.eval).toArray) w:=by
 rw [show execOp a.eval ⟨dst,.call ⟨.value (.func f),xs,ats⟩,ty,pos,after,g⟩ = callFunc f (#[] ++ xs.map a.eval ++ #[]) from rfl,hf.run]
 congr 2
 apply Array.ext'
 simp
theorem w6 {f:FuncId} {xs:Array Operand} {ats:Array TypeId} (hf:bn P f) (a:Act) (w:World) (hx:a.eval x = .func (.func f) #[] #[]):(execOp a.eval ⟨dst,.call ⟨.value x,xs,ats⟩,ty,pos,after,g⟩).run P w = .ok (.enter f (xs.toList.map a.eval).toArray) w:=by
 have:execOp a.eval ⟨dst,.call ⟨.value x,xs,ats⟩,ty,pos,after,g⟩ = (do let d ← Deferred.ofValue (a.eval x) (xs.map a.eval); invoke d.target d.args):=rfl
 rw [this,hx]
 have h2:(do let d ← Deferred.ofValue (.func (.func f) #[] #[]) (xs.map a.eval); invoke d.target d.args:Sem Next) = callFunc f (#[] ++ xs.map a.eval ++ #[]):=rfl
 rw [h2,hf.run]
 congr 2
 apply Array.ext'
 simp
def r6:List (Nat × OC) → List (Nat × OC) → List (Nat × OC)
 | [],own=>own
 | p :: l,own=>r6 l (ins p.1 p.2 own)
theorem nM:∀ {l own:List (Nat × OC)} {j:Nat} {x:OC},(j,x) ∈ r6 l own → (j,x) ∈ l ∨ ((j,x) ∈ own ∧ j ∉ bL l)
 | [],own,j,x,h=>.inr ⟨h,by simp [bL]⟩
 | p :: l,own,j,x,h=>by
  rcases nM (l:=l) h with h | ⟨h,hn⟩
  ·exact .inl (List.mem_cons_of_mem _ h)
  ·rcases pE h with ⟨rfl,rfl⟩ | ⟨h1,h2⟩
   ·exact .inl List.mem_cons_self
   ·exact .inr ⟨h2,by simp only [bL,List.map_cons,List.mem_cons,not_or]; exact ⟨h1,hn⟩⟩
def mu:List (Nat × OC) → List (Nat × OC) → List (Nat × OC)
 | [],own=>own
 | p :: l,own=>mu l (del p.1 own)
theorem nN:∀ {l own:List (Nat × OC)} {p:Nat × OC},p ∈ mu l own → p ∈ own ∧ p.1 ∉ bL l
 | [],own,p,h=>⟨h,by simp [bL]⟩
 | q :: l,own,p,h=>by
  obtain ⟨h1,h2⟩:=nN (l:=l) h
  obtain ⟨h3,h4⟩:=gy h1
  exact ⟨h3,by simp only [bL,List.map_cons,List.mem_cons,not_or]; exact ⟨h4,h2⟩⟩
def ni (k:Nat):List (Nat × OC) → Bool
 | []=>false
 | (j,_) :: l=>k == j || ni k l
theorem fR {k:Nat}:∀ {l:List (Nat × OC)},ni k l = true ↔ k ∈ bL l
 | []=>by simp [ni,bL]
 | (j,c) :: l=>by
  have:=fR (k:=k) (l:=l)
  simp only [ni,bL,List.map_cons,List.mem_cons,Bool.or_eq_true,this]
  simp
def vL (k:Nat) (own:List (Nat × OC)):Bool:=(cx own).contains k
theorem uF {k:Nat} {l:List (Nat × OC)}:vL k l = true ↔ k ∈ cx l:=by simp [vL]
def rj (own_a:List (Nat × OC)):List (Nat × OC) → List (Nat × SV) → List (Nat × SV)
 | [],sl=>sl
 | p :: l,sl=>rj own_a l (if vL p.1 own_a then sl else eJ p.1 sl)
theorem pc {own_a:List (Nat × OC)}:∀ {l:List (Nat × OC)} {sl:List (Nat × SV)} {q:Nat × SV},q ∈ rj own_a l sl → q ∈ sl ∧ ∀ k,k ∈ bL l → k ∉ cx own_a → q.2.cI k = false
 | [],sl,q,h=>⟨h,fun k hk=>by simp [bL] at hk⟩
 | p :: l,sl,q,h=>by
  obtain ⟨h1,h2⟩:=pc (l:=l) h
  split at h1
  ·rename_i hk
   refine ⟨h1,fun k hk' hn=>?_⟩
   simp only [bL,List.map_cons,List.mem_cons] at hk'
   rcases hk' with rfl | hk'
   ·exact absurd (uF.1 hk) hn
   ·exact h2 k hk' hn
  ·obtain ⟨h3,h4⟩:=gS h1
   refine ⟨h3,fun k hk' hn=>?_⟩
   simp only [bL,List.map_cons,List.mem_cons] at hk'
   rcases hk' with rfl | hk'
   ·exact h4
   ·exact h2 k hk' hn
def p4 (n:Sh) (own_a:List (Nat × OC)):List (Nat × OC) → Bool
 | []=>true
 | p :: l=>(vL p.1 own_a || !n.fix.contains p.1) && p4 n own_a l
theorem uB {own_a:List (Nat × OC)}:∀ {l:List (Nat × OC)},p4 n own_a l = true → ∀ k,k ∈ bL l → k ∈ cx own_a ∨ k ∉ n.fix
 | [],_,k,hk=>by simp [bL] at hk
 | p :: l,h,k,hk=>by
  simp only [p4,Bool.and_eq_true,Bool.or_eq_true,uF] at h
  simp only [bL,List.map_cons,List.mem_cons] at hk
  rcases hk with rfl | hk
  ·exact h.1.imp id (fun e=>by simpa using e)
  ·exact uB h.2 k hk
def yE (own':List (Nat × OC)) (ρ' ρ:RM):RM:=fun k=>if ni k own' then ρ' k else ρ k
theorem jX {own':List (Nat × OC)} {ρ' ρ:RM} {k:Nat} (h:k ∈ bL own'):yE own' ρ' ρ k = ρ' k:=by simp [yE,fR.2 h]
theorem lD {own':List (Nat × OC)} {ρ' ρ:RM} {k:Nat} (h:k ∉ bL own'):yE own' ρ' ρ k = ρ k:=by
 have:ni k own' = false:=by
  cases e:ni k own' with
  | false=>rfl
  | true=>exact absurd (fR.1 e) h
 simp [yE,this]
def CV.dC (own:List (Nat × OC)):CV → Bool
 | .ptr k _ | .row k=>ni k own
 | _=>true
theorem CV.c7 {own:List (Nat × OC)} {z:CV} (h:z.dC own = true) {k:Nat} (hk:z.cI k = true):k ∈ bL own:=by
  cases z with
  | ptr j _=>have e:j = k:=by simpa [CV.cI] using hk
             subst e; exact fR.1 h
  | row j=>have e:j = k:=by simpa [CV.cI] using hk
           subst e; exact fR.1 h
  | _=>simp [CV.cI] at hk
def BV.dC (own:List (Nat × OC)):BV → Bool
 | .ptr k _ | .row k | .j2 k _ | .part k _ _ _ _ | .s9 k _ _ _=>ni k own
 | .pY _ fs cs=>fs.all (·.dC own) && cs.all (·.dC own)
 | _=>true
theorem BV.c7 {own:List (Nat × OC)} {z:BV} (h:z.dC own = true) {k:Nat} (hk:z.cI k = true):k ∈ bL own:=by
  cases z with
  | ptr j _=>have e:j = k:=by simpa [BV.cI] using hk
             subst e; exact fR.1 h
  | row j=>have e:j = k:=by simpa [BV.cI] using hk
           subst e; exact fR.1 h
  | j2 j _=>have e:j = k:=by simpa [BV.cI] using hk
            subst e; exact fR.1 h
  | part j _ _ _ _=>have e:j = k:=by simpa [BV.cI] using hk
                    subst e; exact fR.1 h
  | s9 j _ _ _=>have e:j = k:=by simpa [BV.cI] using hk
                subst e; exact fR.1 h
  | pY f fs cs=>
    simp only [BV.dC,Bool.and_eq_true,List.all_eq_true] at h
    simp only [BV.cI,Bool.or_eq_true,List.any_eq_true] at hk
    rcases hk with ⟨z,hz,hk⟩ | ⟨z,hz,hk⟩
    · exact CV.c7 (h.1 z hz) hk
    · exact CV.c7 (h.2 z hz) hk
  | _=>simp [BV.cI] at hk
def OC.dC (own:List (Nat × OC)):OC → Bool
 | .n7 _ cs=>cs.all (·.dC own)
 | .mp es=>es.all (·.2.dC own)
 | _=>true
theorem OC.c7 {own:List (Nat × OC)} {c:OC} (h:c.dC own = true) {k:Nat} (hk:c.cI k = true):k ∈ bL own:=by
 cases c with
 | n7 T cs=>
  simp only [OC.cI,List.any_eq_true] at hk
  obtain ⟨z,hz,hk⟩:=hk
  simp only [OC.dC,List.all_eq_true] at h
  exact BV.c7 (h z hz) hk
 | mp es=>
  simp only [OC.cI,List.any_eq_true] at hk
  obtain ⟨z,hz,hk⟩:=hk
  simp only [OC.dC,List.all_eq_true] at h
  exact BV.c7 (h z hz) hk
 | _=>simp [OC.cI] at hk
def pZ (own own_a own':List (Nat × OC)):Bool:=(own'.all fun p=>p.2.dC own') && ((mu own_a own).all fun p=>(bL own').all fun k=>(cx own_a).contains k || !p.2.cI k)
theorem WR.call {h h':PH} {ρ ρ':RM} {own own_a own':List (Nat × OC)} {w w':World} {tb:dR TB h w} (hw:WR E n own h ρ w) (ha:∀ k c,(k,c) ∈ own_a → (k,c) ∈ own) (hc:WR ⟨w,h,ρ,tb⟩ ⟨0,cx own_a,bL own_a⟩ own' h' ρ' w')
  (hk:p4 n own_a own' = true) (hcl:pZ own own_a own' = true):WR E n (r6 own' (mu own_a own)) h' (yE own' ρ' ρ) w':=by
 have hkn:=uB hk
 simp only [pZ,Bool.and_eq_true,List.all_eq_true,Bool.or_eq_true,Bool.not_eq_true'] at hcl
 have hren':∀ k c,(k,c) ∈ own' → ∀ j,c.cI j = true → yE own' ρ' ρ j = ρ' j:=fun k c hkc j hj=>jX (OC.c7 (hcl.1 _ hkc) hj)
 have hrenr:∀ k c,(k,c) ∈ mu own_a own → ∀ j,c.cI j = true → yE own' ρ' ρ j = ρ j:=fun k c hkc j hj=>by
  by_cases hin:j ∈ bL own'
  ·rw [jX hin]
   rcases hcl.2 _ hkc j hin with h1 | h1
   ·exact hc.fixed j (by simpa using h1)
   ·rw [h1] at hj; simp at hj
  ·exact lD hin
 have hlent:∀ b,uT ⟨w,h,ρ,tb⟩ ⟨0,cx own_a,bL own_a⟩ b → ∃ k c,(k,c) ∈ own_a ∧ cq (ρ k) = some b:=fun b ⟨k,hk,hb⟩=>by
  obtain ⟨⟨k',c⟩,hm,rfl⟩:=List.mem_map.1 hk
  exact ⟨k',c,hm,hb⟩
 have hrest:∀ j x,(j,x) ∈ mu own_a own → ∀ b,cq (ρ j) = some b → b < w.heap.size ∧ ¬ uT ⟨w,h,ρ,tb⟩ ⟨0,cx own_a,bL own_a⟩ b:=fun j x hj b hb=>by
  obtain ⟨h1,h2⟩:=nN hj
  have ho:=hw.owned j x h1
  refine ⟨ho.1.lt hb,fun hl=>?_⟩
  obtain ⟨k,c,hkc,hkb⟩:=hlent b hl
  exact ho.2.2 k c (ha k c hkc) (fun e=>h2 (by subst e; exact List.mem_map.2 ⟨_,hkc,rfl⟩)) b hb hkb
 have hsame:∀ j x,(j,x) ∈ mu own_a own → ∀ b,cq (ρ j) = some b → w'.heap[b]? = w.heap[b]?:=fun j x hj b hb=>hc.same b (hrest j x hj b hb).1 (hrest j x hj b hb).2
 refine ⟨hc.agree,PH.le_trans hw.le hc.le,?_,Nat.le_trans hw.size hc.size,?_,?_,hc.os.trans hw.os,hc.out.trans hw.out,hw.nl,?_⟩
 ·intro b hb hl
  rw [hc.fresh b (Nat.lt_of_lt_of_le hb hw.size) fun hl'=>?_]
  ·exact hw.fresh b hb hl
  ·obtain ⟨k,c,hkc,hkb⟩:=hlent b hl'
   rcases ((hw.owned k c (ha k c hkc)).2.1 b hkb).1 with h1 | h1
   ·omega
   ·exact hl h1
 ·intro b hb hl
  rw [hc.same b (Nat.lt_of_lt_of_le hb hw.size) fun hl'=>?_]
  ·exact hw.same b hb hl
  ·obtain ⟨k,c,hkc,hkb⟩:=hlent b hl'
   rcases ((hw.owned k c (ha k c hkc)).2.1 b hkb).1 with h1 | h1
   ·omega
   ·exact hl h1
 ·intro k hkf
  by_cases hin:k ∈ bL own'
  ·rw [jX hin]
   rcases hkn k hin with h1 | h1
   ·rw [hc.fixed k h1]; exact hw.fixed k hkf
   ·exact absurd hkf h1
  ·rw [lD hin]; exact hw.fixed k hkf
 ·intro k c hkc
  rcases nM hkc with hin | ⟨hin,hnin⟩
  ·have hkin:k ∈ bL own':=List.mem_map.2 ⟨_,hin,rfl⟩
   rw [jX hkin]
   obtain ⟨e1,e2,e3⟩:=hc.owned k c hin
   have hcase:∀ b,cq (ρ' k) = some b → w.heap.size ≤ b ∨ ∃ k2 c2,(k2,c2) ∈ own_a ∧ cq (ρ k2) = some b:=fun b hb=>by
    rcases (e2 b hb).1 with h1 | h1
    ·exact .inl h1
    ·obtain ⟨k2,c2,h3,h4⟩:=hlent b h1
     exact .inr ⟨k2,c2,h3,h4⟩
   refine ⟨e1.ren (hren' k c hin),fun b hb=>⟨?_,(e2 b hb).2⟩,?_⟩
   ·rcases hcase b hb with h1 | ⟨k2,c2,h3,h4⟩
    ·exact .inl (Nat.le_trans hw.size h1)
    ·rcases ((hw.owned k2 c2 (ha k2 c2 h3)).2.1 b h4).1 with h6 | h6
     ·exact .inl h6
     ·exact .inr h6
   ·intro j x hj hjk b hb
    rcases nM hj with hjin | ⟨hjin,hjn⟩
    ·rw [jX (List.mem_map.2 ⟨_,hjin,rfl⟩)]
     exact e3 j x hjin hjk b hb
    ·rw [lD hjn]
     intro hb'
     have hr:=hrest j x hjin b hb'
     rcases (e2 b hb).1 with h1 | h1
     ·exact absurd hr.1 (Nat.not_lt.2 h1)
     ·exact hr.2 h1
  ·rw [lD hnin]
   obtain ⟨e1,e2,e3⟩:=hw.owned k c (nN hin).1
   refine ⟨((e1.congr (hsame k c hin)).mono hc.le).ren (hrenr k c hin),fun b hb=>⟨(e2 b hb).1,fun o=>?_⟩,?_⟩
   ·rw [hc.fresh b (hrest k c hin b hb).1 (hrest k c hin b hb).2]; exact (e2 b hb).2 o
   ·intro j x hj hjk b hb
    rcases nM hj with hjin | ⟨hjin,hjn⟩
    ·rw [jX (List.mem_map.2 ⟨_,hjin,rfl⟩)]
     intro hb'
     have hr:=hrest k c hin b hb
     rcases ((hc.owned j x hjin).2.1 b hb').1 with h1 | h1
     ·exact absurd hr.1 (Nat.not_lt.2 h1)
     ·exact hr.2 h1
    ·rw [lD hjn]
     exact e3 j x (nN hjin).1 hjk b hb
theorem AG {h:PH} {ρ:RM} {own own_a:List (Nat × OC)} {w:World} (hw:WR E n own h ρ w) (ha:∀ k c,(k,c) ∈ own_a → (k,c) ∈ own):Lent own_a h ρ w:=fun k c hk=>by
 obtain ⟨e1,e2,e3⟩:=hw.owned k c (ha k c hk)
 exact ⟨e1,fun b hb=>(e2 b hb).2,fun k' c' hk'=>e3 k' c' (ha k' c' hk')⟩
def SV.dC (own:List (Nat × OC)):SV → Bool
 | .b z=>z.dC own
 | .fE l=>l.all (·.dC own)
 | .n8 l=>l.all (·.dC own)
 | .dA _ z=>z.dC own
theorem SV.c7 {own:List (Nat × OC)} {z:SV} (h:z.dC own = true) {k:Nat} (hk:z.cI k = true):k ∈ bL own:=by
 cases z with
 | b z=>exact BV.c7 h hk
 | dA c z=>exact BV.c7 h hk
 | fE l=>
  simp only [SV.cI,List.any_eq_true] at hk
  obtain ⟨z,hz,hk⟩:=hk
  simp only [SV.dC,List.all_eq_true] at h
  exact BV.c7 (h z hz) hk
 | n8 l=>
  simp only [SV.cI,List.any_eq_true] at hk
  obtain ⟨z,hz,hk⟩:=hk
  simp only [SV.dC,List.all_eq_true] at h
  exact BV.c7 (h z hz) hk
def St.aft (n:Sh) (s:St) (own_a own':List (Nat × OC)) (dst:Option Nat) (res:SV):St:=(⟨rj own_a own' s.slots,r6 own' (mu own_a s.own)⟩:St).put n dst res
def ou (own:List (Nat × OC)):List (Nat × OC) → Prop
 | []=>True
 | p :: l=>lk own p.1 = some p.2 ∧ ou own l
theorem pd {own:List (Nat × OC)}:∀ {l:List (Nat × OC)},ou own l → ∀ k c,(k,c) ∈ l → (k,c) ∈ own
 | [],_,k,c,h=>by simp at h
 | p :: l,hl,k,c,h=>by
  cases List.mem_cons.1 h with
  | inl e=>subst e; exact dl hl.1
  | inr e=>exact pd hl.2 k c e
theorem sj {o:Oper} {f:FuncId} {own_a:List (Nat × OC)} {args:List BV} {xs:List Operand} {post:oq} (hspec:az P TB f own_a args post) (hrun:∀ (a:Act) (w:World),R E n s a w → (execOp a.eval o).run P w = .ok (.enter f (xs.map a.eval).toArray) w)
  (ha:lj s xs = some args) (hl:ou s.own own_a) {a:Act} {w:World} (hr:R E n s a w) {next:Act → World → Prop} {Q:fi}
  (hnext:∀ own' res,post own' res → p4 n own_a own' = true ∧ pZ s.own own_a own' = true ∧ res.dC own' = true ∧ ∀ a' w',R E n (s.aft n own_a own' o.dst res) a' w' → next a' w'):o.wp P a w next Q:=by
 have hr0:=hrun a w hr
 obtain ⟨hdf,hn,h,ρ,hw,hs⟩:=hr
 unfold Oper.wp
 rw [hr0]
 show Calls P f _ w _
 have hla:=pd hl
 refine (hspec w h ρ _ hw.bj hw.agree (AG hw hla) (qM hs ha)).mono ?_
 rintro e w' ⟨v,own',res,h',ρ',rfl,hp,hc,hres⟩
 obtain ⟨hok,hcl,hki,hnx⟩:=hnext own' res hp
 have hwc:=hw.call hla hc hok hcl
 refine hnx _ _ (R.put (s:=⟨rj own_a own' s.slots,r6 own' (mu own_a s.own)⟩) hdf hn hwc ?_ ?_)
 ·intro k x hx
  obtain ⟨h1,h2⟩:=pc hx
  obtain ⟨u,hu,hrel⟩:=hs k x h1
  refine ⟨u,hu,SV.mono hc.le (fun j hj=>?_) hrel⟩
  by_cases hin:j ∈ bL own'
  ·rw [jX hin]
   by_cases hia:j ∈ cx own_a
   ·exact hc.fixed j hia
   ·have:=h2 j hin hia; simp [this] at hj
  ·exact lD hin
 ·exact SV.mono (PH.le_refl _) (fun j hj=>jX (SV.c7 hki hj)) hres
theorem ad.call {f:FuncId} {own_a:List (Nat × OC)} {args:List BV} {xs:Array Operand} {ats:Array TypeId} {post:oq} (hspec:az P TB f own_a args post) (hf:bn P f) (ha:lj s xs.toList = some args) (hl:ou s.own own_a)
  (h2:∀ own' res,post own' res → p4 n own_a own' = true ∧ pZ s.own own_a own' = true ∧ res.dC own' = true ∧ ad P E n ops l (s.aft n own_a own' dst res) Q):ad P E n ops (⟨dst,.call ⟨.value (.func f),xs,ats⟩,ty,pos,after,none⟩ :: l) s Q:=by
 intro a w hr
 unfold wpL
 have:∀ tmps,Region.wanted ⟨dst,.call ⟨.value (.func f),xs,ats⟩,ty,pos,after,none⟩ (yielded ops tmps) = true:=fun _=>rfl
 simp only [this,if_true]
 exact sj hspec (fun a w _=>uo hf a w) ha hl hr fun own' res hp=>⟨(h2 own' res hp).1,(h2 own' res hp).2.1,(h2 own' res hp).2.2.1,fun a' w' hr'=>(h2 own' res hp).2.2.2 a' w' hr'⟩
theorem jU {f:FuncId} {own_a own':List (Nat × OC)} {args:List BV} {xs:Array Operand} {ats:Array TypeId} {res:SV} (hspec:az P TB f own_a args (Is own' res)) (hf:bn P f) (ha:lj s xs.toList = some args) (hl:ou s.own own_a)
  (hok:p4 n own_a own' = true) (hki:res.dC own' = true) (hcl:pZ s.own own_a own' = true:=by rfl):bY P E n ⟨dst,.call ⟨.value (.func f),xs,ats⟩,ty,pos,after,g⟩ s (s.aft n own_a own' dst res) :=
 fun _ _ hr _ _ hnext=>sj hspec (fun a w _=>uo hf a w) ha hl hr fun _ _ hp=>by
  obtain ⟨rfl,rfl⟩:=hp
  exact ⟨hok,hcl,hki,hnext⟩
theorem Dy {f:FuncId} {own_a own':List (Nat × OC)} {args:List BV} {xs:Array Operand} {ats:Array TypeId} {res:SV} (hspec:az P TB f own_a args (Is own' res)) (hf:bn P f) (hx:s.ev x = some (.b (.one (.raw (.func (.func f) #[] #[]))))) (ha:lj s xs.toList = some args) (hl:ou s.own own_a)
  (hok:p4 n own_a own' = true) (hki:res.dC own' = true) (hcl:pZ s.own own_a own' = true:=by rfl):bY P E n ⟨dst,.call ⟨.value x,xs,ats⟩,ty,pos,after,g⟩ s (s.aft n own_a own' dst res) :=
 fun _ _ hr _ _ hnext=>sj hspec (fun a w hr=>w6 hf a w (by obtain ⟨_,_,h,ρ,hw,hs⟩:=hr; exact (bC hs hx:(CP.raw _).rel h _).1)) ha hl hr fun _ _ hp=>by
  obtain ⟨rfl,rfl⟩:=hp
  exact ⟨hok,hcl,hki,hnext⟩
theorem zT {o:Oper} {f:FuncId} {args:List BV} {xs:List Operand} {post:oq} (hspec:az P TB f [] args post) (hrun:∀ (a:Act) (w:World),R E n s a w → (execOp a.eval o).run P w = .ok (.enter f (xs.map a.eval).toArray) w)
  (ha:pI s xs = some args) {a:Act} {w:World} (hr:R E n s a w) {next:Act → World → Prop} {Q:fi}
  (hnext:∀ own' res,post own' res → res.flat ∧ ∀ a' w',R E n (s.put n o.dst res) a' w' → next a' w'):o.wp P a w next Q:=by
 have hr0:=hrun a w hr
 obtain ⟨hdf,hn,h,ρ,hw,hs⟩:=hr
 unfold Oper.wp
 rw [hr0]
 show Calls P f _ w _
 refine (hspec w (full w) ρ _ (hw.bj.full hw.agree) (fun _ _ _ hv=>hv) (fun k c hk=>by simp at hk) (sR hw hs ha)).mono ?_
 rintro e w' ⟨v,own',res,h',ρ',rfl,hp,hc,hres⟩
 obtain ⟨hfl,hnx⟩:=hnext own' res hp
 have hsame:∀ b,b < w.heap.size → w'.heap[b]? = w.heap[b]?:=fun b hb=>hc.same b hb fun ⟨k,hk,_⟩=>by simp [bL] at hk
 have hwc:WR E n s.own h ρ w':=by
  refine ⟨?_,hw.le,hw.fresh,Nat.le_trans hw.size hc.size,?_,hw.fixed,hc.os.trans hw.os,hc.out.trans hw.out,hw.nl,?_⟩
  ·intro b o v hv
   have hcell:=hw.agree b o v hv
   rw [cell_of_heap (hsame b (fQ hcell))]; exact hcell
  ·intro b hb hl
   rw [hsame b (Nat.lt_of_lt_of_le hb hw.size)]; exact hw.same b hb hl
  ·intro k c hk
   obtain ⟨e1,e2,e3⟩:=hw.owned k c hk
   exact ⟨e1.congr fun b hb=>hsame b (e1.lt hb),e2,e3⟩
 exact hnx _ _ (R.put (s:=s) hdf hn hwc hs (SV.oL hfl hres))
theorem eQ {f:FuncId} {own':List (Nat × OC)} {args:List BV} {xs:Array Operand} {ats:Array TypeId} {res:SV} (hspec:az P TB f [] args (Is own' res)) (hf:bn P f) (ha:pI s xs.toList = some args) (hfl:res.flat) :
  bY P E n ⟨dst,.call ⟨.value (.func f),xs,ats⟩,ty,pos,after,g⟩ s (s.put n dst res) :=
 fun _ _ hr _ _ hnext=>zT hspec (fun a w _=>uo hf a w) ha hr fun _ _ hp=>by
  obtain ⟨rfl,rfl⟩:=hp
  exact ⟨hfl,hnext⟩
end
end Go.Sk
namespace Go.Sk
set_option linter.unusedSimpArgs false
set_option linter.unusedVariables false
open Go Go.BigFrame
section
variable {P:Program} {TB:cG} {E:Env TB} {n:Sh} {s s':St} {ops:Array Oper} {l:List Oper} {Q:fi} {o:Oper}
def dN (P:Program) {TB:cG} (E:Env TB) (n:Sh) (ops:Array Oper) (o:Oper) (s s':St):Prop :=
 ∀ a w,R E n s a w → ∀ (K:Act → World → Prop) (Q:fi),(∀ a' w',R E n s' a' w' → K a' w') → if Region.wanted o (yielded ops a.tmps) then o.wp P a w K Q else K (a.put o.dst undef) w
theorem dN.plain (hg:o.guard = none) (h:bY P E n o s s'):dN P E n ops o s s':=by
 intro a w hr K Q hk
 have:Region.wanted o (yielded ops a.tmps) = true:=by simp [Region.wanted,hg]
 simp only [this,if_true]
 exact h a w hr K Q hk
theorem dN.guard {j t:Nat} {want gd:Bool} {z:BV} (gd':Bool) (m:Nat) (ks:List Nat) (hG:pM s t want gd) (hgd:gd = gd') (hg:o.guard = some (j,want)) (hj:(ops[j]?).bind (·.dst) = some t)
  (hc:gd' = true → eP m ks s.slots) (h1:gd' = true → bY P E n o (s.lW m ks) ((s.lW m ks).put n o.dst (.b z))):dN P E n ops o s (s.put n o.dst (.dA gd' z)):=by
 subst hgd
 intro a w hr K Q hk
 have hwant:=hG.wanted hg hj hr
 cases hb:gd with
 | true=>
  rw [hb] at hwant
  simp only [hwant,if_true]
  exact h1 hb a w (hr.lW (hc hb)) _ _ fun a' w' hr'=>hk a' w' (qk hb (hc hb) hr')
 | false=>
  rw [hb] at hwant
  simp only [hwant,Bool.false_eq_true,if_false]
  refine hk _ _ ?_
  rw [hb]
  obtain ⟨hdf,hn,h,ρ,hw,hsl⟩:=hr
  exact R.put (s:=s) hdf hn hw hsl ⟨fun e=>by simp at e,fun _=>rfl⟩
def bI (p:Nat → Bool):Nat → List Oper → List SV → List (Nat × SV)
 | i,o :: l,x :: Fs=>match o.dst with
  | some d=>if p i then (d,x) :: bI p (i + 1) l Fs else bI p (i + 1) l Fs
  | none=>bI p (i + 1) l Fs
 | _,_,_=>[]
theorem dd {p:Nat → Bool}:∀ {l:List Oper} {Fs:List SV} {i:Nat} {q:Nat × SV},q ∈ bI p i l Fs ↔ ∃ j o,l[j]? = some o ∧ o.dst = some q.1 ∧ Fs[j]? = some q.2 ∧ p (i + j) = true
 | [],Fs,i,q=>by simp [bI]
 | o :: l,[],i,q=>by simp [bI]
 | o :: l,x :: Fs,i,q=>by
  have ih:=dd (p:=p) (l:=l) (Fs:=Fs) (i:=i + 1) (q:=q)
  have step:(∃ j o',(o :: l)[j]? = some o' ∧ o'.dst = some q.1 ∧ (x :: Fs)[j]? = some q.2 ∧ p (i + j) = true) ↔ (o.dst = some q.1 ∧ x = q.2 ∧ p i = true) ∨ ∃ j o',l[j]? = some o' ∧ o'.dst = some q.1 ∧ Fs[j]? = some q.2 ∧ p (i + 1 + j) = true:=by
   constructor
   ·rintro ⟨j,o',h1,h2,h3,h4⟩
    cases j with
    | zero=>simp at h1 h3; subst h1; exact .inl ⟨h2,h3,h4⟩
    | succ j=>exact .inr ⟨j,o',by simpa using h1,h2,by simpa using h3,by rw [Nat.add_assoc,Nat.add_comm 1 j]; exact h4⟩
   ·rintro (⟨h1,h2,h3⟩ | ⟨j,o',h1,h2,h3,h4⟩)
    ·exact ⟨0,o,by simp,h1,by simp [h2],h3⟩
    ·exact ⟨j + 1,o',by simpa using h1,h2,by simpa using h3,by rw [Nat.add_assoc,Nat.add_comm 1 j] at h4; exact h4⟩
  have hcons:bI p i (o :: l) (x :: Fs) = (match o.dst with
   | some d=>if p i then (d,x) :: bI p (i + 1) l Fs else bI p (i + 1) l Fs
   | none=>bI p (i + 1) l Fs):=rfl
  rw [step,← ih,hcons]
  cases hd:o.dst with
  | none=>simp
  | some d=>
   dsimp only
   split
   ·rename_i hp
    rw [List.mem_cons]
    constructor
    ·rintro (rfl | h)
     ·exact .inl ⟨rfl,rfl,hp⟩
     ·exact .inr h
    ·rintro (⟨h1,h2,_⟩ | h)
     ·left; cases q; simp at h1 h2; simp [h1,h2]
     ·exact .inr h
   ·rename_i hp
    constructor
    ·exact .inr
    ·rintro (⟨_,_,h3⟩ | h)
     ·exact absurd h3 hp
     ·exact h
def fK (l:List Oper) (Fs:List SV):List Edge → List (Nat × SV)
 | []=>[]
 | e :: es=>if Region.binds .any e then
   match l[e.on]?,Fs[e.on]? with
   | some o,some x=>(match o.dst with | some d=>(d,x) :: fK l Fs es | none=>fK l Fs es)
   | _,_=>fK l Fs es
  else fK l Fs es
theorem rM {l:List Oper} {Fs:List SV}:∀ {es:List Edge} {q:Nat × SV},q ∈ fK l Fs es → ∃ e,e ∈ es ∧ Region.binds .any e = true ∧ ∃ o,l[e.on]? = some o ∧ o.dst = some q.1 ∧ Fs[e.on]? = some q.2
 | [],q,h=>by simp [fK] at h
 | e :: es,q,h=>by
  have hrec:q ∈ fK l Fs es → ∃ e',e' ∈ e :: es ∧ Region.binds .any e' = true ∧ ∃ o,l[e'.on]? = some o ∧ o.dst = some q.1 ∧ Fs[e'.on]? = some q.2:=fun h=>by
   obtain ⟨e',h1,h2⟩:=rM h
   exact ⟨e',List.mem_cons_of_mem _ h1,h2⟩
  unfold fK at h
  split at h
  ·rename_i hb
   split at h
   ·rename_i o x ho hx
    split at h
    ·rename_i d hd
     cases List.mem_cons.1 h with
     | inl e'=>subst e'; exact ⟨e,List.mem_cons_self,hb,o,ho,hd,hx⟩
     | inr e'=>exact hrec e'
    ·exact hrec h
   ·exact hrec h
  ·exact hrec h
def l8:Nat → List Oper → Bool
 | _,[]=>true
 | i,o :: l=>o.after.toList.all (fun e=>!Region.binds .any e || e.on < i) && l8 (i + 1) l
def ko:List Oper → List Nat
 | []=>[]
 | o :: l=>match o.dst with | some d=>d :: ko l | none=>ko l
def ng:List Nat → Bool
 | []=>true
 | a :: l=>!l.contains a && ng l
theorem nW:∀ {l:List Oper} {i:Nat},l8 i l = true → ∀ (j:Nat) (o:Oper),l[j]? = some o → ∀ e ∈ o.after,Region.binds .any e = true → e.on < i + j
 | [],i,h,j,o',ho,e,he,hb=>by simp at ho
 | o :: l,i,h,j,o',ho,e,he,hb=>by
  simp only [l8,Bool.and_eq_true,List.all_eq_true] at h
  cases j with
  | zero=>
   simp at ho; subst ho
   have:=h.1 e (by simpa using he)
   simp [hb] at this
   omega
  | succ j=>have:=nW h.2 j o' (by simpa using ho) e he hb; omega
theorem lC:∀ {l:List Oper} {j:Nat} {o:Oper} {d:Nat},l[j]? = some o → o.dst = some d → d ∈ ko l
 | [],j,o,d,h,hd=>by simp at h
 | o' :: l,0,o,d,h,hd=>by simp at h; subst h; simp [ko,hd]
 | o' :: l,j + 1,o,d,h,hd=>by
  have:=lC (l:=l) (j:=j) (by simpa using h) hd
  unfold ko
  split
  ·exact List.mem_cons_of_mem _ this
  ·exact this
theorem um:∀ {l:List Oper},ng (ko l) = true → ∀ {j j':Nat} {o o':Oper} {d:Nat},l[j]? = some o → l[j']? = some o' → o.dst = some d → o'.dst = some d → j = j'
 | [],hn,j,j',o,o',d,h,h',hd,hd'=>by simp at h
 | o0 :: l,hn,j,j',o,o',d,h,h',hd,hd'=>by
  have hn2:ng (ko l) = true:=by
   unfold ko at hn
   split at hn
   ·simp only [ng,Bool.and_eq_true] at hn; exact hn.2
   ·exact hn
  have hnot:∀ d,o0.dst = some d → d ∉ ko l:=fun d hd0=>by
   unfold ko at hn
   rw [hd0] at hn
   simp only [ng,Bool.and_eq_true,Bool.not_eq_true',List.contains_eq_mem,decide_eq_false_iff_not] at hn
   exact hn.1
  cases j with
  | zero=>
   cases j' with
   | zero=>rfl
   | succ j'=>
    simp at h; subst h
    exact absurd (lC (by simpa using h') hd') (hnot d hd)
  | succ j=>
   cases j' with
   | zero=>
    simp at h'; subst h'
    exact absurd (lC (by simpa using h) hd) (hnot d hd')
   | succ j'=>exact congrArg (· + 1) (um hn2 (j:=j) (j':=j') (o:=o) (o':=o') (d:=d) (by simpa using h) (by simpa using h') hd hd')
theorem R.drawn {a:Act} {w:World} (hr:R E n s a w):R E n s a { w with drawn:=w.drawn + 1 }:=by
 obtain ⟨h1,h2,h,ρ,hw,hs⟩:=hr
 refine ⟨h1,h2,h,ρ,⟨hw.agree,hw.le,hw.fresh,hw.size,hw.same,hw.fixed,hw.os,hw.out,hw.nl,?_⟩,hs⟩
 intro k c hk
 obtain ⟨e1,e2,e3⟩:=hw.owned k c hk
 exact ⟨e1.congr fun _ _=>rfl,e2,e3⟩
end
end Go.Sk
namespace Go.Sk
set_option linter.unusedSimpArgs false
set_option linter.unusedVariables false
open Go Go.BigFrame
def eI (x:Int):List CP:=[.i x]
def eK (k:IntKind) (x:Int):List CP:=[.int k x]
def eB (x:Bool):List CP:=[.bool x]
def eS (x:bg):List CP:=[.str x]
def idx {α:Type} [Inhabited α] (xs:List α) (i:Int):α:=xs.getD i.toNat default
theorem idx_eq {α:Type} [Inhabited α] {xs:List α} {i:Int} (h0:0 ≤ i) (h1:i < xs.length):xs[i.toNat]? = some (idx xs i):=by
 have:i.toNat < xs.length:=by omega
 simp [idx,List.getD,List.getElem?_eq_getElem this]
theorem map_set {α:Type} (xs:List α) (e:α → List CP) (i:Nat) (x:α):(xs.map e).set i (e x) = (xs.set i x).map e:=by rw [List.map_set]
theorem c5 {α:Type} {xs:List α} {e:α → List CP} {size:Nat} (h:∀ x,(e x).length = size):eC size (xs.map e):=fun ps hp=>by
 obtain ⟨x,_,rfl⟩:=List.mem_map.1 hp
 exact h x
def Cp:List CP → Prop
 | []=>True
 | p :: l=>p.flat ∧ Cp l
theorem vB:∀ {l:List CP},Cp l → ∀ p ∈ l,p.flat
 | [],_,p,hp=>by simp at hp
 | q :: l,h,p,hp=>by
  cases List.mem_cons.1 hp with
  | inl e=>subst e; exact h.1
  | inr e=>exact vB h.2 p e
theorem flat_agg {ps:List CP} (h:Cp ps):(BV.agg ps).flat:=vB h
section
variable {P:Program} {TB:cG} {E:Env TB} {n:Sh} {s s':St} {dst:Option Nat} {t ty yt:TypeId} {pos:String} {after:Array Edge} {g:Option (Nat × Bool)} {x y c:Operand} {ops:Array Oper} {l:List Oper} {Q:fi} {cd:Code}
theorem b8 {size:Nat} {es:List (List CP)} {e:TypeId} {m:Nat} (ht:P.underlying t = some (.slice e)) (hx:s.ev x = some (.b (.one (.sl size es)))) (hm:es.length = m) :
  bY P E n ⟨dst,.call ⟨.builtin .len,#[x],#[t]⟩,ty,pos,after,g⟩ s (s.put n dst (I (m:Int))):=hm ▸ Dx ht hx
theorem vp {k size:Nat} {T e:TypeId} {es:List (List CP)} {m:Nat} (ht:P.underlying t = some (.slice e)) (hx:s.ev x = some (.b (.row k))) (hk:lk s.own k = some (.row T size es)) (hm:es.length = m) :
  bY P E n ⟨dst,.call ⟨.builtin .len,#[x],#[t]⟩,ty,pos,after,g⟩ s (s.put n dst (I (m:Int))):=hm ▸ Dw ht hx hk
theorem lg {k:IntKind} {a b:Int} (h:b ≠ 0) (hx:s.ev x = some (.b (.one (.int k a)))) (hy:s.ev y = some (.b (.one (.int k b)))):bY P E n ⟨dst,.binOp .rem t x y yt,ty,pos,after,g⟩ s (s.put n dst (.b (.one (.int k (a.tmod b))))) :=
 bY.val (o:=⟨dst,.binOp .rem t x y yt,ty,pos,after,g⟩) fun ac w h' ρ hw hs=>by
  have hra:=(cj hs hx).2
  refine ⟨.int k (a.tmod b),?_,rfl,?_⟩
  ·simp only [execOp,(cj hs hx).1,(cj hs hy).1]
   simp [eqGuard,binOp,Op.intDiv,h]
  ·have h1:(a.tmod b).natAbs ≤ a.natAbs:=by rw [Int.natAbs_tmod]; exact Nat.mod_le _ _
   unfold rW at hra ⊢
   have h2:0 ≤ a → 0 ≤ a.tmod b:=fun h=>Int.tmod_nonneg b h
   have h3:a ≤ 0 → a.tmod b ≤ 0:=fun h=>by
    have:=Int.tmod_nonneg b (a:=-a) (by omega)
    rw [Int.neg_tmod] at this; omega
   have h4:(a.tmod b).natAbs ≤ a.natAbs:=h1
   have h5:k.min ≤ 0:=by cases k <;> simp [IntKind.min,IntKind.signed,IntKind.bits]
   have h6:0 ≤ k.max:=by cases k <;> simp [IntKind.max,IntKind.signed,IntKind.bits]
   omega
theorem zH {u v:bg} (h:u.length + v.length ≤ 9223372036854775807) (hx:s.ev x = some (.b (.one (.str u)))) (hy:s.ev y = some (.b (.one (.str v)))):bY P E n ⟨dst,.binOp .add t x y yt,ty,pos,after,g⟩ s (s.put n dst (.b (.one (.str (u ++ v))))) :=
 bY.val (o:=⟨dst,.binOp .add t x y yt,ty,pos,after,g⟩) fun ac w h' ρ hw hs=>by
  refine ⟨.string ⟨⟨u ++ v⟩⟩,?_,rfl,by rw [dZ]; simpa using h⟩
  simp only [execOp,(kw hs hx).1,(kw hs hy).1]
  have hrun:=run_string_add_sum (P:=P) w ⟨⟨u⟩⟩ ⟨⟨v⟩⟩ h
  have happ:(⟨⟨u⟩⟩:ByteArray) ++ ⟨⟨v⟩⟩ = ⟨⟨u ++ v⟩⟩:=ByteArray.mk_append_mk u v
  simp [eqGuard,binOp,hrun,happ]
theorem xr {h:PH} {ρ:RM} {own:List (Nat × OC)} {w:World} (hw:WR E n own h ρ w) {k:Nat} {T:TypeId} {size:Nat} {es:List (List CP)} (hk:lk own k = some (.row T size es)) {b m q:Nat} (hρ:ρ k = .slice (some ⟨b,0,none⟩) m q) :
  eC size es ∧ 0 < size ∧ ∃ cap cur,ρ k = .slice (some ⟨b,0,none⟩) es.length cap ∧ w.heap[b]? = some (.cells cur T (0,0)) ∧ es.length ≤ cap ∧ cap ≤ maxLen ∧ cur.size = cap * size ∧ bd h es.flatten (cur.toList.take (es.length * size)):=by
 obtain ⟨hu,hz,hf⟩:=oE hw hk
 refine ⟨hu,hz,?_⟩
 rcases hf with ⟨h1,_⟩ | ⟨b',cap,cur,h1,h2⟩
 ·rw [hρ] at h1; simp at h1
 ·have:b' = b:=by rw [hρ] at h1; simp at h1; exact h1.1.symm
  subst this
  exact ⟨cap,cur,h1,h2⟩
theorem Dp {h:PH} {size:Nat} {es:List (List CP)} {cur:Array Value} (hu:eC size es) (hr:bd h es.flatten (cur.toList.take (es.length * size))) {i:Nat} {ps:List CP} (hi:es[i]? = some ps) (f:Nat) :
  bd h (ps.drop f) ((cur.toList.drop (i * size + f)).take (ps.length - f)):=by
 have hil:=(List.getElem?_eq_some_iff.1 hi).1
 have hpl:ps.length = size:=hu ps (List.mem_of_getElem? hi)
 have hlen:=hr.length
 rw [km hu] at hlen
 simp only [List.length_take,Array.length_toList] at hlen
 have hsz:es.length * size ≤ cur.size:=by omega
 have hle:(i + 1) * size ≤ es.length * size:=Nat.mul_le_mul_right _ hil
 rw [Nat.add_mul] at hle
 refine bT.tN (by simp; omega) fun j p u hp hv=>?_
 rw [List.getElem?_drop] at hp
 have hj:=(List.getElem?_eq_some_iff.1 hp).1
 obtain ⟨u',hu',hrel⟩:=hr.get (i * size + (f + j)) p (by rw [mg hu i ps hi (f + j) (by omega)]; exact hp)
 rw [List.getElem?_take,if_pos (by omega)] at hu'
 rw [List.getElem?_take,if_pos (by omega),List.getElem?_drop,Nat.add_assoc] at hv
 rw [hu'] at hv; cases hv
 exact hrel
theorem nL {k o i f size:Nat} {T:TypeId} {es:List (List CP)} {ps:List CP} {p:CP} (ht:fG P t) (hx:s.ev x = some (.b (.j2 k o))) (hk:lk s.own k = some (.row T size es)) (ho:o = i * size + f) (hi:es[i]? = some ps) (hp:ps[f]? = some p) :
  bY P E n ⟨dst,.load t x,ty,pos,after,g⟩ s (s.put n dst (.b (.one p))) :=
 bY.val (o:=⟨dst,.load t x,ty,pos,after,g⟩) fun ac w h ρ hw hs=>by
  obtain ⟨b,mm,q,he,hv⟩:=(bC hs hx:BV.rel h ρ (.j2 k o) _)
  obtain ⟨hu,hz,cap,cur,h1,h2,h3,h4,h5,h6⟩:=xr hw hk he
  have hc:=Dp hu h6 hi f
  obtain ⟨u,hu',hpu⟩:=hc.get 0 p (by rw [List.getElem?_drop,Nat.add_zero]; exact hp)
  rw [List.getElem?_take] at hu'
  have hcell:w.cell? ⟨b,o,none⟩ = some u:=by
   rw [hO h2,ho]
   split at hu'
   ·simpa using hu'
   ·simp at hu'
  have:=kN ht (w:=w) hcell
  refine ⟨u,?_,hpu⟩
  simp only [execOp,hv,Instr.loadAt,Instr.sureAddr]
  simp [this]
theorem sB {size:Nat} {qs:List CP} (hq:qs.length = size):∀ {es:List (List CP)},eC size es → ∀ (i:Nat),i < es.length → cP es.flatten (i * size) qs = (es.set i qs).flatten
 | [],_,i,h=>by simp at h
 | p :: es,hu,0,_=>by
  have hp:p.length = size:=hu p (by simp)
  simp only [cP,Nat.zero_mul,List.take_zero,List.nil_append,Nat.zero_add,List.set_cons_zero,List.flatten_cons,hq]
  rw [← hp,List.drop_left]
 | p :: es,hu,i + 1,h=>by
  have hp:p.length = size:=hu p (by simp)
  have ih:=sB hq (es:=es) (fun q hq=>hu q (by simp [hq])) i (by simpa using h)
  have e:(i + 1) * size = p.length + i * size:=by rw [Nat.add_mul,hp]; omega
  simp only [cP,List.flatten_cons,List.set_cons_succ] at ih ⊢
  rw [← ih,e,Nat.add_assoc,List.take_length_add_append,List.drop_length_add_append]
  simp [List.append_assoc]
theorem uK {h:PH} {ρ:RM} {w:World} (hw:WR E n s.own h ρ w) {k i m size:Nat} {T:TypeId} {es:List (List CP)} {qs:List CP} {u:Value} {b mm q:Nat} {inf:TypeInfo} (hi:P.info? t = some inf) (hm:inf.size = m) (hk:lk s.own k = some (.row T size es))
  (he:ρ k = .slice (some ⟨b,0,none⟩) mm q) (hms:m = size) (hlt:i < es.length) (hcr:bd h qs u.cells.toList) (hq:qs.length = size) :
  ∃ w',(storeVar t ⟨b,i * size,none⟩ u).run P w = .ok () w' ∧ WR E n (ins k (.row T size (es.set i qs)) s.own) h ρ w':=by
 obtain ⟨hu,hz,cap,cur,h1,h2,h3,h4,h5,h6⟩:=xr hw hk he
 have hl:=hcr.length
 simp only [Array.length_toList] at hl
 have hle:(i + 1) * size ≤ es.length * size:=Nat.mul_le_mul_right _ hlt
 rw [Nat.add_mul] at hle
 have hcap:es.length * size ≤ cap * size:=Nat.mul_le_mul_right _ h3
 have hrun:=nS (P:=P) (t:=t) hi hm h2 (v:=u) (o:=i * size) (by omega) (by omega) hcr.one
 refine ⟨_,hrun,?_⟩
 have hspl:(cP cur.toList (i * size) u.cells.toList).length = cur.size:=by simp [cP]; omega
 have hst:=hw.step (w':=w.setRow b (cP cur.toList (i * size) u.cells.toList).toArray) k (ρ k) (.row T size (es.set i qs)) (some b) (fun b' e=>by cases e; exact ⟨_,dl hk,by rw [he]; rfl⟩) (by simp) rfl rfl
  (fun b' _ hne=>setRow_other _ _ _ _ (fun e=>hne (by rw [e]))) ?_ (fun b' hb'=>by rw [he] at hb'; simp [cq] at hb'; exact .inl (by rw [hb'])) (.inl rfl) (.inl rfl)
 ·have:tx ρ k (ρ k) = ρ:=by funext j; simp only [tx]; split <;> simp_all
  rwa [this] at hst
 ·have hu':eC size (es.set i qs):=fun ps hps=>by
   rcases List.mem_or_eq_of_mem_set hps with h | h
   ·exact hu ps h
   ·rw [h]; exact hq
  refine ⟨hu',hz,_,⟨?_,.inr ⟨b,cap,(cP cur.toList (i * size) u.cells.toList).toArray,by rw [h1,List.length_set],Nat.zero_le _,setRow_heap _ _ _ _ _ _ h2,by rw [List.length_set]; exact h3,h4,by simp [hspl,h5],rfl⟩⟩,?_⟩
  ·simp only [List.length_take,List.length_set,hspl]; omega
  ·rw [List.length_set,← sB hq hu i hlt]
   have e1:(cP cur.toList (i * size) u.cells.toList).take (es.length * size) = cP (cur.toList.take (es.length * size)) (i * size) u.cells.toList:=by
    simp only [cP,Array.length_toList]
    rw [List.take_append,List.take_append]
    simp only [List.length_take,List.length_append,Array.length_toList]
    rw [List.take_take,List.take_take,List.take_of_length_le (l:=u.cells.toList) (by simp; omega),List.drop_take]
    congr 1
    ·congr 2
     omega
    ·congr 1
     omega
   rw [e1]
   exact bT.cP h6 hcr _
theorem ki {k o i size:Nat} {T:TypeId} {es es':List (List CP)} {p:CP} (ht:fG P t) (hx:s.ev x = some (.b (.j2 k o))) (hk:lk s.own k = some (.row T size es)) (hy:s.ev y = some (.b (.one p))) (ho:o = i * size) (hlt:i < es.length) (he:es.set i [p] = es')
  (hms:1 = size:=by rfl) :
  bY P E n ⟨none,.store t x y,ty,pos,after,g⟩ s ⟨s.slots,ins k (.row T size es') s.own⟩ :=
 bY.store (o:=⟨none,.store t x y,ty,pos,after,g⟩) rfl fun ac w h ρ hw hs=>by
  obtain ⟨b,mm,q,hρ,hv⟩:=(bC hs hx:BV.rel h ρ (.j2 k o) _)
  have hp:p.rel h (ac.eval y):=bC hs hy
  have h1:=p.one hp
  have hcells:(ac.eval y).cells = #[ac.eval y]:=by cases hq:ac.eval y <;> first | rfl | (rw [hq] at h1; simp [Value.oneCell'] at h1)
  obtain ⟨i',hi,hm⟩:=ht.size
  obtain ⟨w',hrun,hwr⟩:=uK hw (u:=ac.eval y) (qs:=[p]) hi hm hk hρ hms hlt (by rw [hcells]; exact .cons hp .nil) hms
  subst he
  refine ⟨w',?_,hwr⟩
  simp only [execOp,hv,Instr.storeAt,Instr.sureAddr,ho]
  simp [hrun]
def BV.ren (k k0:Nat):BV → BV
 | .row j=>if j == k then .row k0 else .row j
 | z=>z
theorem Fin.aq {fn:Func} {post:oq} {e:Exit} {rs:List ResultVar} (zs:List BV) (he:e = .ret ∨ e = .normal) (hrs:fn.results.toList = rs) (hr:bT (qT P s) rs zs) (hp:post [] (Cg zs)):Fin E n e s (Ret P fn E n post):=by
 intro a w ⟨h1,h2,h,ρ,hw,hs⟩
 obtain ⟨v,hv,hrel⟩:=sC (fn:=fn) (hrs ▸ hr) hw hs
 have:a.defers = [] ∧ ∃ v,(results fn a.tmps).run P w = .ok v w ∧ Ce E n post (.returned v) w:=⟨h1,v,hv,v,[],_,h,ρ,rfl,hp,hw.sub (by simp),hrel⟩
 rcases he with rfl | rfl <;> exact this
theorem Fin.kq {e:Exit} (i k size:Nat) (T:TypeId) (hi:s.get i = some (.b (.one .nil))) (hz:0 < size) (hfx:n.fix.contains k = false) (h:Fin E n e ⟨(i,.b (.row k)) :: del i (eJ k s.slots),ins k (.row T size []) s.own⟩ Q) (hnu:jo k s.own = true:=by rfl):Fin E n e s Q :=
 fun a w hr=>h a w (hr.kq hi hz hfx hnu)
theorem Fin.p5 {e:Exit} (i size:Nat) (hi:s.get i = some (.b (.one .nil))) (hz:0 < size) (h:Fin E n e ⟨(i,.b (.one (.sl size []))) :: del i s.slots,s.own⟩ Q):Fin E n e s Q :=
 fun a w hr=>h a w (hr.p5 hi hz)
end
end Go.Sk
namespace Go.Sk
open Go
section
variable {P:Program} {TB:cG} {E:Env TB} {n:Sh} {s:St} {dst:Option Nat} {ty:TypeId} {pos:String} {after:Array Edge} {g:Option (Nat × Bool)} {x:Operand}
theorem vu {own:List (Nat × OC)}:pZ own [] [] = true:=by simp [pZ,bL]
theorem ae {f:FuncId} {args:List BV} {xs:Array Operand} {ats:Array TypeId} {res:SV} (hspec:az P TB f [] args (Is [] res)) (hf:bn P f) (ha:lj s xs.toList = some args) (hki:res.dC [] = true) :
  bY P E n ⟨dst,.call ⟨.value (.func f),xs,ats⟩,ty,pos,after,g⟩ s (s.put n dst res):=jU (own_a:=[]) (own':=[]) hspec hf ha trivial rfl hki vu
theorem pR {f:FuncId} {args:List BV} {xs:Array Operand} {ats:Array TypeId} {res:SV} (hspec:az P TB f [] args (Is [] res)) (hf:bn P f) (hx:s.ev x = some (.b (.one (.raw (.func (.func f) #[] #[]))))) (ha:lj s xs.toList = some args) (hki:res.dC [] = true) :
  bY P E n ⟨dst,.call ⟨.value x,xs,ats⟩,ty,pos,after,g⟩ s (s.put n dst res):=Dy (own_a:=[]) (own':=[]) hspec hf hx ha trivial rfl hki vu
end
end Go.Sk
namespace Go.Sk
set_option linter.unusedSimpArgs false
set_option linter.unusedVariables false
open Go Go.BigFrame
section
variable {P:Program} {TB:cG} {E:Env TB} {n:Sh} {s s':St} {dst:Option Nat} {t ty yt:TypeId} {pos:String} {after:Array Edge} {g:Option (Nat × Bool)} {x y c:Operand} {ops:Array Oper} {l:List Oper} {Q:fi} {cd:Code}
structure kD (P:Program) (t:TypeId) (ps qs:List CP) (r:Bool):Prop where
 guard:P.eqGuardType P.depth t = false
 run:∀ (h:PH) (cs ds:Array Value) (w:World),bd h ps cs.toList → bd h qs ds.toList → (Op.equalIn 10000 t (.agg cs) (.agg ds)).run P w = .ok r w
theorem eH {ps qs:List CP} {r:Bool} (he:kD P t ps qs r) (hx:s.ev x = some (.b (.agg ps))) (hy:s.ev y = some (.b (.agg qs))):bY P E n ⟨dst,.binOp .eql t x y yt,ty,pos,after,g⟩ s (s.put n dst (B r)) :=
 bY.val (o:=⟨dst,.binOp .eql t x y yt,ty,pos,after,g⟩) fun ac w h ρ hw hs=>by
  obtain ⟨cs,hv,hr⟩:=(bC hs hx:BV.rel h ρ (.agg ps) _)
  obtain ⟨ds,hv2,hr2⟩:=(bC hs hy:BV.rel h ρ (.agg qs) _)
  refine ⟨.bool r,?_,rfl⟩
  simp only [execOp,hv,hv2]
  simp [run_eqGuard_agg w _ _ _ _ _ _ he.guard,run_eql_struct,he.run h cs ds w hr hr2]
theorem hZ {ps qs:List CP} {r r':Bool} (he:kD P t ps qs r) (hx:s.ev x = some (.b (.agg ps))) (hy:s.ev y = some (.b (.agg qs))) (hr':(!r) = r'):bY P E n ⟨dst,.binOp .neq t x y yt,ty,pos,after,g⟩ s (s.put n dst (B r')) :=
 bY.val (o:=⟨dst,.binOp .neq t x y yt,ty,pos,after,g⟩) fun ac w h ρ hw hs=>by
  obtain ⟨cs,hv,hr⟩:=(bC hs hx:BV.rel h ρ (.agg ps) _)
  obtain ⟨ds,hv2,hr2⟩:=(bC hs hy:BV.rel h ρ (.agg qs) _)
  refine ⟨.bool r',?_,rfl⟩
  simp only [execOp,hv,hv2]
  simp [run_eqGuard_agg w _ _ _ _ _ _ he.guard,run_neq_struct,he.run h cs ds w hr hr2,hr']
structure qA (P:Program) (t:TypeId) (p q:CP) (r:Bool):Prop where
 one:fG P t
 run:∀ (h:PH) (u v:Value) (w:World),p.rel h u → q.rel h v → (Op.equalIn 9999 t u v).run P w = .ok r w
theorem qA.int {k k':IntKind} {a b:Int} (h1:fG P t) (hu:P.underlying t = some (.int k')):qA P t (.int k a) (.int k b) (decide (a = b)) :=
 ⟨h1,fun h u v w hp hq=>by rw [hp.1,hq.1,run_equalIn_int w 9998 t k k' a b hu,q9]⟩
theorem qA.str {a b:bg} (h1:fG P t) (hu:P.underlying t = some .string):qA P t (.str a) (.str b) (decide (a = b)) :=
 ⟨h1,fun h u v w hp hq=>by rw [hp.1,hq.1,run_equalIn_string w 9998 t _ _ hu,te]⟩
theorem qA.bool {a b:Bool} (h1:fG P t) (hu:P.underlying t = some .bool):qA P t (.bool a) (.bool b) (a == b) :=
 ⟨h1,fun h u v w hp hq=>by rw [show u = .bool a from hp,show v = .bool b from hq,run_equalIn_bool' w 9998 t a b hu]⟩
def wQ (P:Program) (ps qs:List CP):List Field → List Bool → Prop
 | [],[]=>True
 | f :: fs,r :: rs=>f.name ≠ "_" ∧ (∃ p q,ps[f.offset]? = some p ∧ qs[f.offset]? = some q ∧ qA P f.type p q r) ∧ wQ P ps qs fs rs
 | _,_=>False
theorem rP {h:PH} {ps qs:List CP} {cs ds:Array Value} (hp:bd h ps cs.toList) (hq:bd h qs ds.toList) (w:World):∀ {fs:List Field} {rs:List Bool},wQ P ps qs fs rs → (Op.eqFields 9999 cs ds fs).run P w = .ok (rs.all id) w
 | [],[],_=>rfl
 | [],_ :: _,h=>h.elim
 | _ :: _,[],h=>h.elim
 | f :: fs,r :: rs,⟨h1,⟨p,q,hp',hq',he⟩,h3⟩=>by
  have ih:=rP hp hq w h3
  obtain ⟨u,hu,hur⟩:=hp.get _ p hp'
  obtain ⟨v,hv,hvr⟩:=hq.get _ q hq'
  obtain ⟨d,hd,hag⟩:=he.one.und
  have hpart:∀ {A:Array Value} {z:Value},A.toList[f.offset]? = some z → (part f.type A f.offset).run P w = .ok z w:=fun {A z} hz=>by
   unfold part
   rw [Sem.run_bind,mN hd,Result.andThen,hag]
   have:A[f.offset]? = some z:=by simpa using hz
   simp [this]
  unfold Op.eqFields
  rw [if_pos h1]
  rw [Sem.run_bind,hpart hu,Result.andThen,Sem.run_bind,hpart hv,Result.andThen,Sem.run_bind,he.run h u v w hur hvr,Result.andThen]
  cases r
  ·simp
  ·simpa using ih
theorem kD.of {ps qs:List CP} {fs:Array Field} {rs:List Bool} {r:Bool} (hg:P.eqGuardType P.depth t = false) (hh:P.stoodInHeld t = false) (hu:P.underlying t = some (.struct fs)) (hc:wQ P ps qs fs.toList rs) (hr:rs.all id = r):kD P t ps qs r:=by
 have hf:P.fieldsOf t = fs:=by simp [Program.fieldsOf,hu]
 exact ⟨hg,fun h cs ds w hp hq=>by
  rw [run_equalIn_struct w 9999 t cs ds (by rw [hf]; exact hu) hh,hf,rP hp hq w hc,hr]⟩
def qv (l:List Oper) (listed:List Bool):List Nat:=Region.ready .any l.toArray listed.toArray
def me (step:Nat → Prop):List Nat → Prop
 | []=>True
 | i :: is=>step i ∧ me step is
theorem me.mem {step:Nat → Prop}:∀ {is:List Nat},me step is → ∀ i,i ∈ is → step i
 | [],_,i,hi=>by simp at hi
 | j :: is,h,i,hi=>by
  cases List.mem_cons.1 hi with
  | inl e=>subst e; exact h.1
  | inr e=>exact me.mem h.2 i e
def chain (P:Program) {TB:cG} (E:Env TB) (n:Sh) (l:List Oper) (Q:fi):Nat → List Bool → St → Prop
 | 0,listed,s=>qv l listed = [] ∧ Fin E n .normal s Q
 | f + 1,listed,s=>qv l listed ≠ [] ∧ ∀ i,i ∈ qv l listed → ∃ o s',l[i]? = some o ∧ dN P E n l.toArray o s s' ∧ chain P E n l Q f (listed.set i true) s'
theorem chain.done {listed:List Bool} (hr:qv l listed = []) (h:Fin E n .normal s Q):chain P E n l Q 0 listed s:=⟨hr,h⟩
theorem chain.next {f:Nat} {listed:List Bool} (is:List Nat) (hr:qv l listed = is) (hne:is ≠ []) (h:me (fun i=>∃ o s',l[i]? = some o ∧ dN P E n l.toArray o s s' ∧ chain P E n l Q f (listed.set i true) s') is):chain P E n l Q (f + 1) listed s :=
 ⟨by rw [hr]; exact hne,fun i hi=>me.mem h i (hr ▸ hi)⟩
abbrev Tab:=List (List Bool × List Nat × St)
def lkT:Tab → List Bool → Option St
 | [],_=>none
 | (b,_,s) :: r,c=>if b == c then some s else lkT r c
def Af (P:Program) {TB:cG} (E:Env TB) (n:Sh) (l:List Oper) (tab:Tab):Tab → Prop
 | []=>True
 | (b,is,s) :: r=>(qv l b = is ∧ (is.isEmpty == b.all id) = true) ∧ me (fun i=>∃ o s',l[i]? = some o ∧ lkT tab (b.set i true) = some s' ∧ dN P E n l.toArray o s s') is ∧ Af P E n l tab r
theorem Af.get {tab:Tab}:∀ {r:Tab},Af P E n l tab r → ∀ b s,lkT r b = some s → ∃ is,qv l b = is ∧ (is.isEmpty == b.all id) = true ∧ me (fun i=>∃ o s',l[i]? = some o ∧ lkT tab (b.set i true) = some s' ∧ dN P E n l.toArray o s s') is
 | [],_,b,s,h=>by simp [lkT] at h
 | (c,is,s0) :: r,h,b,s,hb=>by
  unfold lkT at hb
  split at hb
  ·rename_i hc
   have hc':c = b:=by simpa using hc
   subst hc'
   cases hb
   exact ⟨is,h.1.1,h.1.2,h.2.1⟩
  ·exact Af.get h.2.2 b s hb
end
end Go.Sk
namespace Go.Sk
open Go Go.BigFrame
section
variable {P:Program} {TB:cG} {E:Env TB} {n:Sh} {s s':St} {dst:Option Nat} {t ty yt:TypeId} {pos:String} {after:Array Edge} {g:Option (Nat × Bool)} {x y c:Operand} {ops:Array Oper} {l:List Oper} {Q:fi} {cd:Code}
end
end Go.Sk
namespace Go.Sk
open Go
end Go.Sk
namespace Go.Sk
open Go Go.BigFrame
section
variable {P:Program} {TB:cG} {E:Env TB} {n:Sh} {s s':St} {dst:Option Nat} {t ty yt:TypeId} {pos:String} {after:Array Edge} {g:Option (Nat × Bool)} {x y c:Operand} {ops:Array Oper} {l:List Oper} {Q:fi} {cd:Code}
theorem WR.allocP {h:PH} {ρ:RM} {own:List (Nat × OC)} {w:World} (hw:WR E n own h ρ w) (cs:Array Value) (T:TypeId):h.le (eX h w.heap.size cs.toList) ∧ WR E n own (eX h w.heap.size cs.toList) ρ (w.alloc (.cells cs T)):=by
 have hnone:∀ o,h w.heap.size o = none:=fun o=>by
  cases e:h w.heap.size o with
  | none=>rfl
  | some u=>have:=fQ (hw.agree _ o u e); omega
 have hle:h.le (eX h w.heap.size cs.toList):=fun b o v hv=>by
  unfold eX
  split
  ·rename_i e; subst e; rw [hnone o] at hv; simp at hv
  ·exact hv
 have hold:∀ b,b < w.heap.size → (w.alloc (.cells cs T)).heap[b]? = w.heap[b]?:=fun b hb=>heap_alloc_old w _ hb
 refine ⟨hle,?_,PH.le_trans hw.le hle,?_,by have:=hw.size; simp; omega,?_,hw.fixed,hw.os,hw.out,hw.nl,?_⟩
 ·intro b o v hv
  unfold eX at hv
  split at hv
  ·rename_i e; subst e
   rw [hO (heap_alloc_new w _)]
   simpa using hv
  ·have hc:=hw.agree b o v hv
   rw [cell_of_heap (hold b (fQ hc))]; exact hc
 ·intro b hb hnl
  rw [← hw.fresh b hb hnl]
  funext o
  unfold eX
  rw [if_neg (by have:=hw.size; omega)]
 ·intro b hb hl
  rw [hold b (Nat.lt_of_lt_of_le hb hw.size)]; exact hw.same b hb hl
 ·intro j c hj
  obtain ⟨e1,e2,e3⟩:=hw.owned j c hj
  refine ⟨(e1.congr fun b hb=>hold b (e1.lt hb)).mono hle,fun b hb=>⟨(e2 b hb).1,fun o=>?_⟩,e3⟩
  have:=e1.lt hb
  unfold eX
  rw [if_neg (by omega)]
  exact (e2 b hb).2 o
theorem uL {e len size bytes:Nat} {zs:List CP} {es:List (List CP)} {parts:Array (Nat × Operand)} {cps:List (Nat × List CP)} (ht:og P t e size bytes zs) (hp:l7 s parts.toList = some cps)
  (hf:sy (fun i=>some (i * size,size)) ((List.range (len * size)).map fun i=>zs.getD (i % size) .any) cps = some es.flatten) (hu:eC size es) (hl:es.length = len) (h0:0 < len * size) (h24:len * size ≤ 16777216) :
  bY P E n ⟨dst,.buildSlice t len parts,ty,pos,after,g⟩ s (s.put n dst (.b (.one (.sl size es)))):=by
 intro a w ⟨hdf,hn,h,ρ,hw,hs⟩ next Q hnext
 obtain ⟨i,z,h1,h2,h3,h4,h5,h6,h7⟩:=ht.info
 have hzr:=mb h h7
 have hzl:zs.length = size:=by rw [hzr.length]; simpa using h5
 have hzeros:=vh hzr (by omega) (len * size)
 rw [hzl] at hzeros
 have hzc:((Array.range (len * size)).map (z.cells[· % z.cells.size]!)).toList = (List.range (len * size)).map fun i=>z.cells.toList[i % z.cells.toList.length]!:=by
  rw [Array.toList_map,Array.toList_range]
  refine List.map_congr_left fun j _=>?_
  rw [List.getElem!_eq_getElem?_getD,Array.getElem!_eq_getD]
  simp [Array.getD_eq_getD_getElem?]
 obtain ⟨cs,hc1,hc2⟩:=oM hs (fun i=>some (i * size,size)) parts.toList cps _ es.flatten ((Array.range (len * size)).map (z.cells[· % z.cells.size]!)) hp hf (by rw [hzc]; exact hzeros)
 have hne:¬ len * size = 0:=by omega
 have hrun:(Instr.buildSlice t len (parts.map fun (i,x)=>(i,a.eval x))).run P w = .ok (.slice (some ⟨w.heap.size,0,none⟩) len len) (w.alloc (.cells cs e)):=by
  have hmap:(parts.map fun x=>(x.1,a.eval x.2)).toList = parts.toList.map fun p=>(p.1,a.eval p.2):=by simp
  unfold Instr.buildSlice
  rw [Sem.run_bind,run_underlying ht.und,Result.andThen]
  simp only [Sem.run_bind,run_sizeOf h1,h2,Result.andThen_ok]
  rw [if_neg (by omega),if_neg hne]
  simp [zeroValue,typeInfo,h1,h4,hc1,newRow]
 have hrun':(execOp a.eval ⟨dst,.buildSlice t len parts,ty,pos,after,g⟩).run P w = .ok (.value (.slice (some ⟨w.heap.size,0,none⟩) len len)) (w.alloc (.cells cs e)):=by
  simp only [execOp]
  simp [hrun]
 unfold Oper.wp
 rw [hrun']
 obtain ⟨hle,hwp⟩:=hw.allocP cs e
 refine hnext _ _ (R.put (s:=s) hdf hn hwp (hs.mono hle) ?_)
 refine ⟨hu,h6,.inr ⟨w.heap.size,0,len,by rw [hl],by omega,?_,fun j c hc=>?_⟩⟩
 ·have:len ≤ len * size:=Nat.le_mul_of_pos_right _ h6
  rw [dZ]; omega
 ·obtain ⟨u,hu',hr⟩:=hc2.get j c hc
  exact ⟨u,by simp only [eX,if_true,Nat.zero_add]; exact hu',c.mono hle hr⟩
theorem az.j3 {f:FuncId} {args:List BV} {T:TypeId} {size:Nat} {es:List (List CP)} (h:az P TB f [] args (Is [(0,.row T size es)] (.b (.row 0)))):az P TB f [] args (Is [] (.b (.one (.sl size es)))):=by
 intro w hh ρ vals tb hag hl hargs
 refine (h w hh ρ vals tb hag hl hargs).mono ?_
 rintro e w' ⟨v,own',res,h',ρ',rfl,⟨rfl,rfl⟩,hw,hres⟩
 have hR:R ⟨w,hh,ρ,tb⟩ ⟨1,cx [],bL []⟩ ⟨[(0,.b (.row 0))],[(0,.row T size es)]⟩ ⟨#[v],[]⟩ w':=⟨rfl,rfl,h',ρ',WR.sh (n:=⟨0,cx [],bL []⟩) (n':=⟨1,cx [],bL []⟩) rfl rfl hw,fun k x hx=>by
  simp only [List.mem_singleton,Prod.mk.injEq] at hx
  obtain ⟨rfl,rfl⟩:=hx
  exact ⟨v,by simp,hres⟩⟩
 obtain ⟨_,_,h'',ρ'',hw'',hs''⟩:=hR.eY (k:=0) rfl
 obtain ⟨u,hu,hur⟩:=hs'' 0 (.b (.one (.sl size es))) (by simp [qQ,SV.j3,BV.j3])
 have huv:u = v:=by simpa using hu.symm
 subst huv
 exact ⟨u,[],_,h'',ρ'',rfl,⟨rfl,rfl⟩,WR.sh (n:=⟨1,cx [],bL []⟩) (n':=⟨0,cx [],bL []⟩) rfl rfl (hw''.sub (own':=[]) (by simp)),hur⟩
end
end Go.Sk
namespace Go.Sk
set_option linter.unusedSimpArgs false
set_option linter.unusedVariables false
open Go Go.BigFrame
section
variable {P:Program} {TB:cG} {E:Env TB} {n:Sh} {s:St} {dst:Option Nat} {t ty yt:TypeId} {pos:String} {after:Array Edge} {g:Option (Nat × Bool)} {x y c:Operand} {k:IntKind} {a b:Int} {ats:Array TypeId}
theorem yM (hx:s.ev x = some (.b (.one (.int k a)))) (hy:s.ev y = some (.b (.one (.int k b)))) :
  bY P E n ⟨dst,.call ⟨.builtin .min,#[x,y],ats⟩,ty,pos,after,g⟩ s (s.put n dst (.b (.one (.int k (min a b))))) :=
 bY.val (o:=⟨dst,.call ⟨.builtin .min,#[x,y],ats⟩,ty,pos,after,g⟩) fun ac w h ρ hw hs=>by
  have h1:=cj hs hx
  have h2:=cj hs hy
  refine ⟨.int k (min a b),?_,rfl,?_⟩
  ·rw [execOp_builtin]
   show Sem.run _ _ _ = _
   simp only [builtin,Builtin.min_,List.map_toArray,List.map_cons,List.map_nil,h1.1,h2.1,List.foldlM_cons,List.foldlM_nil,Builtin.min2]
   have:(if b < a then b else a) = min a b:=by rw [Int.min_def]; split <;> split <;> omega
   rw [this]; rfl
  ·rw [Int.min_def]; split
   ·exact h1.2
   ·exact h2.2
theorem tM (hx:s.ev x = some (.b (.one (.int k a)))) (hy:s.ev y = some (.b (.one (.int k b)))) :
  bY P E n ⟨dst,.call ⟨.builtin .max,#[x,y],ats⟩,ty,pos,after,g⟩ s (s.put n dst (.b (.one (.int k (max a b))))) :=
 bY.val (o:=⟨dst,.call ⟨.builtin .max,#[x,y],ats⟩,ty,pos,after,g⟩) fun ac w h ρ hw hs=>by
  have h1:=cj hs hx
  have h2:=cj hs hy
  refine ⟨.int k (max a b),?_,rfl,?_⟩
  ·rw [execOp_builtin]
   show Sem.run _ _ _ = _
   simp only [builtin,Builtin.max_,List.map_toArray,List.map_cons,List.map_nil,h1.1,h2.1,List.foldlM_cons,List.foldlM_nil,Builtin.max2]
   have:(if b > a then b else a) = max a b:=by rw [Int.max_def]; split <;> split <;> omega
   rw [this]; rfl
  ·rw [Int.max_def]; split
   ·exact h2.2
   ·exact h1.2
end
end Go.Sk
namespace Go.Sk
set_option linter.unusedSimpArgs false
set_option linter.unusedVariables false
open Go Go.ChangeShapes Go.WideShapes Go.ChangeAt Go.RowKit Go.Deep
theorem zV (W:World):tK (full W) W:=fun _ _ _ h=>h
structure eo (P:Program) (t:TypeId) {α:Type} (e:α → List CP):Prop where
 len:∀ a,(e a).length = P.cellsOf t
 op:∀ {H:Type} {enc:TypeId × Value → H} {W:World} {sp:Nat → Bool} {held:Bool} {fuel:Nat} {cs:List Value} {x:DataW H × List MemPlace},DataW.trod enc P W 0 sp held fuel t cs = some x → ∃ a,bd (full W) (e a) cs
theorem vA {k:IntKind} {n:Int} (h:(Lit.int k n).wf = true):rW k n:=by
 simp only [Lit.wf,Bool.and_eq_true,decide_eq_true_eq] at h
 exact h
theorem eo.int {P:Program} {t:TypeId} {k:IntKind} (ht:P.underlying t = some (.int k)) (hc:P.cellsOf t = 1):eo P t (fun x:Int=>[.int k x]) where
 len _:=by simp [hc]
 op h:=by
  obtain ⟨n,rfl,_,hw⟩:=DataW.trod_int ht h
  exact ⟨n,.cons ⟨rfl,vA hw⟩ .nil⟩
theorem eo.bool {P:Program} {t:TypeId} (ht:P.underlying t = some .bool) (hc:P.cellsOf t = 1):eo P t eB where
 len _:=by simp [hc,eB]
 op h:=by
  obtain ⟨n,rfl,_⟩:=DataW.trod_bool ht h
  exact ⟨n,.cons rfl .nil⟩
theorem eo.str {P:Program} {t:TypeId} (ht:P.underlying t = some .string) (hc:P.cellsOf t = 1):eo P t eS where
 len _:=by simp [hc,eS]
 op h:=by
  obtain ⟨s,rfl,_,hs⟩:=DataW.trod_string ht h
  refine ⟨s.data.toList,.cons ⟨?_,?_⟩ .nil⟩
  ·cases s with | mk d=>cases d; rfl
  ·simpa using hs
inductive ox (P:Program) (fs:Array Field) (T:Nat):Nat → Nat → {β:Type} → (β → List CP) → Prop where
 | nil {i:Nat} (hi:fs.size ≤ i):ox P fs T i T (fun _:Unit=>[])
 | cons {i o:Nat} {α β:Type} {e:α → List CP} {es:β → List CP} {f:Field} (hf:fs[i]? = some f) (ho:f.offset = o) (hr:eo P f.type e) (h:ox P fs T (i + 1) (o + P.cellsOf f.type) es):ox P fs T i o (fun x:α × β=>e x.1 ++ es x.2)
theorem ox.len {P:Program} {fs:Array Field} {T i o:Nat} {β:Type} {es:β → List CP} (h:ox P fs T i o es):∀ b,o + (es b).length = T:=by
 induction h with
 | nil hi=>intro b; simp
 | cons hf ho hr h ih=>intro b; have:=ih b.2; have h2:=hr.len b.1; simp only [List.length_append]; omega
theorem ox.op {P:Program} {fs:Array Field} {T i o:Nat} {β:Type} {es:β → List CP} (h:ox P fs T i o es) {H:Type} {enc:TypeId × Value → H} {W:World} {sp:Nat → Bool} {held:Bool} {n:Nat} {cs:List Value} {xs:List (DataW H × List MemPlace)} (hl:cs.length = T)
  (hx:xs.length = fs.size) (hv:∀ (j:Nat) (f:Field),fs[j]? = some f → DataW.trod enc P W 0 sp held n f.type ((cs.drop f.offset).take (P.cellsOf f.type)) = xs[j]?):∃ b,bd (full W) (es b) (cs.drop o):=by
 induction h with
 | nil hi=>exact ⟨(),by rw [List.drop_of_length_le (by omega)]; exact .nil⟩
 | @cons i o α β e es f hf ho hr h ih=>
  obtain ⟨b,hb⟩:=ih
  have hi:i < xs.length:=by
   rw [hx]
   exact (Array.getElem?_eq_some_iff.1 hf).1
  have h1:=hv i f hf
  rw [List.getElem?_eq_getElem hi] at h1
  obtain ⟨a,ha⟩:=hr.op h1
  refine ⟨(a,b),?_⟩
  have e1:cs.drop o = (cs.drop o).take (P.cellsOf f.type) ++ cs.drop (o + P.cellsOf f.type):=by
   rw [← List.drop_drop,List.take_append_drop]
  rw [e1]
  subst ho
  exact bT.append ha hb
theorem eo.struct {P:Program} {t:TypeId} {fs:Array Field} {α β:Type} {e:α → List CP} {es:β → List CP} (g:β → α) (ht:P.underlying t = some (.struct fs)) (h:ox P fs (P.cellsOf t) 0 0 es) (hl:∀ a,(e a).length = P.cellsOf t) (he:∀ b,e (g b) = es b):eo P t e where
 len:=hl
 op hh:=by
  obtain ⟨xs,n,_,_,hcl,hxl,hv⟩:=DataW.trod_struct ht hh
  obtain ⟨b,hb⟩:=h.op hcl hxl hv
  exact ⟨g b,by rw [he]; exact hb⟩
theorem oR (b o n:Nat):(⟨b,o,none⟩:Addr).add n = ⟨b,o + n,none⟩:=by
 unfold Addr.add
 split
 ·simp_all
 ·rfl
theorem qj {α:Type} {p:Nat → α → Prop}:∀ (n:Nat),(∀ i,i < n → ∃ a,p i a) → ∃ l:List α,l.length = n ∧ ∀ (i:Nat) a,l[i]? = some a → p i a
 | 0,_=>⟨[],rfl,fun i a h=>by simp at h⟩
 | n + 1,h=>by
  obtain ⟨l,hl,hp⟩:=qj n fun i hi=>h i (by omega)
  obtain ⟨a,ha⟩:=h n (by omega)
  refine ⟨l ++ [a],by simp [hl],fun i b hb=>?_⟩
  by_cases hi:i < n
  ·rw [List.getElem?_append_left (by omega)] at hb; exact hp i b hb
  ·have hi2:i < (l ++ [a]).length:=(List.getElem?_eq_some_iff.1 hb).1
   have e:i = n:=by simp [hl] at hi2; omega
   subst e
   rw [List.getElem?_append_right (by omega)] at hb
   simp [hl] at hb
   subst hb; exact ha
theorem BK {P:Program} {W:World} {base:Nat} {t:TypeId} {v:Value} (ht:P.underlying t = some .string) (hval:Value.okWide P W .any base t v):∃ s,(CP.str s).rel (full W) v:=by
 obtain ⟨s,rfl⟩:=okWide_string ht hval
 simp only [Value.okWide,ht,Cell.okWide,Cell.ok] at hval
 have h2:IntKind.i64.max = 9223372036854775807:=rfl
 rw [h2] at hval
 refine ⟨s.data.toList,by cases s with | mk d=>cases d; rfl,?_⟩
 rw [dZ]
 have:s.size = s.data.toList.length:=by rw [Array.length_toList]; rfl
 omega
theorem BL {P:Program} {H:Type} {enc:TypeId × Value → H} {W:World} {base:Nat} {sp:Nat → Bool} {held:Bool} {t:TypeId} {fs:Array Field} {α:Type} {e:α → List CP} {v:Value} {d:DataW H} {ps:List MemPlace} (ht:P.underlying t = some (.struct fs)) (hr:eo P t e)
  (hval:Value.okWide P W .any base t v) (h:DataW.Trod enc P W 0 sp held t v d ps):∃ a,∃ cs,v = .agg cs ∧ bd (full W) (e a) cs.toList:=by
 obtain ⟨fuel,hf⟩:=h
 obtain ⟨cs,rfl,_⟩:=okWide_struct ht hval
 obtain ⟨a,ha⟩:=hr.op hf
 exact ⟨a,cs,rfl,ha⟩
structure Kept (W W':World):Prop where
 os:W'.os = W.os
 out:W'.output = W.output
 heap:∀ b,b < W.heap.size → W'.heap[b]? = W.heap[b]?
theorem Kept.same {W W':World} (h:Kept W W') {p:MemPlace} (hp:p.block < W.heap.size):W.sameAt W' p:=by
 have:=h.heap _ hp
 cases p with
 | cell b o=>simp only [MemPlace.block] at this; simp [World.sameAt,World.cell?,this]
 | map b=>simp only [MemPlace.block] at this; simp [World.sameAt,this]
theorem Kept.keptBut {W W':World} (h:Kept W W') (may:MemPlace → Prop):W.keptBut W' may:=by
 refine ⟨h.os,h.out,fun i hi=>?_⟩
 rw [h.heap i hi]
 cases W.heap[i]? with
 | none=>rfl
 | some o=>cases o with
  | cells c t fr=>exact ⟨rfl,rfl,rfl,fun _ _=>rfl⟩
  | map es c=>exact .inr ⟨rfl,rfl⟩
  | _=>rfl
theorem p9 {P:Program} {H:Type} {enc:TypeId × Value → H} {W W':World} {base:Nat} {sp:Nat → Bool} {held:Bool}:∀ {ts:List TypeId} {vs:List Value} {ds:List (DataW H)} {ps:List MemPlace},DataW.TrodAll enc P W base sp held ts vs ds ps → (∀ p ∈ ps,W.sameAt W' p) → DataW.TrodAll enc P W' base sp held ts vs ds ps
 | [],[],[],_,h,_=>h
 | _ :: _,_ :: _,_ :: _,_,⟨p,q,⟨n,h1⟩,h2,e⟩,hs=>⟨p,q,⟨n,DataW.trod_carry n _ _ _ h1 fun x hx=>hs x (by rw [e]; exact List.mem_append_left _ hx)⟩,p9 h2 (fun x hx=>hs x (by rw [e]; exact List.mem_append_right _ hx)),e⟩
theorem wW {P:Program} {H:Type} {enc:TypeId × Value → H} {f:Func} {s:ChangeSpec} {apart fresh handsOn again:Bool} {W W':World} {args:Array Value} {v:Value} {ds gs:List (DataW H)} {before:List MemPlace}
  {T:TypeId → Prop} (K:Kids P T) (hz:∀ t e,T t → P.underlying t = some (.slice e) → 0 < P.cellsOf e) (hT:∀ t ∈ f.params.toList,T t)
  (hW:DataW.Whole enc P f.params.toList s.vars apart W args.toList ds gs before) (hv0:s.vars = [])
  (ha:(s.fn H (ds ++ gs)).args = ds) (hvv:(s.fn H (ds ++ gs)).vars = []) (hk:Kept W W')
  (hres:∀ (b:Nat) (sp:Nat → Bool) (hd:Bool),DataW.TrodAll enc P W' b sp hd f.resultTypes.toList (v.resultList f.resultTypes.size) (s.fn H (ds ++ gs)).results [])
  (hok:∀ (j:Nat) (t:TypeId) (r:Value),f.resultTypes[j]? = some t → (v.resultList f.resultTypes.size)[j]? = some r → Value.okWide P W' .any 0 t r) :
  s.post enc P f apart fresh handsOn again W args v W':=by
 have hlt:=hW.lt
 have hW2:=hW
 obtain ⟨p,q,h1,h2,rfl,hz2,hn⟩:=hW2
 rw [hv0] at h2
 obtain ⟨_,rfl⟩:=trodVars_none h2
 simp only [List.append_nil] at *
 have hcarry:DataW.TrodAll enc P W' 0 (fun _=>true) true f.params.toList args.toList ds p:=p9 h1 fun x hx=>hk.same (hlt x hx)
 have hargs:∀ sp:Nat → Bool,(∀ x ∈ p,sp x.block = true) → DataW.TrodAll enc P W' 0 sp true f.params.toList args.toList (s.fn H (ds ++ gs)).args p:=fun sp hsp=>by
  rw [ha]; exact hcarry.respare K hz hT hsp
 have hvars:∀ sp:Nat → Bool,DataW.TrodVars enc P W' sp s.vars (s.fn H (ds ++ gs)).vars []:=fun sp=>by
  rw [hv0,hvv]; rfl
 have hold:∀ x ∈ p,(fun b=>decide (b < W.heap.size)) x.block = true:=fun x hx=>by simpa using hlt x hx
 refine ⟨ds,gs,p,[],p,[],hW,hres _ _ _,hargs _ hold,hvars _,hk.keptBut _,fun _=>?_⟩
 refine ⟨hok,_,_,([] ++ p) ++ [],⟨[] ++ p,[],trodAll_append (hargs _ (fun _ _=>rfl)) (hres _ _ _),hvars _,rfl,?_,?_⟩,?_⟩
 ·intro b off hp
  have hb:b < W.heap.size:=hlt (.cell b off) (by simpa using hp)
  have e:W'.frozen? ⟨b,off,none⟩ = W.frozen? ⟨b,off,none⟩:=by simp only [World.frozen?,hk.heap b hb]
  rw [e]
  exact hz2 b off (by simpa using hp)
 ·intro ha
  simpa using hn ha
 ·intro x hx _
  simpa using hx
theorem law_end {P:Program} {TB:cG} {f:FuncId} {args:List BV} {vals:List Value} {W:World} {Q:Ending → World → Prop} (hm:az P TB f [] args (Is [] (B true))) (htb:dR TB (full W) W) (ha:bT (fun (x:BV) v=>x.rel (full W) (fun _=>.bool false) v) args vals)
  (hQ:∀ W',Kept W W' → Q (.returned (.bool true)) W'):Calls P f vals.toArray W Q:=by
 refine (hm W (full W) (fun _=>.bool false) vals htb (zV W) (fun k c h=>by simp at h) ha).mono ?_
 rintro e W' ⟨v,own',res,h',ρ',rfl,⟨rfl,rfl⟩,hw,hres⟩
 have hv:v = .bool true:=hres
 subst hv
 exact hQ W' ⟨hw.os,hw.out,fun b hb=>hw.same b hb (by simp [uT,bL])⟩
end Go.Sk
namespace Go.Sk
set_option linter.unusedSimpArgs false
set_option linter.unusedVariables false
open Go Go.BigFrame
section
variable {P:Program} {TB:cG} {E:Env TB} {n:Sh} {s s':St} {dst:Option Nat} {t ty yt:TypeId} {pos:String} {after:Array Edge} {g:Option (Nat × Bool)} {x y c:Operand} {ops:Array Oper} {l:List Oper} {Q:fi} {cd:Code}
end
section
variable {P:Program} {TB:cG} {E:Env TB} {n:Sh} {s s' s2:St} {l:List Oper} {Q:fi} {o:Oper}
end
end Go.Sk
namespace Go.Sk
set_option linter.unusedSimpArgs false
set_option linter.unusedVariables false
open Go Go.BigFrame
section
variable {P:Program} {TB:cG} {E:Env TB} {n:Sh} {s s':St} {dst:Option Nat} {t ty yt:TypeId} {pos:String} {after:Array Edge} {g:Option (Nat × Bool)} {x y c:Operand} {ops:Array Oper} {l:List Oper} {Q:fi} {cd:Code}
def bV {α:Type} (es:List α) (lo:Nat) (news:List α):List α:=es.take lo ++ news ++ es.drop (lo + news.length)
theorem rH {size:Nat}:∀ {es:List (List CP)},eC size es → ∀ i,(es.take i).flatten = es.flatten.take (i * size)
 | [],_,i=>by simp
 | p :: es,hu,0=>by simp
 | p :: es,hu,i + 1=>by
  have hp:p.length = size:=hu p (by simp)
  have ih:=rH (es:=es) (fun q hq=>hu q (by simp [hq])) i
  have e:(i + 1) * size = p.length + i * size:=by rw [Nat.add_mul,hp]; omega
  rw [List.take_succ_cons,List.flatten_cons,ih,List.flatten_cons,e,List.take_length_add_append]
theorem rQ {size:Nat}:∀ {es:List (List CP)},eC size es → ∀ i,(es.drop i).flatten = es.flatten.drop (i * size)
 | [],_,i=>by simp
 | p :: es,hu,0=>by simp
 | p :: es,hu,i + 1=>by
  have hp:p.length = size:=hu p (by simp)
  have ih:=rQ (es:=es) (fun q hq=>hu q (by simp [hq])) i
  have e:(i + 1) * size = p.length + i * size:=by rw [Nat.add_mul,hp]; omega
  rw [List.drop_succ_cons,ih,List.flatten_cons,e,List.drop_length_add_append]
end
end Go.Sk
namespace Go.Sk
set_option linter.unusedSimpArgs false
set_option linter.unusedVariables false
open Go Go.BigFrame
section
variable {P:Program} {TB:cG} {E:Env TB} {n:Sh} {s s':St} {dst:Option Nat} {t ty yt:TypeId} {pos:String} {after:Array Edge} {g:Option (Nat × Bool)} {x y c:Operand} {ops:Array Oper} {l:List Oper} {Q:fi} {cd:Code}
end
end Go.Sk
namespace Go.Sk
set_option linter.unusedSimpArgs false
set_option linter.unusedVariables false
open Go Go.BigFrame
structure Ext (P:Program) (f:FuncId) (e:Array Value → Sem Value):Prop where
 ok:∃ fn,P.funcs[f]? = some fn ∧ (fn.name == "runtime.NumGoroutine") = false ∧ fn.body.isNone = true ∧ Extern.findNext fn = none ∧ Extern.find fn = some e
theorem Ext.run {P:Program} {f:FuncId} {e:Array Value → Sem Value} (h:Ext P f e) (args:Array Value) (w:World):(callFunc f args).run P w = ((e args).run P w).andThen fun v w'=>.ok (.value v) w':=by
 obtain ⟨fn,h1,h2,h3,h4,h5⟩:=h.ok
 exact run_callFunc_extern h1 h2 h3 h4 h5 args w
section
variable {P:Program} {TB:cG} {E:Env TB} {n:Sh} {s s':St} {dst:Option Nat} {t ty yt:TypeId} {pos:String} {after:Array Edge} {g:Option (Nat × Bool)} {x y c:Operand} {ats:Array TypeId}
end
end Go.Sk
namespace Go.Sk
set_option linter.unusedSimpArgs false
set_option linter.unusedVariables false
open Go
section
variable {P:Program} {TB:cG} {E:Env TB} {n:Sh} {s s':St} {ops:Array Oper} {l:List Oper} {Q:fi}
end
end Go.Sk
namespace Go.Sk
set_option linter.unusedSimpArgs false
set_option linter.unusedVariables false
open Go
def bD {α β:Type} (a:α) (k:α → β):β:=k a
@[reducible] def b7 {α β γ:Type} (f:α → β → γ) (z:α × β):γ:=f z.1 z.2
@[reducible] def kA {α β γ δ:Type} (f:α → β → γ → δ) (z:α × β × γ):δ:=f z.1 z.2.1 z.2.2
@[reducible] def un4 {α β γ δ ε:Type} (f:α → β → γ → δ → ε) (z:α × β × γ × δ):ε:=f z.1 z.2.1 z.2.2.1 z.2.2.2
@[reducible] def un5 {α β γ δ ε ζ:Type} (f:α → β → γ → δ → ε → ζ) (z:α × β × γ × δ × ε):ζ:=f z.1 z.2.1 z.2.2.1 z.2.2.2.1 z.2.2.2.2
@[reducible] def un6 {α β γ δ ε ζ η:Type} (f:α → β → γ → δ → ε → ζ → η) (z:α × β × γ × δ × ε × ζ):η:=f z.1 z.2.1 z.2.2.1 z.2.2.2.1 z.2.2.2.2.1 z.2.2.2.2.2
@[reducible] def un7 {α β γ δ ε ζ η θ:Type} (f:α → β → γ → δ → ε → ζ → η → θ) (z:α × β × γ × δ × ε × ζ × η):θ:=f z.1 z.2.1 z.2.2.1 z.2.2.2.1 z.2.2.2.2.1 z.2.2.2.2.2.1 z.2.2.2.2.2.2
@[reducible] def un8 {α β γ δ ε ζ η θ κ:Type} (f:α → β → γ → δ → ε → ζ → η → θ → κ) (z:α × β × γ × δ × ε × ζ × η × θ):κ:=f z.1 z.2.1 z.2.2.1 z.2.2.2.1 z.2.2.2.2.1 z.2.2.2.2.2.1 z.2.2.2.2.2.2.1 z.2.2.2.2.2.2.2
@[reducible] def un0 {γ:Type} (f:γ) (_:Unit):γ:=f
@[reducible] def j4 {α β γ:Type} (f:α → γ) (g:β → γ) (z:α ⊕ β):γ:=match z with | .inl x=>f x | .inr y=>g y
def iter {σ τ:Type}:Nat → (σ → Option (σ ⊕ τ)) → σ → Option τ
 | 0,_,_=>none
 | n + 1,body,s=>(body s).bind (j4 (iter n body) some)
def bB {α:Type} [Inhabited α] (xs:List α) (i:Int):Option α:=if 0 ≤ i ∧ i < xs.length then some (idx xs i) else none
def il {α:Type} (xs ys:List α):Option (List α):=if xs.length + ys.length ≤ 1000000000 then some (xs ++ ys) else none
def ld {α:Type} (xs:List α) (i:Int):Option (List α):=if 0 ≤ i ∧ i ≤ xs.length then some (xs.drop i.toNat) else none
def oh {α:Type} (xs:List α) (i:Int):Option (List α):=if 0 ≤ i ∧ i ≤ xs.length then some (xs.take i.toNat) else none
def k7 (k:IntKind) (a b:Int):Option Int:=if b = 0 then none else some (k.wrap (a.tdiv b))
def tC (a b:Int):Option Int:=if b = 0 then none else some (a.tmod b)
def bA {α:Type} [Inhabited α] (g:Bool) (m:Option α):Option α:=if g then m else some default
theorem aE {α β:Type} {m:Option α} {k:α → Option β} {r:β} (h:m.bind k = some r):∃ x,m = some x ∧ k x = some r:=by
 cases m with
 | none=>simp at h
 | some x=>exact ⟨x,rfl,h⟩
theorem gc {α:Type} [Inhabited α] {g:Bool} {m:Option α} {x:α} (h:bA g m = some x) (hg:g = true):m = some x:=by subst hg; exact h
theorem bp {α:Type} [Inhabited α] {xs:List α} {i:Int} {x:α} (h:bB xs i = some x):0 ≤ i:=by
 unfold bB at h; split at h
 ·exact (by assumption:0 ≤ i ∧ _).1
 ·simp at h
theorem b9 {α:Type} [Inhabited α] {xs:List α} {i:Int} {x:α} (h:bB xs i = some x):i < xs.length:=by
 unfold bB at h; split at h
 ·exact (by assumption:0 ≤ i ∧ _).2
 ·simp at h
theorem ix_eq {α:Type} [Inhabited α] {xs:List α} {i:Int} {x:α} (h:bB xs i = some x):idx xs i = x:=by
 unfold bB at h; split at h
 ·simpa using h
 ·simp at h
theorem gf {α:Type} [Inhabited α] {xs:List α} {i:Int} {x:α} (h:bB xs i = some x):xs[i.toNat]? = some x:=by
 rw [idx_eq (bp h) (b9 h),ix_eq h]
theorem fZ {α β:Type} [Inhabited α] {xs:List α} {i:Int} {x:α} {e:α → β} (h:bB xs i = some x):(xs.map e)[i.toNat]? = some (e x):=by
 rw [List.getElem?_map,gf h]; rfl
theorem xg {α β:Type} [Inhabited α] {xs:List α} {i:Int} {x:α} {e:α → β} (h:bB xs i = some x):i.toNat < (xs.map e).length:=by
 have:=bp h; have:=b9 h; simp; omega
theorem nh {α β:Type} [Inhabited α] {xs:List α} {i:Int} {x:α} {e:α → β} (h:bB xs i = some x):i < ((xs.map e).length:Int):=by
 have:=b9 h; simpa using this
theorem re {α:Type} [Inhabited α] {xs:List α} {i:Int} (h0:0 ≤ i) (h1:i < xs.length):bB xs i = some (idx xs i):=by simp [bB,h0,h1]
theorem wP {α:Type} {xs ys z:List α} (h:il xs ys = some z):xs.length + ys.length ≤ 1000000000:=by
 unfold il at h; split at h
 ·assumption
 ·simp at h
theorem Dd {α:Type} {xs ys z:List α} (h:il xs ys = some z):xs ++ ys = z:=by
 unfold il at h; split at h
 ·simpa using h
 ·simp at h
theorem nH {α:Type} {xs ys z:List α} {e:α → List CP} (h:il xs ys = some z):xs.map e ++ ys.map e = z.map e:=by rw [← Dd h,List.map_append]
theorem tJ {α β:Type} {xs ys z:List α} {e:α → β} (h:il xs ys = some z) {bytes:Nat} (hb:bytes ≤ 140737:=by decide):((xs.map e).length + (ys.map e).length) * bytes ≤ 140737488355328:=by
 have:=wP h
 simp only [List.length_map]
 calc (xs.length + ys.length) * bytes ≤ 1000000000 * 140737:=Nat.mul_le_mul this hb
  _ ≤ _:=by decide
theorem tI {α β:Type} {xs ys z:List α} {e:α → β} (h:il xs ys = some z):(xs.map e).length + (ys.map e).length ≤ 9223372036854775807:=by
 have:=wP h
 simp only [List.length_map]; omega
theorem app?_eq {α:Type} {xs ys:List α} (h:xs.length + ys.length ≤ 1000000000):il xs ys = some (xs ++ ys):=by simp [il,h]
theorem drop_ok {α:Type} {xs z:List α} {i:Int} (h:ld xs i = some z):0 ≤ i ∧ i ≤ xs.length ∧ xs.drop i.toNat = z:=by
 unfold ld at h; split at h
 ·next hh=>exact ⟨hh.1,hh.2,by simpa using h⟩
 ·simp at h
theorem Am {α:Type} {xs z:List α} {i:Int} (h:oh xs i = some z):0 ≤ i ∧ i ≤ xs.length ∧ xs.take i.toNat = z:=by
 unfold oh at h; split at h
 ·next hh=>exact ⟨hh.1,hh.2,by simpa using h⟩
 ·simp at h
theorem quo_ok {k:IntKind} {a b z:Int} (h:k7 k a b = some z):b ≠ 0 ∧ k.wrap (a.tdiv b) = z:=by
 unfold k7 at h; split at h
 ·simp at h
 ·exact ⟨by assumption,by simpa using h⟩
theorem rem_ok {a b z:Int} (h:tC a b = some z):b ≠ 0 ∧ a.tmod b = z:=by
 unfold tC at h; split at h
 ·simp at h
 ·exact ⟨by assumption,by simpa using h⟩
section
variable {σ τ:Type} {body:σ → Option (σ ⊕ τ)}
theorem BT {s:σ}:iter 0 body s = none:=rfl
theorem fh {n:Nat} {s:σ}:iter (n + 1) body s = (body s).bind (j4 (iter n body) some):=rfl
theorem BU (I:σ → Prop) (μ:σ → Nat) (fi:τ → Prop) (step:∀ s,I s → ∃ o,body s = some o ∧ (∀ s',o = .inl s' → I s' ∧ μ s' < μ s) ∧ ∀ t,o = .inr t → fi t) :
  ∀ (n:Nat) (s:σ),I s → μ s < n → ∃ t,iter n body s = some t ∧ fi t:=by
 intro n
 induction n with
 | zero=>intro s _ h; omega
 | succ n ih=>
  intro s hI hlt
  obtain ⟨o,ho,h1,h2⟩:=step s hI
  rw [fh,ho]
  cases o with
  | inl s'=>obtain ⟨hI',hm⟩:=h1 s' rfl; exact ih s' hI' (by omega)
  | inr t=>exact ⟨t,rfl,h2 t rfl⟩
end
theorem l5 {p:Prop} [Decidable p]:(!decide p) = decide (¬ p):=by simp
section
variable {P:Program} {TB:cG} {E:Env TB} {n:Sh} {ops:Array Oper} {l:List Oper} {s s':St} {Q:fi} {o:Oper} {c x y:Code}
theorem ad.cp {α:Type} (k:IntKind) {a:Int} {K:Int → Option α} {r:α} (h:bD a K = some r) (hg:o.guard = none) (h1:bY P E n o s (s.put n o.dst (.b (.one (.int k a)))))
  (H:∀ z,K z = some r → ad P E n ops l (s.put n o.dst (.b (.one (.int k z)))) Q):ad P E n ops (o :: l) s Q:=ad.cons hg h1 (H a h)
theorem ad.iJ {α:Type} {a:Bool} {K:Bool → Option α} {r:α} (h:bD a K = some r) (hg:o.guard = none) (h1:bY P E n o s (s.put n o.dst (.b (.one (.bool a)))))
  (H:∀ z,K z = some r → ad P E n ops l (s.put n o.dst (.b (.one (.bool z)))) Q):ad P E n ops (o :: l) s Q:=ad.cons hg h1 (H a h)
theorem ab.ite {α:Type} {t:Nat} {b:Bool} {A B:Option α} {r:α} (h:(if b = true then A else B) = some r) (hs:s.get t = some (.b (.one (.bool b)))) (h1:b = true → A = some r → ab P E n x s Q) (h2:b = false → B = some r → ab P E n y s Q):ab P E n (.cond (.tmp t) x y) s Q:=by
 refine ab.cond hs (fun e=>h1 e ?_) (fun e=>h2 e ?_)
 ·subst e; exact h
 ·subst e; exact h
theorem ab.cB {σ τ:Type} {v:τ} (S:σ → St) (al:σ → τ) (h1:ab P E n x s (Exit.then (fun a w=>∃ z,v = al z ∧ R E n (S z) a w) Q)) (h2:∀ z,v = al z → ab P E n y (S z) Q):ab P E n (.seq x y) s Q:=by
 refine ab.seq fun a w hr=>?_
 refine Code.wp_mono (fun e a' w' he=>?_) (h1 a w hr)
 cases e with
 | normal=>obtain ⟨z,hz,hr'⟩:=he; exact h2 z hz a' w' hr'
 | exit id=>exact he
 | goto l=>exact he
 | ret=>exact he
 | panic ch=>exact he
 | outgrown=>exact he
theorem Fin.join {σ τ:Type} {v:τ} {S:σ → St} {al:σ → τ} (ks kos:List Nat) (z:σ) (hv:al z = v) (hs:s.ik ks kos = S z):Fin E n .normal s (Exit.then (fun a w=>∃ z,v = al z ∧ R E n (S z) a w) Q) :=
 fun _ _ hr=>⟨z,hv.symm,hs ▸ hr.ik ks kos⟩
theorem ab.cS {σ τ:Type} {F:Nat} {body:σ → Option (σ ⊕ τ)} {s0:σ} {v:τ} (h:iter F body s0 = some v) (S:σ → St) (ks kos:List Nat) (hs:s.ik ks kos = S s0)
  (round:∀ z o,body z = some o → (∀ y,o = .inr y → y = v) → ab P E n c (S z) (Exit.then (fun a w=>∃ z',o = .inl z' ∧ R E n (S z') a w) Q)):ab P E n (.loop c) s Q:=by
 refine ab.ik ks kos hs ?_
 refine ab.loop (ι:=σ × Nat) (fun j=>S j.1) (fun j=>iter j.2 body j.1 = some v) (fun j=>j.2) (s0,F) h rfl ?_
 rintro ⟨z,m⟩ hj
 dsimp only at hj ⊢
 cases m with
 | zero=>simp [BT] at hj
 | succ m=>
  rw [fh] at hj
  obtain ⟨o,ho,hj⟩:=aE hj
  intro a w hr
  refine Code.wp_mono (fun e a' w' he=>?_) (round z o ho (fun y hy=>by subst hy; exact Option.some.inj hj) a w hr)
  cases e with
  | normal=>obtain ⟨z',hz,hr'⟩:=he; subst hz; exact ⟨(z',m),hj,Nat.lt_succ_self m,hr'⟩
  | exit id=>exact he
  | goto l=>exact he
  | ret=>exact he
  | panic ch=>exact he
  | outgrown=>exact he
theorem Fin.bR {σ τ:Type} {o:σ ⊕ τ} {S:σ → St} (ks kos:List Nat) (z:σ) (hv:.inl z = o) (hs:s.ik ks kos = S z):Fin E n .normal s (Exit.then (fun a w=>∃ z',o = .inl z' ∧ R E n (S z') a w) Q) :=
 fun _ _ hr=>⟨z,hv.symm,hs ▸ hr.ik ks kos⟩
end
end Go.Sk
namespace Go.Sk
set_option linter.unusedSimpArgs false
set_option linter.unusedVariables false
open Go
section
variable {P:Program} {TB:cG} {E:Env TB} {n:Sh} {s s':St} {dst:Option Nat} {t ty yt:TypeId} {pos:String} {after:Array Edge} {g:Option (Nat × Bool)} {x y c:Operand} {k:IntKind} {a b:Int} {ops:Array Oper} {l:List Oper} {Q:fi} {cd:Code}
theorem pB {z:Int} (h:tC a b = some z) (hx:s.ev x = some (.b (.one (.int k a)))) (hy:s.ev y = some (.b (.one (.int k b)))):bY P E n ⟨dst,.binOp .rem t x y yt,ty,pos,after,g⟩ s (s.put n dst (.b (.one (.int k z)))):=by
 obtain ⟨h1,rfl⟩:=rem_ok h
 exact lg h1 hx hy
theorem fw {z:Int} (h:k7 k a b = some z) (hx:s.ev x = some (.b (.one (.int k a)))) (hy:s.ev y = some (.b (.one (.int k b)))):bY P E n ⟨dst,.binOp .quo t x y yt,ty,pos,after,g⟩ s (s.put n dst (.b (.one (.int k z)))):=by
 obtain ⟨h1,rfl⟩:=quo_ok h
 exact bY.val (o:=⟨dst,.binOp .quo t x y yt,ty,pos,after,g⟩) fun ac w h' ρ hw hs=>by
  refine ⟨.int k (k.wrap (a.tdiv b)),?_,rfl,mD _ _⟩
  simp only [execOp,(cj hs hx).1,(cj hs hy).1]
  simp [eqGuard,binOp,Op.intDiv,h1]
theorem cK {u v z:bg} (h:il u v = some z) (hx:s.ev x = some (.b (.one (.str u)))) (hy:s.ev y = some (.b (.one (.str v)))):bY P E n ⟨dst,.binOp .add t x y yt,ty,pos,after,g⟩ s (s.put n dst (.b (.one (.str z)))):=by
 have h1:=wP h
 have h2:=Dd h
 subst h2
 exact zH (by omega) hx hy
theorem aF {src d:TypeId} {k k0:IntKind} {a:Int} (hsrc:P.underlying src = some (.int k0)) (ht:P.underlying d = some (.int k)) (hx:s.ev x = some (.b (.one (.int k0 a)))) :
  bY P E n ⟨dst,.convert src d x,ty,pos,after,g⟩ s (s.put n dst (.b (.one (.int k (k.wrap a))))) :=
 bY.val (o:=⟨dst,.convert src d x,ty,pos,after,g⟩) fun ac w h' ρ hw hs=>by
  refine ⟨.int k (k.wrap a),?_,rfl,mD _ _⟩
  simp only [execOp,(cj hs hx).1]
  simp [convert,run_underlying hsrc,run_underlying ht,Conv.intToInt]
theorem iW {k2:IntKind} {m:Nat} (hm:m ≤ k.bits) (hx:s.ev x = some (.b (.one (.int k a)))) (hy:s.ev y = some (.b (.one (.int k2 (m:Int))))) {q:Int} (hq:a / 2 ^ m = q) :
  bY P E n ⟨dst,.binOp .shr t x y yt,ty,pos,after,g⟩ s (s.put n dst (.b (.one (.int k q)))) :=
 bY.val (o:=⟨dst,.binOp .shr t x y yt,ty,pos,after,g⟩) fun ac w h' ρ hw hs=>by
  have hra:=(cj hs hx).2
  have hpos:(0:Int) < 2 ^ m:=Int.pow_pos (by decide)
  refine ⟨.int k q,?_,rfl,?_⟩
  ·have hmin:min m k.bits = m:=Nat.min_eq_left hm
   have hd:a.fdiv (2 ^ m) = q:=by rw [← hq,Int.fdiv_eq_ediv_of_nonneg _ (Int.pow_nonneg (by decide))]
   simp only [execOp,(cj hs hx).1,(cj hs hy).1]
   have hneg:¬ ((m:Int) < 0):=by omega
   simp [eqGuard,binOp,Op.shift,hmin,hd,hneg]
  ·unfold rW at hra ⊢
   have h5:k.min ≤ 0:=by cases k <;> simp [IntKind.min,IntKind.signed,IntKind.bits]
   have h6:0 ≤ k.max:=by cases k <;> simp [IntKind.max,IntKind.signed,IntKind.bits]
   subst hq
   by_cases h0:0 ≤ a
   ·have h1:0 ≤ a / 2 ^ m:=Int.ediv_nonneg h0 (Int.le_of_lt hpos)
    have h2:a / 2 ^ m ≤ a:=Int.ediv_le_self _ h0
    omega
   ·have h1:a / 2 ^ m ≤ 0:=by
     have:=Int.ediv_neg_of_neg_of_pos (by omega:a < 0) hpos; omega
    have h2:a ≤ a / 2 ^ m:=by
     rw [Int.le_ediv_iff_mul_le hpos]
     have h3:(1:Int) ≤ 2 ^ m:=by omega
     have h4:a * 2 ^ m ≤ a * 1:=Int.mul_le_mul_of_nonpos_left (by omega) h3
     omega
    omega
def CV.gT (k k':Nat):CV → CV
 | .row j=>if j == k then .row k' else .row j
 | .ptr j o=>if j == k then .ptr k' o else .ptr j o
 | z=>z
def BV.gT (k k':Nat):BV → BV
 | .row j=>if j == k then .row k' else .row j
 | .ptr j o=>if j == k then .ptr k' o else .ptr j o
 | .j2 j o=>if j == k then .j2 k' o else .j2 j o
 | .part j a b c d=>if j == k then .part k' a b c d else .part j a b c d
 | .s9 j a b c=>if j == k then .s9 k' a b c else .s9 j a b c
 | .pY f fs cs=>.pY f (fs.map (·.gT k k')) (cs.map (·.gT k k'))
 | z=>z
def SV.gT (k k':Nat):SV → SV
 | .b z=>.b (z.gT k k')
 | .fE l=>.fE (l.map (·.gT k k'))
 | .n8 l=>.n8 (l.map (·.gT k k'))
 | .dA c z=>.dA c (z.gT k k')
def renS (k k':Nat) (l:List (Nat × SV)):List (Nat × SV):=l.map fun p=>(p.1,p.2.gT k k')
theorem CV.iQ {h:PH} {ρ ρ':RM} {k k':Nat} (hk:ρ' k' = ρ k) {z:CV} (ho:∀ j,j ≠ k → z.cI j = true → ρ' j = ρ j) {v:Value} (hz:z.rel h ρ v):(z.gT k k').rel h ρ' v:=by
 cases z with
 | row j=>
  by_cases e:j = k
  ·subst e; simpa [CV.gT,CV.rel,hk] using hz
  ·have:=ho j e (by simp [CV.cI]); simpa [CV.gT,CV.rel,e,this] using hz
 | ptr j o=>
  by_cases e:j = k
  ·subst e; simpa [CV.gT,CV.rel,hk] using hz
  ·have:=ho j e (by simp [CV.cI]); simpa [CV.gT,CV.rel,e,this] using hz
 | one p=>exact hz
theorem CV.Ch {h:PH} {ρ ρ':RM} {k k':Nat} (hk:ρ' k' = ρ k):∀ {l:List CV} {vs:List Value},(∀ j,j ≠ k → l.any (·.cI j) = true → ρ' j = ρ j) → bT (fun (x:CV) v=>x.rel h ρ v) l vs → bT (fun (x:CV) v=>x.rel h ρ' v) (l.map (·.gT k k')) vs
 | _,_,_,.nil=>.nil
 | _,_,ho,.cons h1 t=>.cons (CV.iQ hk (fun j hj hu=>ho j hj (by simp [hu])) h1) (CV.Ch hk (fun j hj hu=>ho j hj (by simp only [List.any_cons,hu,Bool.or_true])) t)
theorem BV.iQ {h:PH} {ρ ρ':RM} {k k':Nat} (hk:ρ' k' = ρ k) {z:BV} (ho:∀ j,j ≠ k → z.cI j = true → ρ' j = ρ j) {v:Value} (hz:z.rel h ρ v):(z.gT k k').rel h ρ' v:=by
 cases z with
 | row j=>
  by_cases e:j = k
  ·subst e; simpa [BV.gT,BV.rel,hk] using hz
  ·have:=ho j e (by simp [BV.cI]); simpa [BV.gT,BV.rel,e,this] using hz
 | ptr j o=>
  by_cases e:j = k
  ·subst e; simpa [BV.gT,BV.rel,hk] using hz
  ·have:=ho j e (by simp [BV.cI]); simpa [BV.gT,BV.rel,e,this] using hz
 | j2 j o=>
  by_cases e:j = k
  ·subst e; simpa [BV.gT,BV.rel,hk] using hz
  ·have:=ho j e (by simp [BV.cI]); simpa [BV.gT,BV.rel,e,this] using hz
 | part j a b c d=>
  by_cases e:j = k
  ·subst e; simpa [BV.gT,BV.rel,hk] using hz
  ·have:=ho j e (by simp [BV.cI]); simpa [BV.gT,BV.rel,e,this] using hz
 | s9 j a b c=>
  by_cases e:j = k
  ·subst e; simpa [BV.gT,BV.rel,hk] using hz
  ·have:=ho j e (by simp [BV.cI]); simpa [BV.gT,BV.rel,e,this] using hz
 | one p=>exact hz
 | agg ps=>exact hz
 | qn ps=>exact hz
 | pY f fs cs=>
  obtain ⟨a,b,e,h1,h2⟩:=hz
  exact ⟨a,b,e,CV.Ch hk (fun j hj hu=>ho j hj (by simp only [BV.cI,hu,Bool.true_or])) h1,CV.Ch hk (fun j hj hu=>ho j hj (by simp only [BV.cI,hu,Bool.or_true])) h2⟩
theorem SV.iQ {h:PH} {ρ ρ':RM} {k k':Nat} (hk:ρ' k' = ρ k) {z:SV} (ho:∀ j,j ≠ k → z.cI j = true → ρ' j = ρ j) {v:Value} (hz:z.rel h ρ v):(z.gT k k').rel h ρ' v:=by
 cases z with
 | b z=>exact BV.iQ hk ho hz
 | dA c z=>exact ⟨fun e=>BV.iQ hk ho (hz.1 e),hz.2⟩
 | fE zs=>
  obtain ⟨vs,e,ha⟩:=hz
  refine ⟨vs,e,?_⟩
  clear e
  have ho':∀ j,j ≠ k → zs.any (·.cI j) = true → ρ' j = ρ j:=ho
  clear ho
  generalize vs.toList = vl at ha
  induction ha with
  | nil=>exact .nil
  | cons h1 t ih=>
   refine .cons (BV.iQ hk (fun j hj hu=>ho' j hj (by simp [hu])) h1) (ih fun j hj hu=>ho' j hj (by simp only [List.any_cons,hu,Bool.or_true]))
 | n8 zs=>
  obtain ⟨vs,e,ha⟩:=hz
  refine ⟨vs,e,?_⟩
  clear e
  have ho':∀ j,j ≠ k → zs.any (·.cI j) = true → ρ' j = ρ j:=ho
  clear ho
  generalize vs.toList = vl at ha
  induction ha with
  | nil=>exact .nil
  | cons h1 t ih=>
   refine .cons ⟨BV.iQ hk (fun j hj hu=>ho' j hj (by simp [hu])) h1.1,h1.2⟩ (ih fun j hj hu=>ho' j hj (by simp only [List.any_cons,hu,Bool.or_true]))
def OC.gT (k k':Nat):OC → OC
 | .n7 T cs=>.n7 T (cs.map (·.gT k k'))
 | .mp es=>.mp (es.map fun q=>(q.1,q.2.gT k k'))
 | c=>c
def renO (k k':Nat) (l:List (Nat × OC)):List (Nat × OC):=l.map fun p=>(p.1,p.2.gT k k')
theorem OC.renA_ok {h:PH} {ρ ρ':RM} {k k':Nat} (hk:ρ' k' = ρ k) {c:OC} (ho:∀ j,j ≠ k → c.cI j = true → ρ' j = ρ j) {v:Value} {w:World} (hc:c.ok h ρ v w):(c.gT k k').ok h ρ' v w:=by
 cases c with
 | box T ps=>exact hc
 | row T size es=>exact hc
 | k9 T size es=>exact hc
 | s8 q pos=>exact hc
 | mp es=>
  obtain ⟨b,ms,clk,e1,e2,ha,e3⟩:=hc
  refine ⟨b,ms,clk,e1,e2,?_,e3⟩
  clear e2 e3
  have ho':∀ j,j ≠ k → (es.any (·.2.cI j)) = true → ρ' j = ρ j:=ho
  clear ho
  unfold jW at ha ⊢
  generalize ms.toList = l at ha
  induction ha with
  | nil=>exact .nil
  | cons h1 t ih=>exact .cons ⟨h1.1,BV.iQ hk (fun j hj hu=>ho' j hj (by simp [hu])) h1.2⟩ (ih fun j hj hu=>ho' j hj (by simp only [List.any_cons,hu,Bool.or_true]))
 | n7 T cs=>
  obtain ⟨b,cur,e1,e2,ha⟩:=hc
  refine ⟨b,cur,e1,e2,?_⟩
  clear e2
  have ho':∀ j,j ≠ k → (cs.any (·.cI j)) = true → ρ' j = ρ j:=ho
  clear ho
  generalize cur.toList = l at ha
  induction ha with
  | nil=>exact .nil
  | cons h1 t ih=>exact .cons ⟨BV.iQ hk (fun j hj hu=>ho' j hj (by simp [hu])) h1.1,h1.2⟩ (ih fun j hj hu=>ho' j hj (by simp only [List.any_cons,hu,Bool.or_true]))
theorem R.rename {a:Act} {w:World} {c:OC} (hr:R E n s a w) (k k':Nat) (hk:lk s.own k = some c) (hne:k' ≠ k) (hfx:n.fix.contains k' = false) (hnu:jo k' s.own = true):R E n ⟨renS k k' (eJ k' s.slots),ins k' (c.gT k k') (renO k k' (del k s.own))⟩ a w:=by
 obtain ⟨hd,hn,h,ρ,hw,hs⟩:=hr
 have hfx':k' ∉ n.fix:=by simpa using hfx
 refine ⟨hd,hn,h,tx ρ k' (ρ k),⟨hw.agree,hw.le,hw.fresh,hw.size,hw.same,fun j hj=>?_,hw.os,hw.out,hw.nl,?_⟩,?_⟩
 ·have hjk:j ≠ k':=fun e=>by subst e; exact hfx' hj
  rw [gP _ _ hjk]; exact hw.fixed j hj
 ·have hkm:=dl hk
  have old:∀ j x,(j,x) ∈ ins k' (c.gT k k') (renO k k' (del k s.own)) → ∃ i y,(i,y) ∈ s.own ∧ x = y.gT k k' ∧ tx ρ k' (ρ k) j = ρ i ∧ (j = k' → i = k) ∧ (j ≠ k' → i = j ∧ j ≠ k):=fun j x hj=>by
   rcases pE hj with ⟨rfl,rfl⟩ | ⟨h1,h2⟩
   ·exact ⟨k,c,hkm,rfl,eN _ _ _,fun _=>rfl,fun e=>absurd rfl e⟩
   ·obtain ⟨⟨j0,y⟩,h3,he⟩:=List.mem_map.1 h2
    obtain ⟨rfl,rfl⟩:=Prod.mk.inj he
    obtain ⟨h4,h5⟩:=gy h3
    exact ⟨_,y,h4,rfl,gP _ _ h1,fun e=>absurd e h1,fun _=>⟨rfl,h5⟩⟩
  intro j x hj
  obtain ⟨i,y,hi,rfl,hρ,hi1,hi2⟩:=old j x hj
  obtain ⟨e1,e2,e3⟩:=hw.owned i y hi
  rw [hρ]
  refine ⟨OC.renA_ok (eN _ _ _) (fun q _ hu=>gP _ _ fun e=>?_) e1,e2,fun j' x' hj' hne' b hb=>?_⟩
  ·subst e
   rw [vw hnu hi] at hu
   simp at hu
  obtain ⟨i',y',hi',_,hρ',hi1',hi2'⟩:=old j' x' hj'
  rw [hρ']
  refine e3 i' y' hi' (fun e=>hne' ?_) b hb
  by_cases h1:j = k'
  ·by_cases h2:j' = k'
   ·rw [h1,h2]
   ·have:=hi1 h1; have h3:=hi2' h2; omega
  ·have h3:=hi2 h1
   by_cases h2:j' = k'
   ·have:=hi1' h2; omega
   ·have:=hi2' h2; omega
 ·intro i z hz
  obtain ⟨⟨i0,z0⟩,hm,he⟩:=List.mem_map.1 hz
  obtain ⟨rfl,rfl⟩:=Prod.mk.inj he
  obtain ⟨hm1,hm2⟩:=gS hm
  obtain ⟨v,hv,hrel⟩:=hs _ _ hm1
  refine ⟨v,hv,SV.iQ (eN _ _ _) (fun j _ hu=>gP _ _ fun e=>?_) hrel⟩
  subst e
  rw [hm2] at hu
  simp at hu
theorem Fin.rename {e:Exit} (k k':Nat) {c:OC} (hk:lk s.own k = some c) (hne:k' ≠ k) (hfx:n.fix.contains k' = false) (h:Fin E n e ⟨renS k k' (eJ k' s.slots),ins k' (c.gT k k') (renO k k' (del k s.own))⟩ Q) (hnu:jo k' s.own = true:=by rfl):Fin E n e s Q:=fun a w hr=>h a w (hr.rename k k' hk hne hfx hnu)
theorem ab.rename (k k':Nat) {c:OC} (hk:lk s.own k = some c) (hne:k' ≠ k) (hfx:n.fix.contains k' = false) (h:ab P E n cd ⟨renS k k' (eJ k' s.slots),ins k' (c.gT k k') (renO k k' (del k s.own))⟩ Q) (hnu:jo k' s.own = true:=by rfl):ab P E n cd s Q:=fun a w hr=>h a w (hr.rename k k' hk hne hfx hnu)
end
end Go.Sk
namespace Go.Sk
set_option linter.unusedSimpArgs false
set_option linter.unusedVariables false
open Go Go.BigFrame
section
variable {P:Program} {TB:cG} {E:Env TB} {n:Sh} {s s':St} {dst:Option Nat} {t ty yt:TypeId} {pos:String} {after:Array Edge} {g:Option (Nat × Bool)} {x y c:Operand} {ops:Array Oper} {l:List Oper} {Q:fi} {cd:Code}
theorem oB (ρ:RM) (k:Nat):tx ρ k (ρ k) = ρ:=by funext j; simp only [tx]; split <;> simp_all
theorem WR.repl {own:List (Nat × OC)} {h:PH} {ρ:RM} {w:World} (hw:WR E n own h ρ w) {k:Nat} {c0 c':OC} (hk:lk own k = some c0) (hc:c'.ok h ρ (ρ k) w):WR E n (ins k c' own) h ρ w:=by
 have:=hw.step (w':=w) k (ρ k) c' (cq (ρ k)) (fun b e=>⟨c0,dl hk,e⟩) (Nat.le_refl _) rfl rfl (fun _ _ _=>rfl) (by rw [oB]; exact hc) (fun b hb=>.inl hb) (.inl rfl) (.inl rfl)
 rwa [oB] at this
def mk? {α:Type} (z:α) (len cap:Int):Option (List α):=if 0 ≤ len ∧ len ≤ cap ∧ cap ≤ 1000000000 then some (List.replicate len.toNat z) else none
theorem mk_ok {α:Type} {z:α} {len cap:Int} {r:List α} (h:mk? z len cap = some r):0 ≤ len ∧ len ≤ cap ∧ cap ≤ 1000000000 ∧ List.replicate len.toNat z = r:=by
 unfold mk? at h; split at h
 ·next hh=>exact ⟨hh.1,hh.2.1,hh.2.2,by simpa using h⟩
 ·simp at h
theorem vZ {zs:List CP} {size n:Nat} (h:zs.length = size):eC size (List.replicate n zs):=fun ps hp=>by rw [(List.mem_replicate.1 hp).2]; exact h
theorem DD {h:PH} {zs:List CP} {zc:Array Value} {size:Nat} (hz:bd h zs zc.toList) (hs:zs.length = size) (hp:0 < size) (n m:Nat) (hnm:n ≤ m) :
  bd h (List.replicate n zs).flatten ((madeCells zc (m * size)).toList.take (n * size)):=by
 have hzl:zc.size = size:=by have:=hz.length; simp at this; omega
 have hle:n * size ≤ m * size:=Nat.mul_le_mul_right _ hnm
 have hfl:=km (vZ (n:=n) hs)
 have hms:(madeCells zc (m * size)).toList.length = m * size:=by simp [madeCells]
 refine bT.tN (by rw [hfl,List.length_replicate,List.length_take,hms]; omega) fun j a b ha hb=>?_
 have hj:j < n * size:=by
  have:=(List.getElem?_eq_some_iff.1 ha).1
  rw [hfl] at this; simpa using this
 have hd:j / size < n:=by rw [Nat.div_lt_iff_lt_mul hp]; exact hj
 have hm:j % size < size:=Nat.mod_lt _ hp
 have hjj:j / size * size + j % size = j:=by rw [Nat.mul_comm]; exact Nat.div_add_mod _ _
 have h1:=mg (vZ (n:=n) hs) (j / size) zs (by simp [hd]) (j % size) hm
 rw [hjj,ha] at h1
 rw [List.getElem?_take,if_pos hj] at hb
 have h2:(madeCells zc (m * size)).toList[j]? = zc[j % size]?:=by
  have hlt:j < m * size:=by omega
  simp only [madeCells,Array.getElem?_toList]
  rw [Array.getElem?_map,Array.getElem?_range]
  simp only [hlt,if_true,Option.map_some,hzl]
  have:j % size < zc.size:=by omega
  simp [this]
 rw [h2] at hb
 obtain ⟨u,hu,hr⟩:=hz.get (j % size) a h1.symm
 rw [Array.getElem?_toList,hb] at hu
 cases hu
 exact hr
def ZC (a b:CP):Prop:=∀ h v,a.rel h v → b.rel h v
theorem ZC.refl {a:CP}:ZC a a:=fun _ _ x=>x
theorem ZC.p5 {size:Nat} (h:0 < size):ZC .nil (.sl size []):=fun _ v x=>⟨fun ps hp=>by simp at hp,h,.inl ⟨x.1,rfl⟩⟩
theorem Cr {h:PH}:∀ {zs qs:List CP} {vs:List Value},bT ZC zs qs → bd h zs vs → bd h qs vs
 | [],_,_,h1,h2=>by cases h1; cases h2; exact .nil
 | _ :: _,_,_,h1,h2=>by cases h1 with | cons a b=>cases h2 with | cons c d=>exact .cons (a _ _ c) (Cr b d)
theorem rL {k size bytes:Nat} {e:TypeId} {zs:List CP} {lo co:Operand} {kl kc:IntKind} {α:Type} {z0:α} {enc:α → List CP} {a b:Int} {r:List α} (ht:og P t e size bytes zs) (hm:mk? z0 a b = some r) (hbb:bytes ≤ 281474) (hz0:bT ZC zs (enc z0))
  (hx:s.ev lo = some (.b (.one (.int kl a)))) (hy:s.ev co = some (.b (.one (.int kc b)))) (hfx:n.fix.contains k = false) (hnu:jo k s.own = true:=by rfl) :
  bY P E n ⟨dst,.makeSlice t lo co,ty,pos,after,g⟩ s ((⟨eJ k s.slots,ins k (.row e size (r.map enc)) s.own⟩:St).put n dst (.b (.row k))) :=
 bY.make (hfx:=hfx) (hnu:=hnu) (o:=⟨dst,.makeSlice t lo co,ty,pos,after,g⟩) fun ac w h ρ hw hs=>by
  obtain ⟨i,z,h1,h2,h3,h4,h5,h6,h7⟩:=ht.info
  obtain ⟨q0,q1,q2,rfl⟩:=mk_ok hm
  have hzr:=mb h h7
  have hzr:bd h (enc z0) z.cells.toList:=Cr hz0 hzr
  have hzl:(enc z0).length = size:=by rw [hzr.length]; simpa using h5
  have hbytes:(i.bytes:Int) * b ≤ 281474976710656:=by
   rw [h3]
   have e1:(bytes:Int) ≤ 281474:=by omega
   calc (bytes:Int) * b ≤ 281474 * b:=Int.mul_le_mul_of_nonneg_right e1 (by omega)
    _ ≤ _:=by omega
  have hrun:=run_make (P:=P) w t e i z ht.und h1 h4 kl kc a b q0 q1 hbytes (by omega)
  rw [h2] at hrun
  refine ⟨.slice (some ⟨w.heap.size,0,none⟩) a.toNat b.toNat,.slice (some ⟨w.heap.size,0,none⟩) a.toNat b.toNat,w.alloc (.cells (madeCells z.cells (b.toNat * size)) e),none,?_,fun b e=>by simp at e,by simp,rfl,rfl,fun b hb _=>heap_alloc_old w _ hb,?_,
   fun b e=>by simp [cq] at e; subst e; exact .inr (Nat.le_refl _),(eN _ _ _).symm⟩
  ·simp only [execOp,(cj hs hx).1,(cj hs hy).1]
   simp [hrun]
  ·have hle:a.toNat ≤ b.toNat:=by omega
   have hmap:(List.replicate a.toNat z0).map enc = List.replicate a.toNat (enc z0):=by rw [List.map_replicate]
   rw [hmap]
   refine ⟨vZ hzl,h6,(madeCells z.cells (b.toNat * size)).toList.take (a.toNat * size),⟨?_,.inr ⟨w.heap.size,b.toNat,_,?_,Nat.zero_le _,heap_alloc_new w _,?_,?_,?_,?_⟩⟩,DD hzr hzl h6 _ _ hle⟩
   ·have:a.toNat * size ≤ b.toNat * size:=Nat.mul_le_mul_right _ hle
    have hms:(madeCells z.cells (b.toNat * size)).toList.length = b.toNat * size:=by simp [madeCells]
    rw [List.length_take,hms,List.length_replicate]; omega
   ·simp
   ·simpa using hle
   ·rw [dZ]; omega
   ·simp [madeCells]
   ·simp
end
end Go.Sk
namespace Go.Sk
set_option linter.unusedSimpArgs false
set_option linter.unusedVariables false
open Go Go.BigFrame
def swp (a b k:Nat):Nat:=if k == a then b else if k == b then a else k
theorem jT (a b k:Nat):swp a b (swp a b k) = k:=by
 unfold swp
 by_cases h1:k = a
 ·subst h1
  by_cases h2:b = k <;> simp [h2]
 ·by_cases h2:k = b
  ·subst h2
   simp [h1]
  ·simp [h1,h2]
def CV.k8 (f:Nat → Nat):CV → CV
 | .row j=>.row (f j)
 | .ptr j o=>.ptr (f j) o
 | z=>z
def BV.k8 (f:Nat → Nat):BV → BV
 | .pY g fs cs=>.pY g (fs.map (·.k8 f)) (cs.map (·.k8 f))
 | .row j=>.row (f j)
 | .ptr j o=>.ptr (f j) o
 | .j2 j o=>.j2 (f j) o
 | .part j a b c d=>.part (f j) a b c d
 | .s9 j a b c=>.s9 (f j) a b c
 | z=>z
def SV.k8 (f:Nat → Nat):SV → SV
 | .b z=>.b (z.k8 f)
 | .fE l=>.fE (l.map (·.k8 f))
 | .dA c z=>.dA c (z.k8 f)
 | .n8 l=>.n8 (l.map (·.k8 f))
def OC.k8 (f:Nat → Nat):OC → OC
 | .n7 T cs=>.n7 T (cs.map (·.k8 f))
 | .mp es=>.mp (es.map fun q=>(q.1,q.2.k8 f))
 | c=>c
def uS (f:Nat → Nat) (l:List (Nat × OC)):List (Nat × OC):=l.map fun p=>(f p.1,p.2.k8 f)
theorem jA {α β γ:Type} {r:β → γ → Prop} (g:α → β):∀ {l:List α} {vs:List γ},bT r (l.map g) vs ↔ bT (fun a u=>r (g a) u) l vs
 | [],vs=>⟨fun h=>by cases h; exact .nil,fun h=>by cases h; exact .nil⟩
 | a :: l,vs=>⟨fun h=>by cases h with | cons h1 h2=>exact .cons h1 ((jA g).1 h2),fun h=>by cases h with | cons h1 h2=>exact .cons h1 ((jA g).2 h2)⟩
theorem lF {α γ:Type} {r r':α → γ → Prop} {l:List α} {vs:List γ} (h:∀ a u,r a u ↔ r' a u):bT r l vs ↔ bT r' l vs:=⟨fun x=>x.mono fun a u=>(h a u).1,fun x=>x.mono fun a u=>(h a u).2⟩
theorem CV.gK {f:Nat → Nat} {h:PH} {ρ:RM} {z:CV} {v:Value}:(z.k8 f).rel h ρ v ↔ z.rel h (fun k=>ρ (f k)) v:=by cases z <;> exact Iff.rfl
theorem BV.gK {f:Nat → Nat} {h:PH} {ρ:RM} {z:BV} {v:Value}:(z.k8 f).rel h ρ v ↔ z.rel h (fun k=>ρ (f k)) v:=by
 cases z with
 | pY g fs cs=>exact exists_congr fun a=>exists_congr fun b=>and_congr Iff.rfl (and_congr ((jA _).trans (lF fun a u=>CV.gK)) ((jA _).trans (lF fun a u=>CV.gK)))
 | _=>exact Iff.rfl
theorem SV.gK {f:Nat → Nat} {h:PH} {ρ:RM} {z:SV} {v:Value}:(z.k8 f).rel h ρ v ↔ z.rel h (fun k=>ρ (f k)) v:=by
 cases z with
 | b z=>exact BV.gK
 | dA c z=>exact and_congr (imp_congr Iff.rfl BV.gK) Iff.rfl
 | fE l=>exact exists_congr fun vs=>and_congr Iff.rfl ((jA _).trans (lF fun a u=>BV.gK))
 | n8 l=>exact exists_congr fun vs=>and_congr Iff.rfl ((jA _).trans (lF fun a u=>and_congr BV.gK Iff.rfl))
theorem OC.AD {f:Nat → Nat} {h:PH} {ρ:RM} {c:OC} {v:Value} {w:World}:(c.k8 f).ok h ρ v w ↔ c.ok h (fun k=>ρ (f k)) v w:=by
 cases c with
 | box T ps=>exact Iff.rfl
 | row T size es=>exact Iff.rfl
 | k9 T size es=>exact Iff.rfl
 | s8 q pos=>exact Iff.rfl
 | mp es=>exact exists_congr fun b=>exists_congr fun ms=>exists_congr fun clk=>and_congr Iff.rfl (and_congr Iff.rfl (and_congr ((jA _).trans (lF fun a u=>and_congr Iff.rfl BV.gK)) Iff.rfl))
 | n7 T cs=>exact exists_congr fun b=>exists_congr fun cur=>and_congr Iff.rfl (and_congr Iff.rfl ((jA _).trans (lF fun a u=>and_congr BV.gK Iff.rfl)))
theorem xC {f:Nat → Nat} {l:List (Nat × OC)} {k:Nat} {c:OC} (h:(k,c) ∈ uS f l):∃ k0 c0,(k0,c0) ∈ l ∧ k = f k0 ∧ c = c0.k8 f:=by
 obtain ⟨⟨k0,c0⟩,hm,he⟩:=List.mem_map.1 h
 obtain ⟨rfl,rfl⟩:=Prod.mk.inj he
 exact ⟨k0,c0,hm,rfl,rfl⟩
theorem sP {f:Nat → Nat} {l:List (Nat × OC)}:bL (uS f l) = (bL l).map f:=by simp [bL,uS]
theorem zL {f:Nat → Nat} {c:OC}:(c.k8 f).xh = c.xh:=by cases c <;> rfl
theorem rR {f:Nat → Nat}:∀ {l:List (Nat × OC)},cx (uS f l) = (cx l).map f
 | []=>rfl
 | (k,c) :: l=>by
  have ih:=rR (f:=f) (l:=l)
  show (if (c.k8 f).xh = true then f k :: cx (uS f l) else cx (uS f l)) = _
  rw [zL,ih]
  cases hb:c.xh <;> simp [cx,hb]
theorem az.sw {P:Program} {TB:cG} {f:FuncId} {own own':List (Nat × OC)} {args:List BV} {res:SV} (hm:az P TB f own args (Is own' res)) (a b:Nat) :
  az P TB f (uS (swp a b) own) (args.map (·.k8 (swp a b))) (Is (uS (swp a b) own') (res.k8 (swp a b))):=by
 intro w h ρ vals tb hag hlent hargs
 have hss:(fun k=>ρ (swp a b (swp a b k))) = ρ:=by funext k; rw [jT]
 have hinj:∀ {i j:Nat},swp a b i = swp a b j → i = j:=fun {i j} e=>by have:=congrArg (swp a b) e; rwa [jT,jT] at this
 have hl:Lent own h (fun k=>ρ (swp a b k)) w:=fun k c hk=>by
  obtain ⟨e1,e2,e3⟩:=hlent (swp a b k) (c.k8 (swp a b)) (List.mem_map.2 ⟨(k,c),hk,rfl⟩)
  exact ⟨OC.AD.1 e1,e2,fun k' c' hk' hne b' hb'=>e3 (swp a b k') (c'.k8 (swp a b)) (List.mem_map.2 ⟨(k',c'),hk',rfl⟩) (fun e=>hne (hinj e)) b' hb'⟩
 have ha:bT (fun (x:BV) v=>x.rel h (fun k=>ρ (swp a b k)) v) args vals:=((jA _).trans (lF fun a u=>BV.gK)).1 hargs
 refine (hm w h _ vals tb hag hl ha).mono ?_
 rintro e w' ⟨v,own1,res1,h',ρ',rfl,⟨rfl,rfl⟩,hw,hres⟩
 have hlt:∀ b',uT (TB:=TB) ⟨w,h,fun k=>ρ (swp a b k),tb⟩ ⟨0,cx own,bL own⟩ b' ↔ uT (TB:=TB) ⟨w,h,ρ,tb⟩ ⟨0,cx (uS (swp a b) own),bL (uS (swp a b) own)⟩ b':=fun b'=>by
  constructor
  ·rintro ⟨k,hk,hb⟩
   exact ⟨swp a b k,by show _ ∈ bL _; rw [sP]; exact List.mem_map.2 ⟨k,hk,rfl⟩,hb⟩
  ·rintro ⟨k,hk,hb⟩
   have hk':k ∈ (bL own).map (swp a b):=by rw [← sP]; exact hk
   obtain ⟨k0,hk0,rfl⟩:=List.mem_map.1 hk'
   exact ⟨k0,hk0,hb⟩
 refine ⟨v,_,_,h',fun k=>ρ' (swp a b k),rfl,⟨rfl,rfl⟩,⟨hw.agree,hw.le,fun b' hb' hn=>hw.fresh b' hb' fun hh=>hn ((hlt b').1 hh),hw.size,fun b' hb' hn=>hw.same b' hb' fun hh=>hn ((hlt b').1 hh),fun k hk=>?_,hw.os,hw.out,fun b' hn o=>hw.nl b' ((hlt b').2 hn) o,fun k c hk=>?_⟩,?_⟩
 ·have hk':k ∈ (cx own).map (swp a b):=by rw [← rR]; exact hk
  obtain ⟨k0,hk0,rfl⟩:=List.mem_map.1 hk'
  show ρ' (swp a b (swp a b k0)) = _
  rw [jT]; exact hw.fixed k0 hk0
 ·obtain ⟨k0,c0,hk0,rfl,rfl⟩:=xC hk
  obtain ⟨e1,e2,e3⟩:=hw.owned k0 c0 hk0
  have hss':(fun k=>ρ' (swp a b (swp a b k))) = ρ':=by funext k; rw [jT]
  refine ⟨OC.AD.2 (by rw [jT]; exact (congrArg (fun r=>c0.ok h' r (ρ' k0) w') hss').mpr e1),fun b' hb'=>?_,fun k' c' hk' hne b' hb'=>?_⟩
  ·have hb2:cq (ρ' k0) = some b':=by rw [← hb']; show _ = cq (ρ' (swp a b (swp a b k0))); rw [jT]
   exact ⟨(e2 b' hb2).1.imp_right (hlt b').1,(e2 b' hb2).2⟩
  ·obtain ⟨k1,c1,hk1,rfl,rfl⟩:=xC hk'
   have hb2:cq (ρ' k0) = some b':=by rw [← hb']; show _ = cq (ρ' (swp a b (swp a b k0))); rw [jT]
   show cq (ρ' (swp a b (swp a b k1))) ≠ _
   rw [jT]
   exact e3 k1 c1 hk1 (fun e=>hne (by rw [e])) b' hb2
 ·have hss':(fun k=>ρ' (swp a b (swp a b k))) = ρ':=by funext k; rw [jT]
  exact SV.gK.2 (by rw [hss']; exact hres)
section
variable {P:Program} {TB:cG} {E:Env TB} {n:Sh} {s s':St} {dst:Option Nat} {t ty yt:TypeId} {pos:String} {after:Array Edge} {g:Option (Nat × Bool)} {x y c:Operand} {ops:Array Oper} {l:List Oper} {Q:fi} {cd:Code}
end
end Go.Sk
namespace Go.Sk
set_option linter.unusedSimpArgs false
set_option linter.unusedVariables false
open Go
end Go.Sk
namespace Go.Sk
end Go.Sk
