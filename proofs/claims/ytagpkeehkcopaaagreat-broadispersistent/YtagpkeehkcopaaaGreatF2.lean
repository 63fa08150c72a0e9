/- part of the proof: the framework -/
import Derived.Test.YtagpkeehkcopaaaGreatF1
import Derived.Laws.BytesArg
import Derived.ChangeKeysEq
import Derived.Lib.ConvBytes
import Derived.Below
import Derived.Lib.LaidTab
import Derived.Scope
import Derived.Shelf.Vars
import Derived.MapKept
import Derived.Shelf.Sort.Plain
import Derived.Shelf.Slices.CompactI
import Derived.RangeFuncNested
import Derived.RangeFuncLeaves
import Derived.LoopNIn
import Derived.Maps.RangeRun
namespace Go.Sk
set_option linter.unusedSimpArgs false
set_option linter.unusedVariables false
open Go Go.BigFrame
section
variable {P:Program} {TB:a6} {E:Env TB} {n:Sh} {s s':St} {dst:Option Nat} {t ty yt:TypeId} {pos:String} {after:Array Edge} {g:Option (Nat × Bool)} {x y c:Operand} {ops:Array Oper} {l:List Oper} {Q:bX} {cd:Code}
def BV.cv:BV → Option CV
 | .one p=>some (.one p)
 | .ptr k o=>some (.ptr k o)
 | .row k=>some (.row k)
 | _=>none
theorem BV.cv_rel {h:PH} {ρ:RM} {z:BV} {q:CV} (hq:z.cv = some q) {v:Value} (hv:z.rel h ρ v):q.rel h ρ v:=by
 cases z <;> simp [BV.cv] at hq <;> subst hq <;> exact hv
def CR (h:PH) (ρ:RM) (z:BV) (u:Value):Prop:=z.rel h ρ u ∧ u.oneCell' = true
def BV.qQ (own:List (Nat × OC)):BV → Bool
 | .one _=>true
 | .ptr _ _=>true
 | .rm _ _ _=>true
 | .row j=>match lk own j with
  | some (.row _ _ _)=>true
  | some (.mq _)=>true
  | _=>false
 | _=>false
theorem cell_of {own:List (Nat × OC)} {h:PH} {ρ:RM} {w:World} (hw:WR E n own h ρ w) {z:BV} (hz:z.qQ own = true) {v:Value} (hv:z.rel h ρ v):CR h ρ z v:=by
 refine ⟨hv,?_⟩
 cases z with
 | one p=>exact p.one hv
 | ptr k off=>obtain ⟨b,_,rfl⟩:=hv; rfl
 | rm f fs cs=>obtain ⟨a,b,rfl,_⟩:=hv; rfl
 | row j=>
  have hv':v = ρ j:=hv
  simp only [BV.qQ] at hz
  cases e:lk own j with
  | none=>rw [e] at hz; simp at hz
  | some c=>
   rw [e] at hz
   cases c with
   | row T size es=>
    obtain ⟨_,_,hf⟩:=gS hw e
    rcases hf with ⟨h1,_⟩ | ⟨b,cap,cur,h1,_⟩ <;> rw [hv',h1] <;> rfl
   | mq m=>
    obtain ⟨b,ms,clk,h1,_⟩:=(hw.owned j _ (bw e)).1
    rw [hv',h1]
    rfl
   | _=>simp at hz
 | _=>simp [BV.qQ] at hz
theorem gp (ρ:RM) (k:Nat):lM ρ k (ρ k) = ρ:=by funext j; simp only [lM]; split <;> simp_all
theorem WR.repl {own:List (Nat × OC)} {h:PH} {ρ:RM} {w:World} (hw:WR E n own h ρ w) {k:Nat} {c0 c':OC} (hk:lk own k = some c0) (hc:c'.ok h ρ (ρ k) w) (hpl:c'.plain = true:=by rfl):WR E n (ins k c' own) h ρ w:=by
 have:=hw.step (w':=w) k (ρ k) c' (aV (ρ k)) (fun b e=>⟨c0,bw hk,e⟩) (Nat.le_refl _) rfl rfl (fun _ _ _=>rfl) (by rw [gp]; exact hc) (fun b hb=>.inl hb) (.inl rfl) (.inl rfl) hpl
 rwa [gp] at this
theorem fJ {own:List (Nat × OC)} {h:PH} {ρ:RM} {w:World} (hw:WR E n own h ρ w) {k:Nat} {T:TypeId} {cs:List BV} (hk:lk own k = some (.bM T cs)) :
  ∃ b cur,ρ k = .pointer (some ⟨b,0,none⟩) ∧ w.heap[b]? = some (.cells cur T (0,0)) ∧ aU (CR h ρ) cs cur.toList:=(hw.owned k _ (bw hk)).1
theorem rP {h:PH} {ρ:RM}:∀ {ps:List CP} {vs:List Value},aG h ps vs → aU (CR h ρ) (ps.map BV.one) vs
 | [],_,h=>by cases h; exact .nil
 | p :: ps,_,h=>by cases h with | cons h1 h2=>exact .cons ⟨h1,p.one h1⟩ (rP h2)
theorem rL {h:PH} {ρ:RM}:∀ {ps:List CP} {vs:List Value},aU (CR h ρ) (ps.map BV.one) vs → aG h ps vs
 | [],_,h=>by cases h; exact .nil
 | p :: ps,_,h=>by cases h with | cons h1 h2=>exact .cons h1.1 (rL h2)
theorem R.uY {a:Act} {w:World} (hr:R E n s a w) (k:Nat) {T:TypeId} {ps:List CP} (hk:lk s.own k = some (.box T ps)):R E n ⟨s.slots,ins k (.bM T (ps.map .one)) s.own⟩ a w:=by
 obtain ⟨hd,hn,h,ρ,hw,hs⟩:=hr
 obtain ⟨b,cur,e1,e2,e3⟩:=fV hw hk
 exact ⟨hd,hn,h,ρ,hw.repl hk ⟨b,cur,e1,e2,rP e3⟩,hs⟩
def uy:List BV → Option (List CP)
 | []=>some []
 | .one p :: l=>(uy l).map (p :: ·)
 | _ :: _=>none
theorem uc:∀ {cs:List BV} {ps:List CP},uy cs = some ps → cs = ps.map BV.one
 | [],ps,h=>by simp [uy] at h; subst h; rfl
 | z :: cs,ps,h=>by
  cases z with
  | one p=>
   simp only [uy,Option.map_eq_some_iff] at h
   obtain ⟨q,hq,rfl⟩:=h
   rw [uc hq]; rfl
  | _=>simp [uy] at h
theorem R.forget {a:Act} {w:World} (hr:R E n s a w) (k off:Nat) {T:TypeId} {cs:List BV} (hk:lk s.own k = some (.bM T cs)):R E n ⟨s.slots,ins k (.bM T (cs.set off (.one .any))) s.own⟩ a w:=by
 obtain ⟨hd,hn,h,ρ,hw,hs⟩:=hr
 obtain ⟨b,cur,e1,e2,e3⟩:=fJ hw hk
 refine ⟨hd,hn,h,ρ,hw.repl hk ⟨b,cur,e1,e2,?_⟩,hs⟩
 have:∀ {cs:List BV} {vs:List Value} (i:Nat),aU (CR h ρ) cs vs → aU (CR h ρ) (cs.set i (.one .any)) vs:=by
  intro cs vs i ha
  induction ha generalizing i with
  | nil=>simp; exact .nil
  | cons h1 t ih=>cases i with
   | zero=>simp; exact .cons ⟨h1.2,h1.2⟩ t
   | succ i=>simp; exact .cons h1 (ih i)
 exact this off e3
theorem ab.uY (k:Nat) {T:TypeId} {ps:List CP} (hk:lk s.own k = some (.box T ps)) (h:ab P E n cd ⟨s.slots,ins k (.bM T (ps.map .one)) s.own⟩ Q):ab P E n cd s Q:=fun a w hr=>h a w (hr.uY k hk)
theorem ae.uY (k:Nat) {T:TypeId} {ps:List CP} (hk:lk s.own k = some (.box T ps)) (h:ae P E n ops l ⟨s.slots,ins k (.bM T (ps.map .one)) s.own⟩ Q):ae P E n ops l s Q:=fun a w hr=>h a w (hr.uY k hk)
theorem Fin.uY {e:Exit} (k:Nat) {T:TypeId} {ps:List CP} (hk:lk s.own k = some (.box T ps)) (h:Fin E n e ⟨s.slots,ins k (.bM T (ps.map .one)) s.own⟩ Q):Fin E n e s Q:=fun a w hr=>h a w (hr.uY k hk)
theorem ab.forget (k off:Nat) {T:TypeId} {cs:List BV} (hk:lk s.own k = some (.bM T cs)) (h:ab P E n cd ⟨s.slots,ins k (.bM T (cs.set off (.one .any))) s.own⟩ Q):ab P E n cd s Q:=fun a w hr=>h a w (hr.forget k off hk)
theorem ae.forget (k off:Nat) {T:TypeId} {cs:List BV} (hk:lk s.own k = some (.bM T cs)) (h:ae P E n ops l ⟨s.slots,ins k (.bM T (cs.set off (.one .any))) s.own⟩ Q):ae P E n ops l s Q:=fun a w hr=>h a w (hr.forget k off hk)
theorem Fin.forget {e:Exit} (k off:Nat) {T:TypeId} {cs:List BV} (hk:lk s.own k = some (.bM T cs)) (h:Fin E n e ⟨s.slots,ins k (.bM T (cs.set off (.one .any))) s.own⟩ Q):Fin E n e s Q:=fun a w hr=>h a w (hr.forget k off hk)
theorem eE {k off:Nat} {T:TypeId} {cs:List BV} {z:BV} (ht:c9 P t) (hx:s.ev x = some (.b (.ptr k off))) (hk:lk s.own k = some (.bM T cs)) (hp:cs[off]? = some z) :
  bA P E n ⟨dst,.load t x,ty,pos,after,g⟩ s (s.put n dst (.b z)) :=
 bA.val (o:=⟨dst,.load t x,ty,pos,after,g⟩) fun ac w h ρ hw hs=>by
  obtain ⟨b,he,hv⟩:=(aR hs hx:BV.rel h ρ (.ptr k off) _)
  obtain ⟨b',cur,hb1,hb2,hb3⟩:=fJ hw hk
  have:b' = b:=by rw [hb1] at he; simpa using he
  subst this
  obtain ⟨u,hu,hpu⟩:=hb3.get off z hp
  have:=fo ht (w:=w) (b:=b') (o:=off) (v:=u) (by rw [dV hb2]; simpa using hu)
  refine ⟨u,?_,hpu.1⟩
  simp only [execOp,hv,Instr.loadAt,Instr.sureAddr]
  simp [this]
theorem tx {k off m:Nat} {T:TypeId} {cs zs:List BV} (ht:eX P t m) (hx:s.ev x = some (.b (.ptr k off))) (hk:lk s.own k = some (.bM T cs)) (hp:(cs.drop off).take m = zs) (hq:zs.length = m) :
  bA P E n ⟨dst,.load t x,ty,pos,after,g⟩ s (s.put n dst (.jB zs)) :=
 bA.val (o:=⟨dst,.load t x,ty,pos,after,g⟩) fun ac w h ρ hw hs=>by
  obtain ⟨b,he,hv⟩:=(aR hs hx:BV.rel h ρ (.ptr k off) _)
  obtain ⟨b',cur,hb1,hb2,hb3⟩:=fJ hw hk
  have:b' = b:=by rw [hb1] at he; simpa using he
  subst this
  have hc:aU (CR h ρ) zs ((cur.toList.drop off).take m):=by rw [← hp]; exact aU.take (aU.drop hb3 off) m
  refine ⟨.agg ((cur.toList.drop off).take m).toArray,?_,_,rfl,hc⟩
  have:=gu ht (w:=w) (b:=b') (o:=off) (cs:=(cur.toList.drop off).take m) (by rw [← hc.length,hq]) (fun j v hv=>by
   rw [dV hb2]
   rw [List.getElem?_take] at hv
   split at hv
   ·simpa using hv
   ·simp at hv)
  simp only [execOp,hv,Instr.loadAt,Instr.sureAddr]
  simp [this]
theorem tw {k off m:Nat} {T:TypeId} {cs:List BV} {qs:List CP} (ht:eX P t m) (hx:s.ev x = some (.b (.ptr k off))) (hk:lk s.own k = some (.bM T cs)) (hp:uy ((cs.drop off).take m) = some qs) (hq:qs.length = m) :
  bA P E n ⟨dst,.load t x,ty,pos,after,g⟩ s (s.put n dst (.b (.agg qs))):=by
 intro a w hr next Q hnext
 refine tx ht hx hk (uc hp) (by simpa using hq) a w hr next Q fun a' w' hr'=>hnext a' w' ?_
 obtain ⟨hd,hn,h,ρ,hw,hs⟩:=hr'
 refine ⟨hd,hn,h,ρ,?_,?_⟩
 ·cases dst with
  | none=>exact hw
  | some d=>
   simp only [St.put,St.set] at hw ⊢
   split at hw
   ·rename_i hdn; simp only [hdn,if_true]; exact hw
   ·rename_i hdn; simp only [hdn,if_false]; exact hw
 ·cases dst with
  | none=>exact hs
  | some d=>
   simp only [St.put,St.set] at hs ⊢
   split at hs
   ·rename_i hdn
    simp only [hdn,if_true]
    intro j y hy
    cases List.mem_cons.1 hy with
    | inl e=>
     obtain ⟨rfl,rfl⟩:=Prod.mk.inj e
     obtain ⟨v,hv,vs,e2,ha⟩:=hs j _ List.mem_cons_self
     exact ⟨v,hv,vs,e2,rL ha⟩
    | inr e=>exact hs j y (List.mem_cons_of_mem _ e)
   ·rename_i hdn
    simp only [hdn,if_false]
    exact hs
theorem WR.setX {h:PH} {ρ:RM} {own:List (Nat × OC)} {w:World} (hw:WR E n own h ρ w) {k b:Nat} {T:TypeId} {ps ps':List BV} {cur:Array Value} {cs:List Value} (hk:lk own k = some (.bM T ps)) (hρ:ρ k = .pointer (some ⟨b,0,none⟩))
  (hb:w.heap[b]? = some (.cells cur T (0,0))) (hr:aU (CR h ρ) ps' cs):WR E n (ins k (.bM T ps') own) h ρ (w.setRow b cs.toArray):=by
 have hst:=hw.step (w':=w.setRow b cs.toArray) k (ρ k) (.bM T ps') (some b) (fun b' e=>by cases e; exact ⟨_,bw hk,by rw [hρ]; rfl⟩) (by simp) rfl rfl
  (fun b' _ hne=>setRow_other _ _ _ _ (fun e=>hne (by rw [e]))) (by rw [gp]; exact ⟨b,cs.toArray,hρ,setRow_heap _ _ _ _ _ _ hb,hr⟩) (fun b' hb'=>by rw [hρ] at hb'; simp [aV] at hb'; exact .inl (by rw [hb'])) (.inl rfl) (.inl rfl)
 rwa [gp] at hst
theorem cells_one {v:Value} (h:v.oneCell' = true):v.cells = #[v]:=by cases v <;> first | rfl | simp [Value.oneCell'] at h
theorem gX {k off:Nat} {T:TypeId} {cs cs':List BV} {z:BV} (ht:c9 P t) (hx:s.ev x = some (.b (.ptr k off))) (hk:lk s.own k = some (.bM T cs)) (hy:s.ev y = some (.b z)) (hz:z.qQ s.own = true) (hlt:off < cs.length) (hps:cs.set off z = cs') :
  bA P E n ⟨none,.store t x y,ty,pos,after,g⟩ s ⟨s.slots,ins k (.bM T cs') s.own⟩ :=
 bA.store (o:=⟨none,.store t x y,ty,pos,after,g⟩) rfl fun ac w h ρ hw hs=>by
  obtain ⟨b,he,hv⟩:=(aR hs hx:BV.rel h ρ (.ptr k off) _)
  obtain ⟨b',cur,hb1,hb2,hb3⟩:=fJ hw hk
  have:b' = b:=by rw [hb1] at he; simpa using he
  subst this
  have hp:CR h ρ z (ac.eval y):=cell_of hw hz (aR hs hy)
  obtain ⟨i,hi,hm⟩:=ht.size
  have hcells:=cells_one hp.2
  have hlen:=hb3.length
  have hrun:=iu (P:=P) (t:=t) hi hm hb2 (v:=ac.eval y) (o:=off) (by rw [hcells]; rfl) (by simp at hlen; omega) (by rw [hcells]; simpa using hp.2)
  refine ⟨_,by simp only [execOp,hv,Instr.storeAt,Instr.sureAddr]; simp [hrun]; rfl,?_⟩
  refine hw.setX hk hb1 hb2 ?_
  rw [← hps]
  have hset:Sk.cM cur.toList off (ac.eval y).cells.toList = cur.toList.set off (ac.eval y):=by
   rw [hcells]
   have:off < cur.toList.length:=by rw [← hlen]; exact hlt
   simp only [Sk.cM,List.length_cons,List.length_nil]
   rw [List.set_eq_take_append_cons_drop,if_pos this]; simp
  rw [hset]
  exact aU.set hb3 off hp
def mk? {α:Type} (z:α) (len cap:Int):Option (List α):=if 0 ≤ len ∧ len ≤ cap ∧ cap ≤ 1000000000 then some (List.replicate len.toNat z) else none
theorem mk_ok {α:Type} {z:α} {len cap:Int} {r:List α} (h:mk? z len cap = some r):0 ≤ len ∧ len ≤ cap ∧ cap ≤ 1000000000 ∧ List.replicate len.toNat z = r:=by
 unfold mk? at h; split at h
 ·next hh=>exact ⟨hh.1,hh.2.1,hh.2.2,by simpa using h⟩
 ·simp at h
theorem qW {zs:List CP} {size n:Nat} (h:zs.length = size):cm size (List.replicate n zs):=fun ps hp=>by rw [(List.mem_replicate.1 hp).2]; exact h
theorem wz {h:PH} {zs:List CP} {zc:Array Value} {size:Nat} (hz:aG h zs zc.toList) (hs:zs.length = size) (hp:0 < size) (n m:Nat) (hnm:n ≤ m) :
  aG h (List.replicate n zs).flatten ((madeCells zc (m * size)).toList.take (n * size)):=by
 have hzl:zc.size = size:=by have:=hz.length; simp at this; omega
 have hle:n * size ≤ m * size:=Nat.mul_le_mul_right _ hnm
 have hfl:=ep (qW (n:=n) hs)
 have hms:(madeCells zc (m * size)).toList.length = m * size:=by simp [madeCells]
 refine aU.oV (by rw [hfl,List.length_replicate,List.length_take,hms]; omega) fun j a b ha hb=>?_
 have hj:j < n * size:=by
  have:=(List.getElem?_eq_some_iff.1 ha).1
  rw [hfl] at this; simpa using this
 have hd:j / size < n:=by rw [Nat.div_lt_iff_lt_mul hp]; exact hj
 have hm:j % size < size:=Nat.mod_lt _ hp
 have hjj:j / size * size + j % size = j:=by rw [Nat.mul_comm]; exact Nat.div_add_mod _ _
 have h1:=ff (qW (n:=n) hs) (j / size) zs (by simp [hd]) (j % size) hm
 rw [hjj,ha] at h1
 rw [List.getElem?_take,if_pos hj] at hb
 have h2:(madeCells zc (m * size)).toList[j]? = zc[j % size]?:=by
  have hlt:j < m * size:=by omega
  simp only [madeCells,Array.getElem?_toList]
  rw [Array.getElem?_map,Array.getElem?_range]
  simp only [hlt,if_true,Option.map_some,hzl]
  have:j % size < zc.size:=by omega
  simp [this]
 rw [h2] at hb
 obtain ⟨u,hu,hr⟩:=hz.get (j % size) a h1.symm
 rw [Array.getElem?_toList,hb] at hu
 cases hu
 exact hr
def ZC (a b:CP):Prop:=∀ h v,a.rel h v → b.rel h v
theorem ZC.refl {a:CP}:ZC a a:=fun _ _ x=>x
theorem ZC.gz {size:Nat} (h:0 < size):ZC .nil (.sl size []):=fun _ v x=>⟨fun ps hp=>by simp at hp,h,.inl ⟨x.1,rfl⟩⟩
theorem vi {h:PH}:∀ {zs qs:List CP} {vs:List Value},aU ZC zs qs → aG h zs vs → aG h qs vs
 | [],_,_,h1,h2=>by cases h1; cases h2; exact .nil
 | _ :: _,_,_,h1,h2=>by cases h1 with | cons a b=>cases h2 with | cons c d=>exact .cons (a _ _ c) (vi b d)
theorem rf {k size bytes:Nat} {e:TypeId} {zs:List CP} {lo co:Operand} {kl kc:IntKind} {α:Type} {z0:α} {enc:α → List CP} {a b:Int} {r:List α} (ht:jX P t e size bytes zs) (hm:mk? z0 a b = some r) (hbb:bytes ≤ 281474) (hz0:aU ZC zs (enc z0))
  (hx:s.ev lo = some (.b (.one (.int kl a)))) (hy:s.ev co = some (.b (.one (.int kc b)))) (hfx:n.fix.contains k = false) (hnu:eK k s.own = true:=by rfl) :
  bA P E n ⟨dst,.makeSlice t lo co,ty,pos,after,g⟩ s ((⟨cw k s.slots,ins k (.row e size (r.map enc)) s.own⟩:St).put n dst (.b (.row k))) :=
 bA.make (hfx:=hfx) (hnu:=hnu) (o:=⟨dst,.makeSlice t lo co,ty,pos,after,g⟩) fun ac w h ρ hw hs=>by
  obtain ⟨i,z,h1,h2,h3,h4,h5,h6,h7⟩:=ht.info
  obtain ⟨q0,q1,q2,rfl⟩:=mk_ok hm
  have hzr:=iq h h7
  have hzr:aG h (enc z0) z.cells.toList:=vi hz0 hzr
  have hzl:(enc z0).length = size:=by rw [hzr.length]; simpa using h5
  have hbytes:(i.bytes:Int) * b ≤ 281474976710656:=by
   rw [h3]
   have e1:(bytes:Int) ≤ 281474:=by omega
   calc (bytes:Int) * b ≤ 281474 * b:=Int.mul_le_mul_of_nonneg_right e1 (by omega)
    _ ≤ _:=by omega
  have hrun:=run_make (P:=P) w t e i z ht.und h1 h4 kl kc a b q0 q1 hbytes (by omega)
  rw [h2] at hrun
  refine ⟨.slice (some ⟨w.heap.size,0,none⟩) a.toNat b.toNat,.slice (some ⟨w.heap.size,0,none⟩) a.toNat b.toNat,w.alloc (.cells (madeCells z.cells (b.toNat * size)) e),none,?_,fun b e=>by simp at e,by simp,rfl,rfl,fun b hb _=>heap_alloc_old w _ hb,?_,
   fun b e=>by simp [aV] at e; subst e; exact .inr (Nat.le_refl _),(c4 _ _ _).symm⟩
  ·simp only [execOp,(dx hs hx).1,(dx hs hy).1]
   simp [hrun]
  ·have hle:a.toNat ≤ b.toNat:=by omega
   have hmap:(List.replicate a.toNat z0).map enc = List.replicate a.toNat (enc z0):=by rw [List.map_replicate]
   rw [hmap]
   refine ⟨qW hzl,h6,(madeCells z.cells (b.toNat * size)).toList.take (a.toNat * size),⟨?_,.inr ⟨w.heap.size,b.toNat,_,?_,Nat.zero_le _,heap_alloc_new w _,?_,?_,?_,?_⟩⟩,wz hzr hzl h6 _ _ hle⟩
   ·have:a.toNat * size ≤ b.toNat * size:=Nat.mul_le_mul_right _ hle
    have hms:(madeCells z.cells (b.toNat * size)).toList.length = b.toNat * size:=by simp [madeCells]
    rw [List.length_take,hms,List.length_replicate]; omega
   ·simp
   ·simpa using hle
   ·rw [fm]; omega
   ·simp [madeCells]
   ·simp
end
end Go.Sk
namespace Go.Sk
set_option linter.unusedSimpArgs false
set_option linter.unusedVariables false
open Go Go.BigFrame
def swp (a b k:Nat):Nat:=if k == a then b else if k == b then a else k
theorem gH (a b k:Nat):swp a b (swp a b k) = k:=by
 unfold swp
 by_cases h1:k = a
 ·subst h1
  by_cases h2:b = k <;> simp [h2]
 ·by_cases h2:k = b
  ·subst h2
   simp [h1]
  ·simp [h1,h2]
def CV.hS (f:Nat → Nat):CV → CV
 | .row j=>.row (f j)
 | .ptr j o=>.ptr (f j) o
 | z=>z
def BV.hS (f:Nat → Nat):BV → BV
 | .rm g fs cs=>.rm g (fs.map (·.hS f)) (cs.map (·.hS f))
 | .xa cs=>.xa (cs.map (·.hS f))
 | .row j=>.row (f j)
 | .ptr j o=>.ptr (f j) o
 | .lJ j o=>.lJ (f j) o
 | .part j a b c d=>.part (f j) a b c d
 | .uZ j a b c=>.uZ (f j) a b c
 | z=>z
def SV.hS (f:Nat → Nat):SV → SV
 | .b z=>.b (z.hS f)
 | .dF l=>.dF (l.map (·.hS f))
 | .opt c z=>.opt c (z.hS f)
 | .jB l=>.jB (l.map (·.hS f))
def OC.hS (f:Nat → Nat):OC → OC
 | .bM T cs=>.bM T (cs.map (·.hS f))
 | .mp es=>.mp (es.map fun q=>(q.1,q.2.hS f))
 | .pU j m rest cur=>.pU (f j) m rest cur
 | c=>c
def pW (f:Nat → Nat) (l:List (Nat × OC)):List (Nat × OC):=l.map fun p=>(f p.1,p.2.hS f)
theorem fE {α β γ:Type} {r:β → γ → Prop} (g:α → β):∀ {l:List α} {vs:List γ},aU r (l.map g) vs ↔ aU (fun a u=>r (g a) u) l vs
 | [],vs=>⟨fun h=>by cases h; exact .nil,fun h=>by cases h; exact .nil⟩
 | a :: l,vs=>⟨fun h=>by cases h with | cons h1 h2=>exact .cons h1 ((fE g).1 h2),fun h=>by cases h with | cons h1 h2=>exact .cons h1 ((fE g).2 h2)⟩
theorem gV {α γ:Type} {r r':α → γ → Prop} {l:List α} {vs:List γ} (h:∀ a u,r a u ↔ r' a u):aU r l vs ↔ aU r' l vs:=⟨fun x=>x.mono fun a u=>(h a u).1,fun x=>x.mono fun a u=>(h a u).2⟩
theorem CV.dU {f:Nat → Nat} {h:PH} {ρ:RM} {z:CV} {v:Value}:(z.hS f).rel h ρ v ↔ z.rel h (fun k=>ρ (f k)) v:=by cases z <;> exact Iff.rfl
theorem BV.dU {f:Nat → Nat} {h:PH} {ρ:RM} {z:BV} {v:Value}:(z.hS f).rel h ρ v ↔ z.rel h (fun k=>ρ (f k)) v:=by
 cases z with
 | xa cs=>exact exists_congr fun a=>and_congr Iff.rfl ((fE _).trans (gV fun a u=>and_congr CV.dU Iff.rfl))
 | rm g fs cs=>exact exists_congr fun a=>exists_congr fun b=>and_congr Iff.rfl (and_congr ((fE _).trans (gV fun a u=>CV.dU)) ((fE _).trans (gV fun a u=>CV.dU)))
 | _=>exact Iff.rfl
theorem SV.dU {f:Nat → Nat} {h:PH} {ρ:RM} {z:SV} {v:Value}:(z.hS f).rel h ρ v ↔ z.rel h (fun k=>ρ (f k)) v:=by
 cases z with
 | b z=>exact BV.dU
 | opt c z=>exact and_congr (imp_congr Iff.rfl BV.dU) Iff.rfl
 | dF l=>exact exists_congr fun vs=>and_congr Iff.rfl ((fE _).trans (gV fun a u=>BV.dU))
 | jB l=>exact exists_congr fun vs=>and_congr Iff.rfl ((fE _).trans (gV fun a u=>and_congr BV.dU Iff.rfl))
theorem OC.ue {f:Nat → Nat} {h:PH} {ρ:RM} {c:OC} {v:Value} {w:World}:(c.hS f).ok h ρ v w ↔ c.ok h (fun k=>ρ (f k)) v w:=by
 cases c with
 | box T ps=>exact Iff.rfl
 | row T size es=>exact Iff.rfl
 | ew T size es=>exact Iff.rfl
 | qG T size es=>exact Iff.rfl
 | sit q pos=>exact Iff.rfl
 | mq m=>exact Iff.rfl
 | rr=>exact Iff.rfl
 | pU j m rest cur=>exact exists_congr fun _=>exists_congr fun _=>exists_congr fun _=>exists_congr fun _=>exists_congr fun _=>⟨fun x=>⟨x.ptr,x.it,x.map,x.obj,x.uz,x.born,x.left,x.at_⟩,fun x=>⟨x.ptr,x.it,x.map,x.obj,x.uz,x.born,x.left,x.at_⟩⟩
 | mp es=>exact exists_congr fun b=>exists_congr fun ms=>exists_congr fun clk=>and_congr Iff.rfl (and_congr Iff.rfl (and_congr ((fE _).trans (gV fun a u=>and_congr Iff.rfl BV.dU)) Iff.rfl))
 | bM T cs=>exact exists_congr fun b=>exists_congr fun cur=>and_congr Iff.rfl (and_congr Iff.rfl ((fE _).trans (gV fun a u=>and_congr BV.dU Iff.rfl)))
theorem OC.iF {f:Nat → Nat} {c:OC} {v:Value} {w:World} {b:Nat}:(c.hS f).cr v w b ↔ c.cr v w b:=by cases c <;> exact Iff.rfl
theorem rU {f:Nat → Nat} {l:List (Nat × OC)} {k:Nat} {c:OC} (h:(k,c) ∈ pW f l):∃ k0 c0,(k0,c0) ∈ l ∧ k = f k0 ∧ c = c0.hS f:=by
 obtain ⟨⟨k0,c0⟩,hm,he⟩:=List.mem_map.1 h
 obtain ⟨rfl,rfl⟩:=Prod.mk.inj he
 exact ⟨k0,c0,hm,rfl,rfl⟩
theorem oq {f:Nat → Nat} {l:List (Nat × OC)}:aI (pW f l) = (aI l).map f:=by simp [aI,pW]
theorem tD {f:Nat → Nat} {c:OC}:(c.hS f).kV = c.kV:=by cases c <;> rfl
theorem nh {f:Nat → Nat}:∀ {l:List (Nat × OC)},aE (pW f l) = (aE l).map f
 | []=>rfl
 | (k,c) :: l=>by
  have ih:=nh (f:=f) (l:=l)
  show (if (c.hS f).kV = true then f k :: aE (pW f l) else aE (pW f l)) = _
  rw [tD,ih]
  cases hb:c.kV <;> simp [aE,hb]
theorem av.sw {P:Program} {TB:a6} {f:FuncId} {own own':List (Nat × OC)} {args:List BV} {res:SV} (hm:av P TB f own args (Is own' res)) (a b:Nat) :
  av P TB f (pW (swp a b) own) (args.map (·.hS (swp a b))) (Is (pW (swp a b) own') (res.hS (swp a b))):=by
 intro w h ρ vals tb hag hlent hargs
 have hss:(fun k=>ρ (swp a b (swp a b k))) = ρ:=by funext k; rw [gH]
 have hinj:∀ {i j:Nat},swp a b i = swp a b j → i = j:=fun {i j} e=>by have:=congrArg (swp a b) e; rwa [gH,gH] at this
 have hl:Lent own h (fun k=>ρ (swp a b k)) w:=fun k c hk=>by
  obtain ⟨e1,e2,e3⟩:=hlent (swp a b k) (c.hS (swp a b)) (List.mem_map.2 ⟨(k,c),hk,rfl⟩)
  exact ⟨OC.ue.1 e1,fun b hb=>e2 b (OC.iF.2 hb),fun k' c' hk' hne b' hb' hb2=>e3 (swp a b k') (c'.hS (swp a b)) (List.mem_map.2 ⟨(k',c'),hk',rfl⟩) (fun e=>hne (hinj e)) b' (OC.iF.2 hb') (OC.iF.2 hb2)⟩
 have ha:aU (fun (x:BV) v=>x.rel h (fun k=>ρ (swp a b k)) v) args vals:=((fE _).trans (gV fun a u=>BV.dU)).1 hargs
 refine (hm w h _ vals tb hag hl ha).mono ?_
 rintro e w' ⟨v,own1,res1,h',ρ',rfl,⟨rfl,rfl⟩,hw,hres⟩
 have hlt:∀ b',kK (TB:=TB) ⟨w,h,fun k=>ρ (swp a b k),tb⟩ ⟨0,aE own,aI own,[]⟩ b' ↔ kK (TB:=TB) ⟨w,h,ρ,tb⟩ ⟨0,aE (pW (swp a b) own),aI (pW (swp a b) own),[]⟩ b':=fun b'=>by
  constructor
  ·rintro ⟨k,hk,hb⟩
   exact ⟨swp a b k,by show _ ∈ aI _; rw [oq]; exact List.mem_map.2 ⟨k,hk,rfl⟩,hb⟩
  ·rintro ⟨k,hk,hb⟩
   have hk':k ∈ (aI own).map (swp a b):=by rw [← oq]; exact hk
   obtain ⟨k0,hk0,rfl⟩:=List.mem_map.1 hk'
   exact ⟨k0,hk0,hb⟩
 refine ⟨v,_,_,h',fun k=>ρ' (swp a b k),rfl,⟨rfl,rfl⟩,⟨hw.agree,hw.le,fun b' hb' hn=>hw.fresh b' hb' fun hh=>hn ((hlt b').1 hh),hw.size,fun b' hb' hn=>hw.same b' hb' fun hh=>hn ((hlt b').1 hh),fun k hk=>?_,hw.os,hw.out,fun b' hn o=>hw.nl b' ((hlt b').2 hn) o,fun k c hk=>?_⟩,?_⟩
 ·have hk':k ∈ (aE own).map (swp a b):=by rw [← nh]; exact hk
  obtain ⟨k0,hk0,rfl⟩:=List.mem_map.1 hk'
  show ρ' (swp a b (swp a b k0)) = _
  rw [gH]; exact hw.fixed k0 hk0
 ·obtain ⟨k0,c0,hk0,rfl,rfl⟩:=rU hk
  obtain ⟨e1,e2,e3⟩:=hw.owned k0 c0 hk0
  have hss':(fun k=>ρ' (swp a b (swp a b k))) = ρ':=by funext k; rw [gH]
  refine ⟨OC.ue.2 (by rw [gH]; exact (congrArg (fun r=>c0.ok h' r (ρ' k0) w') hss').mpr e1),fun b' hb'=>?_,fun k' c' hk' hne b' hb'=>?_⟩
  ·have hb2:c0.cr (ρ' k0) w' b':=by
    have:=OC.iF.1 hb'
    rwa [gH] at this
   exact ⟨(e2 b' hb2).1.imp_right (hlt b').1,(e2 b' hb2).2⟩
  ·obtain ⟨k1,c1,hk1,rfl,rfl⟩:=rU hk'
   have hb2:c0.cr (ρ' k0) w' b':=by
    have:=OC.iF.1 hb'
    rwa [gH] at this
   intro hb3
   have hb4:c1.cr (ρ' k1) w' b':=by
    have:=OC.iF.1 hb3
    rwa [gH] at this
   exact e3 k1 c1 hk1 (fun e=>hne (by rw [e])) b' hb2 hb4
 ·have hss':(fun k=>ρ' (swp a b (swp a b k))) = ρ':=by funext k; rw [gH]
  exact SV.dU.2 (by rw [hss']; exact hres)
section
variable {P:Program} {TB:a6} {E:Env TB} {n:Sh} {s s':St} {dst:Option Nat} {t ty yt:TypeId} {pos:String} {after:Array Edge} {g:Option (Nat × Bool)} {x y c:Operand} {ops:Array Oper} {l:List Oper} {Q:bX} {cd:Code}
theorem pK {α:Type} {k:Nat} {c:α}:∀ {l:List (Nat × α)} {j:Nat} {x:α},(j,x) ∈ l → j ≠ k → (j,x) ∈ ins k c l
 | (i,y) :: l,j,x,h,hne=>by
  unfold ins
  split
  ·next e=>
   have e':k = i:=by simpa using e
   subst e'
   cases List.mem_cons.1 h with
   | inl e=>obtain ⟨rfl,rfl⟩:=Prod.mk.inj e; exact absurd rfl hne
   | inr e=>exact List.mem_cons_of_mem _ (fN e hne)
  ·cases List.mem_cons.1 h with
   | inl e=>rw [e]; exact List.mem_cons_self
   | inr e=>exact List.mem_cons_of_mem _ (pK e hne)
theorem WR.repl' {own:List (Nat × OC)} {h:PH} {ρ:RM} {w:World} (hw:WR E n own h ρ w) {k:Nat} {c0 c':OC} (hk:(k,c0) ∈ own) (hc:c'.ok h ρ (ρ k) w) (hpl:c'.plain = true:=by rfl):WR E n (ins k c' own) h ρ w:=by
 have:=hw.step (w':=w) k (ρ k) c' (aV (ρ k)) (fun b e=>⟨c0,hk,e⟩) (Nat.le_refl _) rfl rfl (fun _ _ _=>rfl) (by rw [gp]; exact hc) (fun b hb=>.inl hb) (.inl rfl) (.inl rfl) hpl
 rwa [gp] at this
theorem R.gm {a:Act} {w:World} (hr:R E n s a w) (kb off k size:Nat) (T:TypeId) {T2:TypeId} {cs:List BV} (hk:lk s.own kb = some (.bM T2 cs)) (hi:cs[off]? = some (.one .nil)) (hz:0 < size) (hne:kb ≠ k) (hfx:n.fix.contains k = false) (hnu:eK k s.own = true) :
  R E n ⟨cw k s.slots,ins kb (.bM T2 (cs.set off (.row k))) (ins k (.row T size []) s.own)⟩ a w:=by
 obtain ⟨h1,h2,h,ρ,hw,hs⟩:=hr
 obtain ⟨b,cur,e1,e2,e3⟩:=fJ hw hk
 have hst:=hw.step (w':=w) k (.slice none 0 0) (.row T size []) none (fun b e=>by simp at e) (Nat.le_refl _) rfl rfl (fun _ _ _=>rfl)
  ⟨fun ps hps=>by simp at hps,hz,[],⟨by simp,.inl ⟨rfl,rfl⟩⟩,.nil⟩ (fun b hb=>by simp [aV] at hb) (.inr fun e=>by simp at hfx; exact hfx e) (.inr hnu)
 have hm:=pK (c:=OC.row T size []) (bw hk) hne
 have hcs:aU (CR h (lM ρ k (.slice none 0 0))) (cs.set off (.row k)) cur.toList:=by
  have hno:∀ j,(cs.any (·.bm j)) = true → lM ρ k (.slice none 0 0) j = ρ j:=fun j hj=>dH _ _ fun e=>by
   subst e
   have:=nF hnu (bw hk)
   simp only [OC.bm] at this
   rw [this] at hj; simp at hj
  clear hst hm hk e2
  generalize cur.toList = vl at e3
  induction e3 generalizing off with
  | nil=>simp at hi
  | @cons z u cs vl h3 t ih=>
   have hno':∀ j,(cs.any (·.bm j)) = true → lM ρ k (.slice none 0 0) j = ρ j:=fun j hj=>hno j (by simp only [List.any_cons,hj,Bool.or_true])
   have hu:∀ j,z.bm j = true → lM ρ k (.slice none 0 0) j = ρ j:=fun j hj=>hno j (by simp [hj])
   have hrest:∀ {cs:List BV} {vl:List Value},(∀ j,(cs.any (·.bm j)) = true → lM ρ k (.slice none 0 0) j = ρ j) → aU (fun (z:BV) u=>z.rel h ρ u ∧ u.oneCell' = true) cs vl → aU (CR h (lM ρ k (.slice none 0 0))) cs vl:=by
    intro cs vl hn ha
    induction ha with
    | nil=>exact .nil
    | cons h4 _ ih2=>exact .cons ⟨BV.mono (PH.le_refl _) (fun j hj=>hn j (by simp [hj])) h4.1,h4.2⟩ (ih2 fun j hj=>hn j (by simp only [List.any_cons,hj,Bool.or_true]))
   cases off with
   | zero=>
    simp at hi
    subst hi
    have hv:u = .slice none 0 0:=h3.1.1
    exact .cons ⟨by rw [hv]; exact (c4 _ _ _).symm,h3.2⟩ (hrest hno' t)
   | succ off=>exact .cons ⟨BV.mono (PH.le_refl _) hu h3.1,h3.2⟩ (ih off (by simpa using hi) hno')
 refine ⟨h1,h2,h,_,WR.repl' hst hm ⟨b,cur,by rw [dH _ _ hne]; exact e1,e2,hcs⟩,hs.cw k _⟩
theorem ab.gm (kb off k size:Nat) (T:TypeId) {T2:TypeId} {cs:List BV} (hk:lk s.own kb = some (.bM T2 cs)) (hi:cs[off]? = some (.one .nil)) (hz:0 < size) (hne:kb ≠ k) (hfx:n.fix.contains k = false) (h:ab P E n cd ⟨cw k s.slots,ins kb (.bM T2 (cs.set off (.row k))) (ins k (.row T size []) s.own)⟩ Q) (hnu:eK k s.own = true:=by rfl):ab P E n cd s Q:=fun a w hr=>h a w (hr.gm kb off k size T hk hi hz hne hfx hnu)
theorem ae.gm (kb off k size:Nat) (T:TypeId) {T2:TypeId} {cs:List BV} (hk:lk s.own kb = some (.bM T2 cs)) (hi:cs[off]? = some (.one .nil)) (hz:0 < size) (hne:kb ≠ k) (hfx:n.fix.contains k = false) (h:ae P E n ops l ⟨cw k s.slots,ins kb (.bM T2 (cs.set off (.row k))) (ins k (.row T size []) s.own)⟩ Q) (hnu:eK k s.own = true:=by rfl):ae P E n ops l s Q:=fun a w hr=>h a w (hr.gm kb off k size T hk hi hz hne hfx hnu)
theorem Fin.gm {e:Exit} (kb off k size:Nat) (T:TypeId) {T2:TypeId} {cs:List BV} (hk:lk s.own kb = some (.bM T2 cs)) (hi:cs[off]? = some (.one .nil)) (hz:0 < size) (hne:kb ≠ k) (hfx:n.fix.contains k = false) (h:Fin E n e ⟨cw k s.slots,ins kb (.bM T2 (cs.set off (.row k))) (ins k (.row T size []) s.own)⟩ Q) (hnu:eK k s.own = true:=by rfl):Fin E n e s Q:=fun a w hr=>h a w (hr.gm kb off k size T hk hi hz hne hfx hnu)
end
end Go.Sk
namespace Go.Sk
set_option linter.unusedSimpArgs false
set_option linter.unusedVariables false
open Go
end Go.Sk
namespace Go.Sk
end Go.Sk
namespace Go.Sk
set_option linter.unusedSimpArgs false
set_option linter.unusedVariables false
open Go Go.BigFrame
structure lN where
 done:List Bool
 base:List (Nat × SV)
 own:List (Nat × OC)
 live:List Bool
 must:List Nat
 nots:List Nat
def nb (l:List Bool) (i:Nat):Bool:=l.getD i false
def ig:List lN → List Bool → Option lN
 | [],_=>none
 | σ :: tab,d=>if σ.done == d then some σ else ig tab d
theorem fL:∀ {tab:List lN} {d:List Bool} {σ:lN},ig tab d = some σ → σ.done = d ∧ σ ∈ tab
 | σ0 :: tab,d,σ,h=>by
  unfold ig at h
  split at h
  ·next e=>cases h; exact ⟨by simpa using e,List.mem_cons_self⟩
  ·exact ⟨(fL h).1,List.mem_cons_of_mem _ (fL h).2⟩
def bY (p:Nat → Bool) (l:List Oper) (Fs:List SV):List Edge → List (Nat × SV)
 | []=>[]
 | e :: es=>if Region.binds .any e && p e.on then
   match l[e.on]?,Fs[e.on]? with
   | some o,some x=>(match o.dst with | some d=>(d,x) :: bY p l Fs es | none=>bY p l Fs es)
   | _,_=>bY p l Fs es
  else bY p l Fs es
theorem l6 {p:Nat → Bool} {l:List Oper} {Fs:List SV}:∀ {es:List Edge} {q:Nat × SV},q ∈ bY p l Fs es → ∃ e,e ∈ es ∧ Region.binds .any e = true ∧ p e.on = true ∧ ∃ o,l[e.on]? = some o ∧ o.dst = some q.1 ∧ Fs[e.on]? = some q.2
 | [],q,h=>by simp [bY] at h
 | e :: es,q,h=>by
  have hrec:q ∈ bY p l Fs es → ∃ e',e' ∈ e :: es ∧ Region.binds .any e' = true ∧ p e'.on = true ∧ ∃ o,l[e'.on]? = some o ∧ o.dst = some q.1 ∧ Fs[e'.on]? = some q.2:=fun h=>by
   obtain ⟨e',h1,h2⟩:=l6 h
   exact ⟨e',List.mem_cons_of_mem _ h1,h2⟩
  unfold bY at h
  split at h
  ·rename_i hb
   simp only [Bool.and_eq_true] at hb
   split at h
   ·rename_i o x ho hx
    split at h
    ·rename_i d hd
     cases List.mem_cons.1 h with
     | inl e'=>subst e'; exact ⟨e,List.mem_cons_self,hb.1,hb.2,o,ho,hd,hx⟩
     | inr e'=>exact hrec e'
    ·exact hrec h
   ·exact hrec h
  ·exact hrec h
def kX:List Nat → List (Nat × SV) → List (Nat × SV)
 | [],l=>l
 | k :: ks,l=>kX ks (cw k l)
def mK:List Nat → SV → Bool
 | [],_=>false
 | k :: ks,x=>x.bm k || mK ks x
theorem l3 {q:Nat × SV}:∀ {key:List Nat} {l:List (Nat × SV)},q ∈ kX key l → q ∈ l ∧ mK key q.2 = false
 | [],l,h=>⟨h,rfl⟩
 | k :: ks,l,h=>by
  obtain ⟨h1,h2⟩:=l3 (key:=ks) h
  obtain ⟨h3,h4⟩:=dY h1
  exact ⟨h3,by simp [mK,h4,h2]⟩
def vK (o:Oper) (j:Nat):Bool:=o.after.toList.any fun e=>Region.binds .any e && e.on == j
section
variable {P:Program} {TB:a6} {E:Env TB} {n:Sh} {s s':St} {l:List Oper} {Q:bX} {o:Oper}
def may (isW:List Bool) (σ:lN) (i:Nat) (o:Oper):Bool:=!nb σ.done i && !σ.must.contains i && !σ.nots.contains i && (o.after.toList.all fun e=>!Region.binds .any e || !nb isW e.on || nb σ.done e.on)
def sQ (isW:List Bool) (l:List Oper) (σ:lN):Bool:=σ.must.all fun j=>(nb isW j && nb σ.done j) || (σ.must.any fun i=>decide (j < i) && (match l[i]? with | some o=>vK o j | none=>false))
def delD:Option Nat → List (Nat × SV) → List (Nat × SV)
 | some d,l=>del d l
 | none,l=>l
def tk (isW:List Bool) (l:List Oper) (σ:lN):Bool:=(List.range l.length).all fun j=>(nb isW j && !nb σ.done j) || (match l[j]? with
 | some o=>(match o.dst with
  | some d=>σ.base.all fun p=>p.1 != d
  | none=>true)
 | none=>true)
def tN (isW:List Bool) (l:List Oper) (σ:lN):Bool:=σ.nots.all fun j=>match l[j]? with
 | some o=>o.after.toList.any fun e=>Region.binds .any e && ((nb isW e.on && !nb σ.done e.on) || (decide (e.on < j) && σ.nots.contains e.on))
 | none=>false
theorem cx.to {ops:Array Oper} {s1 s2:St} (h:cx P E n ops o s s1) (e:s1 = s2):cx P E n ops o s s2:=e ▸ h
def sI (P:Program) {TB:a6} (E:Env TB) (n:Sh) (isW:List Bool) (tab:List lN) (l:List Oper) (Fs:List SV) (σ:lN):Nat → List Oper → Prop
 | _,[]=>True
 | i,o :: r=>(if may isW σ i o = true then
   (if nb isW i = true then ∃ τ key x,ig tab (σ.done.set i true) = some τ ∧ (o.dst.isSome = true → Fs[i]? = some x) ∧ τ.base = delD o.dst (kX key σ.base) ∧ ((List.range l.length).all fun j=>!nb τ.live j || j == i || σ.nots.contains j || (nb σ.live j && (match Fs[j]? with | some y=>!mK key y | none=>true))) = true ∧
     ∀ extra,cx P E n l.toArray o ⟨bY (nb σ.live) l Fs o.after.toList ++ (σ.base ++ extra),σ.own⟩ (St.put n o.dst x ⟨kX key (bY (nb σ.live) l Fs o.after.toList ++ (σ.base ++ extra)),τ.own⟩)
    else ∃ x,(o.dst.isSome = true → Fs[i]? = some x) ∧ ∀ extra,cx P E n l.toArray o ⟨bY (nb σ.live) l Fs o.after.toList ++ (σ.base ++ extra),σ.own⟩ (St.put n o.dst x ⟨bY (nb σ.live) l Fs o.after.toList ++ (σ.base ++ extra),σ.own⟩))
   else True) ∧ sI P E n isW tab l Fs σ (i + 1) r
def qH (P:Program) {TB:a6} (E:Env TB) (n:Sh) (isW:List Bool) (tab:List lN) (l:List Oper) (Fs:List SV):List lN → Prop
 | []=>True
 | σ :: r=>(sQ isW l σ && tN isW l σ && ((List.range l.length).all fun i=>!nb σ.done i || nb isW i) && tk isW l σ && (σ.done.length == l.length)) = true ∧ sI P E n isW tab l Fs σ 0 l ∧ qH P E n isW tab l Fs r
theorem sI.get {isW:List Bool} {tab:List lN} {l0:List Oper} {Fs:List SV} {σ:lN}:∀ {r:List Oper} {k:Nat},sI P E n isW tab l0 Fs σ k r → ∀ (i:Nat) (o:Oper),r[i]? = some o → may isW σ (k + i) o = true →
      (if nb isW (k + i) = true then ∃ τ key x,ig tab (σ.done.set (k + i) true) = some τ ∧ (o.dst.isSome = true → Fs[k + i]? = some x) ∧ τ.base = delD o.dst (kX key σ.base) ∧ ((List.range l0.length).all fun j=>!nb τ.live j || j == k + i || σ.nots.contains j || (nb σ.live j && (match Fs[j]? with | some y=>!mK key y | none=>true))) = true ∧
          ∀ extra,cx P E n l0.toArray o ⟨bY (nb σ.live) l0 Fs o.after.toList ++ (σ.base ++ extra),σ.own⟩ (St.put n o.dst x ⟨kX key (bY (nb σ.live) l0 Fs o.after.toList ++ (σ.base ++ extra)),τ.own⟩)
        else ∃ x,(o.dst.isSome = true → Fs[k + i]? = some x) ∧ ∀ extra,cx P E n l0.toArray o ⟨bY (nb σ.live) l0 Fs o.after.toList ++ (σ.base ++ extra),σ.own⟩ (St.put n o.dst x ⟨bY (nb σ.live) l0 Fs o.after.toList ++ (σ.base ++ extra),σ.own⟩))
  | [],k,h,i,o,ho,_=>by simp at ho
  | p :: r,k,h,i,o,ho,hm=>by
    obtain ⟨h1,h2⟩:=h
    cases i with
    | zero=>
      simp at ho; subst ho
      rw [Nat.add_zero] at hm ⊢
      rw [if_pos hm] at h1
      exact h1
    | succ i=>
      have:=sI.get h2 i o (by simpa using ho) (by rw [← hm]; congr 1; omega)
      have e:k + 1 + i = k + (i + 1):=by omega
      rwa [e] at this
theorem qH.get {isW:List Bool} {tab:List lN} {Fs:List SV}:∀ {r:List lN},qH P E n isW tab l Fs r → ∀ σ ∈ r,(sQ isW l σ && tN isW l σ && ((List.range l.length).all fun i=>!nb σ.done i || nb isW i) && tk isW l σ && (σ.done.length == l.length)) = true ∧ sI P E n isW tab l Fs σ 0 l
 | σ :: r,h,τ,hm=>by
  cases List.mem_cons.1 hm with
  | inl e=>subst e; exact ⟨h.1,h.2.1⟩
  | inr e=>exact qH.get h.2.2 τ e
theorem wy {d:Option Nat} {l:List (Nat × SV)} {k:Nat} {y:SV} (h:(k,y) ∈ delD d l):(k,y) ∈ l ∧ ∀ d',d = some d' → k ≠ d':=by
 cases d with
 | none=>exact ⟨h,fun d' e=>by cases e⟩
 | some d=>exact ⟨(cK h).1,fun d' e=>by cases e; exact (cK h).2⟩
theorem uW {isW:List Bool} {σ:lN} {i d:Nat} {o:Oper} (h:tk isW l σ = true) (hi:i < l.length) (ho:l[i]? = some o) (hd:o.dst = some d) (hw:nb isW i = false ∨ nb σ.done i = true) {k:Nat} {y:SV} (hy:(k,y) ∈ σ.base):k ≠ d:=by
 have:=List.all_eq_true.1 h i (List.mem_range.2 hi)
 rw [ho] at this
 simp only [hd,Bool.or_eq_true,Bool.and_eq_true,Bool.not_eq_true'] at this
 rcases this with ⟨h1,h2⟩ | h1
 ·rcases hw with hw | hw
  ·rw [hw] at h1; simp at h1
  ·rw [hw] at h2; simp at h2
 ·have:=List.all_eq_true.1 h1 (k,y) hy
  simpa using this
theorem kr {k:Nat} {q:Nat × SV} (hu:q.2.bm k = false):∀ {l:List (Nat × SV)},q ∈ l → q ∈ cw k l
 | (i,x) :: l,h=>by
  show q ∈ (if x.bm k = true then cw k l else (i,x) :: cw k l)
  cases List.mem_cons.1 h with
  | inl e=>
   subst e
   rw [if_neg (by rw [hu]; simp)]
   exact List.mem_cons_self
  | inr e=>
   split
   ·exact kr hu e
   ·exact List.mem_cons_of_mem _ (kr hu e)
theorem nJ {q:Nat × SV}:∀ {key:List Nat} {l:List (Nat × SV)},q ∈ l → mK key q.2 = false → q ∈ kX key l
 | [],l,h,_=>h
 | k :: ks,l,h,hu=>by
  simp only [mK,Bool.or_eq_false_iff] at hu
  exact nJ (key:=ks) (kr hu.1 h) hu.2
theorem nb_eq {a b:List Bool} (hl:a.length = b.length) (h:∀ i,nb a i = nb b i):a = b:=by
 refine List.ext_getElem hl fun i h1 h2=>?_
 have:=h i
 simpa [nb,List.getD,List.getElem?_eq_getElem h1,List.getElem?_eq_getElem h2] using this
theorem nb_set {a:List Bool} {i j:Nat}:nb (a.set i true) j = if j = i ∧ i < a.length then true else nb a j:=by
 unfold nb
 simp only [List.getD,List.getElem?_set]
 by_cases h:i = j
 ·subst h
  by_cases h2:i < a.length <;> simp [h2]
 ·have h':¬ j = i:=fun e=>h e.symm
  simp [h,h']
theorem sr {isW:List Bool} {σ:lN} {listed:Array Bool} (hm:sQ isW l σ = true) (hw:∀ i,nb isW i = true → listed.getD i false = nb σ.done i) (hcl:∀ (i:Nat) (p:Oper),l[i]? = some p → listed.getD i false = true → ∀ e ∈ p.after.toList,Region.binds .any e = true → listed.getD e.on false = true) :
  ∀ m j,l.length - j = m → j ∈ σ.must → listed.getD j false = true:=by
 intro m
 induction m using Nat.strongRecOn with
 | _ m ih=>
  intro j hm' hj
  have:=List.all_eq_true.1 hm j hj
  simp only [Bool.or_eq_true,Bool.and_eq_true,List.any_eq_true,decide_eq_true_eq] at this
  rcases this with ⟨h1,h2⟩ | ⟨i,hi,hji,hp⟩
  ·rw [hw j h1]; exact h2
  ·cases hpi:l[i]? with
   | none=>rw [hpi] at hp; simp at hp
   | some p=>
    rw [hpi] at hp
    have hil:=(List.getElem?_eq_some_iff.1 hpi).1
    simp only [vK,List.any_eq_true,Bool.and_eq_true,beq_iff_eq] at hp
    obtain ⟨e,he,hb,hon⟩:=hp
    have:=hcl i p hpi (ih (l.length - i) (by omega) i rfl hi) e he hb
    rwa [hon] at this
theorem pG {isW:List Bool} {σ:lN} {listed:Array Bool} (hm:tN isW l σ = true) (hw:∀ i,nb isW i = true → listed.getD i false = nb σ.done i) (hcl:∀ (i:Nat) (p:Oper),l[i]? = some p → listed.getD i false = true → ∀ e ∈ p.after.toList,Region.binds .any e = true → listed.getD e.on false = true) :
  ∀ j,j ∈ σ.nots → listed.getD j false = false:=by
 intro j
 induction j using Nat.strongRecOn with
 | _ j ih=>
  intro hj
  cases hl:listed.getD j false with
  | false=>rfl
  | true=>
   exfalso
   have:=List.all_eq_true.1 hm j hj
   cases hpi:l[j]? with
   | none=>rw [hpi] at this; simp at this
   | some p=>
    rw [hpi] at this
    simp only [List.any_eq_true,Bool.and_eq_true,Bool.or_eq_true,decide_eq_true_eq,Bool.not_eq_true'] at this
    obtain ⟨e,he,hb,h2⟩:=this
    have h3:=hcl j p hpi hl e he hb
    rcases h2 with ⟨h4,h5⟩ | ⟨h4,h5⟩
    ·rw [hw _ h4,h5] at h3; simp at h3
    ·rw [ih _ h4 (by simpa using h5)] at h3; simp at h3
theorem uL {isW:List Bool} {σ:lN} {listed:Array Bool} (hm:tN isW l σ = true) (hw:∀ i,nb isW i = true → listed.getD i false = nb σ.done i) (hcl:∀ (i:Nat) (p:Oper),l[i]? = some p → listed.getD i false = true → ∀ e ∈ p.after.toList,Region.binds .any e = true → listed.getD e.on false = true)
  {j:Nat} {p:Oper} (hj:j ∈ σ.nots) (hp:l[j]? = some p) (hr:∀ e ∈ p.after.toList,Region.binds .any e = true → listed.getD e.on false = true):False:=by
 have:=List.all_eq_true.1 hm j hj
 rw [hp] at this
 simp only [List.any_eq_true,Bool.and_eq_true,Bool.or_eq_true,decide_eq_true_eq,Bool.not_eq_true'] at this
 obtain ⟨e,he,hb,h2⟩:=this
 have h3:=hr e he hb
 rcases h2 with ⟨h4,h5⟩ | ⟨h4,h5⟩
 ·rw [hw _ h4,h5] at h3; simp at h3
 ·rw [pG hm hw hcl _ (by simpa using h5)] at h3; simp at h3
theorem anyW {isW:List Bool} {tab:List lN} {Fs:List SV} (hok:(gJ 0 l && iJ (gb l) && (gb l).all (· < n.n) && (isW.length == l.length)) = true) (htab:qH P E n isW tab l Fs tab)
  (hfin:∀ σ,ig tab isW = some σ → Fin E n .normal ⟨σ.base ++ aZ (nb σ.live) 0 l Fs,σ.own⟩ Q):∀ (fuel:Nat) (listed:Array Bool) (σ:lN) (a:Act) (w:World),
  listed.size = l.length → ig tab σ.done = some σ → (∀ i,nb isW i = true → listed.getD i false = nb σ.done i) → (∀ (i:Nat) (p:Oper),l[i]? = some p → listed.getD i false = true → ∀ e ∈ p.after.toList,Region.binds .any e = true → listed.getD e.on false = true) →
  l.length ≤ fuel + (listed.toList.filter id).length → R E n ⟨σ.base ++ aZ (fun i=>listed.getD i false && nb σ.live i) 0 l Fs,σ.own⟩ a w → wpAny P .any l.toArray Q fuel listed a w:=by
 simp only [Bool.and_eq_true,beq_iff_eq] at hok
 obtain ⟨⟨⟨hedges,hnd⟩,hlt⟩,hWl⟩:=hok
 simp only [List.all_eq_true] at hlt
 have hcount:∀ (L:List Bool) (i:Nat) (hi:i < L.length),L[i] = false → ((L.set i true).filter id).length = (L.filter id).length + 1:=by
  intro L
  induction L with
  | nil=>intro i hi; simp at hi
  | cons b L ihL=>
   intro i hi hb
   cases i with
   | zero=>simp at hb; subst hb; simp
   | succ i=>
    have:=ihL i (by simpa using hi) (by simpa using hb)
    cases b <;> simp [this]
 have hready:∀ (listed:Array Bool),listed.size = l.length → Region.ready .any l.toArray listed = [] → ∀ j,j < l.length → listed.getD j false = true:=by
  intro listed hsz hr j hj
  induction j using Nat.strongRecOn with
  | _ j ih=>
   cases hb:listed.getD j false with
   | true=>rfl
   | false=>
    exfalso
    have hjs:j < listed.size:=by omega
    have hjr:j ∈ Region.ready .any l.toArray listed:=by
     rw [mem_ready]
     have hlj:listed.getD j true = false:=by
      simp only [Array.getD_eq_getD_getElem?,Array.getElem?_eq_getElem hjs,Option.getD_some] at hb ⊢
      exact hb
     refine ⟨hlj,l[j],by simp [hj],fun e he hbd=>?_⟩
     have:=kv hedges j l[j] (by simp) e he hbd
     exact ih e.on (by omega) (by omega)
    rw [hr] at hjr
    simp at hjr
 have hdone:∀ (listed:Array Bool) (σ:lN) (a:Act) (w:World),listed.size = l.length → ig tab σ.done = some σ → (∀ i,nb isW i = true → listed.getD i false = nb σ.done i) → Region.ready .any l.toArray listed = [] →
   R E n ⟨σ.base ++ aZ (fun i=>listed.getD i false && nb σ.live i) 0 l Fs,σ.own⟩ a w → Q .normal a w:=by
  intro listed σ a w hsz hσ hwl hr hR
  have hall:=hready listed hsz hr
  obtain ⟨hσ1,hσ2⟩:=fL hσ
  obtain ⟨hc,_⟩:=htab.get σ hσ2
  simp only [Bool.and_eq_true,List.all_eq_true,List.mem_range,Bool.or_eq_true,Bool.not_eq_true',beq_iff_eq] at hc
  obtain ⟨⟨⟨⟨_,_⟩,hc2⟩,_⟩,hc4⟩:=hc
  have he:σ.done = isW:=by
   refine nb_eq (by omega) fun i=>?_
   by_cases hi:i < l.length
   ·cases hw:nb isW i with
    | true=>rw [← hwl i hw]; exact hall i hi
    | false=>
     rcases hc2 i hi with h | h
     ·exact h
     ·rw [hw] at h; simp at h
   ·have h1:nb σ.done i = false:=by simp [nb,List.getD,List.getElem?_eq_none (show σ.done.length ≤ i by omega)]
    have h2:nb isW i = false:=by simp [nb,List.getD,List.getElem?_eq_none (show isW.length ≤ i by omega)]
    rw [h1,h2]
  refine hfin σ (by rw [← he]; exact hσ) a w ?_
  obtain ⟨h1,h2,h,ρ,hw,hs⟩:=hR
  refine ⟨h1,h2,h,ρ,hw,fun k x hx=>hs k x ?_⟩
  rcases List.mem_append.1 hx with hx | hx
  ·exact List.mem_append.2 (.inl hx)
  ·refine List.mem_append.2 (.inr ?_)
   rw [cA] at hx ⊢
   obtain ⟨j,oj,hj,hd,hF,hl⟩:=hx
   rw [Nat.zero_add] at hl
   exact ⟨j,oj,hj,hd,hF,by rw [Nat.zero_add,hall j (List.getElem?_eq_some_iff.1 hj).1,hl]; rfl⟩
 intro fuel
 induction fuel with
 | zero=>
  intro listed σ a w hsz hσ hwl hcl hf hR
  have hnr:Region.ready .any l.toArray listed = []:=by
   apply List.eq_nil_iff_forall_not_mem.2
   intro j hj
   rw [mem_ready] at hj
   obtain ⟨hj1,oj,hoj,_⟩:=hj
   have hjl:j < l.length:=by
    have:=(Array.getElem?_eq_some_iff.1 hoj).1
    simpa using this
   have hjs:j < listed.size:=by omega
   have hz':listed.toList[j]'(by simpa using hjs) = false:=by simpa [Array.getD_eq_getD_getElem?,Array.getElem?_eq_getElem hjs] using hj1
   have h1:=hcount listed.toList j (by simpa using hjs) hz'
   have h2:=List.length_filter_le id (listed.toList.set j true)
   simp at h1 h2 hf
   omega
  exact ⟨hnr,hdone listed σ a w hsz hσ hwl hnr hR⟩
 | succ fuel ih=>
  intro listed σ a w hsz hσ hwl hcl hf hR
  refine ⟨fun hr=>hdone listed σ a w hsz hσ hwl hr hR,fun i hi=>?_⟩
  rw [mem_ready] at hi
  obtain ⟨hi1,o',ho,hdeps⟩:=hi
  have hil:i < l.length:=by
   have:=(Array.getElem?_eq_some_iff.1 ho).1
   simpa using this
  have hol:l[i]? = some o':=by simpa using ho
  have his:i < listed.size:=by omega
  have hi1':listed[i] = false:=by simpa [Array.getD_eq_getD_getElem?,Array.getElem?_eq_getElem his] using hi1
  have hi2:listed.getD i false = false:=by simp [Array.getD_eq_getD_getElem?,Array.getElem?_eq_getElem his,hi1']
  obtain ⟨hσ1,hσ2⟩:=fL hσ
  obtain ⟨hc,hops⟩:=htab.get σ hσ2
  simp only [Bool.and_eq_true,List.all_eq_true,List.mem_range,Bool.or_eq_true,Bool.not_eq_true',beq_iff_eq] at hc
  obtain ⟨⟨⟨⟨hc1,hc0⟩,hc2⟩,hc3⟩,hc4⟩:=hc
  have hnot:=pG (l:=l) (σ:=σ) (isW:=isW) hc0 hwl hcl
  have hmust:=sr (l:=l) (σ:=σ) (isW:=isW) hc1 hwl hcl
  have hmay:may isW σ i o' = true:=by
   simp only [may,Bool.and_eq_true,Bool.not_eq_true',List.all_eq_true,Bool.or_eq_true]
   refine ⟨⟨⟨?_,?_⟩,?_⟩,fun e he=>?_⟩
   ·cases hd:nb σ.done i with
    | false=>rfl
    | true=>
     rcases hc2 i hil with h | h
     ·rw [hd] at h; simp at h
     ·rw [hwl i h,hd] at hi2; simp at hi2
   ·cases hd:σ.must.contains i with
    | false=>rfl
    | true=>
     have:=hmust _ i rfl (by simpa using hd)
     rw [hi2] at this; simp at this
   ·cases hd:σ.nots.contains i with
    | false=>rfl
    | true=>exact (uL (l:=l) (σ:=σ) (isW:=isW) hc0 hwl hcl (by simpa using hd) hol (fun e he hb=>hdeps e (by simpa using he) hb)).elim
   ·cases hb:Region.binds .any e with
    | false=>simp
    | true=>
     have:=hdeps e (by simpa using he) hb
     cases hw:nb isW e.on with
     | false=>simp
     | true=>rw [hwl _ hw] at this; simp [this]
  have hstep:=sI.get hops i o' hol (by rw [Nat.zero_add]; exact hmay)
  simp only [Nat.zero_add] at hstep
  have hR2:R E n ⟨bY (nb σ.live) l Fs o'.after.toList ++ (σ.base ++ aZ (fun i=>listed.getD i false && nb σ.live i) 0 l Fs),σ.own⟩ a w:=by
   obtain ⟨h1,h2,h,ρ,hw,hs⟩:=hR
   refine ⟨h1,h2,h,ρ,hw,fun k y hy=>?_⟩
   rcases List.mem_append.1 hy with hy | hy
   ·obtain ⟨e,he,hb,hp,o'',ho',hd',hF'⟩:=l6 hy
    refine hs k y (List.mem_append.2 (.inr ?_))
    rw [cA]
    exact ⟨e.on,o'',ho',hd',hF',by rw [Nat.zero_add,hdeps e (by simpa using he) hb,hp]; rfl⟩
   ·exact hs k y hy
  have hcl':∀ (j:Nat) (p:Oper),l[j]? = some p → (listed.setIfInBounds i true).getD j false = true → ∀ e ∈ p.after.toList,Region.binds .any e = true → (listed.setIfInBounds i true).getD e.on false = true:=by
   intro j p hj hlj e he hb
   have hset:∀ q,listed.getD q false = true → (listed.setIfInBounds i true).getD q false = true:=fun q hq=>by
    by_cases e:q = i
    ·subst e; simp [Array.getD_eq_getD_getElem?,his]
    ·rw [getD_set_ne false (fun h=>e h.symm)]; exact hq
   by_cases e':j = i
   ·subst e'
    rw [hol] at hj; cases hj
    exact hset _ (hdeps e (by simpa using he) hb)
   ·rw [getD_set_ne false (fun h=>e' h.symm)] at hlj
    exact hset _ (hcl j p hj hlj e he hb)
  have hcnt:l.length ≤ fuel + ((listed.setIfInBounds i true).toList.filter id).length:=by
   have:=hcount listed.toList i (by simpa using his) (by simpa using hi1')
   rw [Array.toList_setIfInBounds]
   omega
  have hsz':(listed.setIfInBounds i true).size = l.length:=by simpa using hsz
  have hnext:∀ (τ:lN) (key:List Nat) (x:SV) (a':Act) (w':World),(o'.dst.isSome = true → Fs[i]? = some x) → (∀ k y,(k,y) ∈ τ.base → (k,y) ∈ kX key σ.base ∧ ∀ d,o'.dst = some d → k ≠ d) →
    (∀ j,j < l.length → nb τ.live j = true → j = i ∨ j ∈ σ.nots ∨ (nb σ.live j = true ∧ ∀ y,Fs[j]? = some y → mK key y = false)) →
    R E n (St.put n o'.dst x ⟨kX key (bY (nb σ.live) l Fs o'.after.toList ++ (σ.base ++ aZ (fun i=>listed.getD i false && nb σ.live i) 0 l Fs)),τ.own⟩) a' w' →
    R E n ⟨τ.base ++ aZ (fun i'=>(listed.setIfInBounds i true).getD i' false && nb τ.live i') 0 l Fs,τ.own⟩ a' w':=by
   intro τ key x a' w' hx hbase hlive hR'
   obtain ⟨h1,h2,h,ρ,hw,hs⟩:=hR'
   have hown:(St.put n o'.dst x ⟨kX key (bY (nb σ.live) l Fs o'.after.toList ++ (σ.base ++ aZ (fun i=>listed.getD i false && nb σ.live i) 0 l Fs)),τ.own⟩).own = τ.own:=by
    cases hd:o'.dst with
    | none=>rfl
    | some d=>simp only [St.put,St.set]; split <;> rfl
   rw [hown] at hw
   refine ⟨h1,h2,h,ρ,hw,fun k y hy=>?_⟩
   have hold:(∀ d,o'.dst = some d → k ≠ d) → (k,y) ∈ kX key (bY (nb σ.live) l Fs o'.after.toList ++ (σ.base ++ aZ (fun i=>listed.getD i false && nb σ.live i) 0 l Fs)) → ∃ v,a'.tmps[k]? = some v ∧ y.rel h ρ v:=by
    intro hkd hm
    refine hs k y ?_
    cases hd:o'.dst with
    | none=>exact hm
    | some d=>
     simp only [St.put,St.set]
     split
     ·exact List.mem_cons_of_mem _ (fN hm (hkd d hd))
     ·exact hm
   rcases List.mem_append.1 hy with hy | hy
   ·obtain ⟨hy,hkd⟩:=hbase k y hy
    have hy2:(k,y) ∈ σ.base ∧ mK key y = false:=l3 hy
    exact hold hkd (nJ (List.mem_append.2 (.inr (List.mem_append.2 (.inl hy2.1)))) hy2.2)
   ·rw [cA] at hy
    obtain ⟨j,oj,hj,hd',hF',hl'⟩:=hy
    rw [Nat.zero_add] at hl'
    simp only [Bool.and_eq_true] at hl'
    have hjl:=(List.getElem?_eq_some_iff.1 hj).1
    by_cases hji:j = i
    ·subst hji
     rw [hol] at hj; cases hj
     have hxy:x = y:=by
      have:=hx (by rw [hd']; rfl)
      rw [this] at hF'; exact Option.some.inj hF'
     subst hxy
     refine hs k x ?_
     have hk:k < n.n:=by simpa using hlt k (jF hol hd')
     simp only [hd',St.put,St.set,hk,if_true]
     exact List.mem_cons_self
    ·rcases hlive j hjl hl'.2 with h | h | ⟨h3,h4⟩
     ·exact absurd h hji
     ·exfalso
      have:=hl'.1
      rw [getD_set_ne false (fun e=>hji e.symm),hnot j h] at this
      simp at this
     ·have hl2:listed.getD j false = true:=by
       have:=hl'.1
       rwa [getD_set_ne false (fun e=>hji e.symm)] at this
      refine hold (fun d hd e=>hji (pn hnd hj hol (e ▸ hd') hd)) (nJ (List.mem_append.2 (.inr (List.mem_append.2 (.inr ?_)))) (h4 y hF'))
      rw [cA]
      exact ⟨j,oj,hj,hd',hF',by rw [Nat.zero_add,hl2,h3]; rfl⟩
  unfold wpOp
  rw [ho]
  dsimp only
  have fin:∀ (K:Act → World → Prop),(if Region.wanted o' (yielded l.toArray a.tmps) = true then o'.wp P a w K Q else K (a.put o'.dst undef) w) → (∀ a' w',K a' w' → wpAny P .any l.toArray Q fuel (listed.setIfInBounds i true) a' w') → (if Region.wanted o' (yielded l.toArray a.tmps) = true then (o'.wp P a w (wpAny P .any l.toArray Q fuel (listed.setIfInBounds i true)) Q ∨ False) else wpAny P .any l.toArray Q fuel (listed.setIfInBounds i true) (a.put o'.dst undef) w):=by
   intro K hK hk
   split
   ·rename_i hw'
    simp only [hw',if_true] at hK
    exact .inl (Oper.wp_mono hk hK)
   ·rename_i hw'
    simp only [hw'] at hK
    exact hk _ _ hK
  by_cases hw:nb isW i = true
  ·rw [if_pos hw] at hstep
   obtain ⟨τ,key,x,hτ,hx,hbase,hlive,hst⟩:=hstep
   obtain ⟨hτ1,hτ2⟩:=fL hτ
   have key1:=hst (aZ (fun i=>listed.getD i false && nb σ.live i) 0 l Fs) a w hR2 (wpAny P .any l.toArray Q fuel (listed.setIfInBounds i true)) Q (fun a' w' hR'=>by
    refine ih _ τ a' w' hsz' (by rw [hτ1]; exact hτ) ?_ hcl' hcnt (hnext τ key x a' w' hx (fun k y hy=>by rw [hbase] at hy; exact wy hy) ?_ hR')
    ·intro j hj
     rw [hτ1,nb_set]
     by_cases e:j = i
     ·subst e
      rw [if_pos ⟨rfl,by omega⟩]
      simp [Array.getD_eq_getD_getElem?,his]
     ·rw [if_neg (fun h=>e h.1),getD_set_ne false (fun h=>e h.symm)]
      exact hwl j hj
    ·intro j hjl hlj
     have:=List.all_eq_true.1 hlive j (List.mem_range.2 hjl)
     simp only [Bool.or_eq_true,Bool.not_eq_true',beq_iff_eq,Bool.and_eq_true] at this
     rcases this with ((h | h) | h) | ⟨h,h'⟩
     ·rw [hlj] at h; simp at h
     ·exact .inl h
     ·exact .inr (.inl (by simpa using h))
     ·refine .inr (.inr ⟨h,fun y hy=>?_⟩)
      rw [hy] at h'
      simpa using h')
   split
   ·rename_i hw'
    simp only [hw',if_true] at key1
    exact .inl key1
   ·rename_i hw'
    simp only [hw'] at key1
    exact key1
  ·rw [if_neg hw] at hstep
   obtain ⟨x,hx,hst⟩:=hstep
   have key1:=hst (aZ (fun i=>listed.getD i false && nb σ.live i) 0 l Fs) a w hR2 (wpAny P .any l.toArray Q fuel (listed.setIfInBounds i true)) Q (fun a' w' hR'=>by
    refine ih _ σ a' w' hsz' hσ ?_ hcl' hcnt (hnext σ [] x a' w' hx (fun k y hy=>⟨hy,fun d hd e=>uW hc3 hil hol hd (.inl (by simpa using hw)) hy e⟩) (fun j _ hlj=>.inr (.inr ⟨hlj,fun _ _=>rfl⟩)) hR')
    intro j hj
    by_cases e:j = i
    ·subst e; exact absurd hj hw
    ·rw [getD_set_ne false (fun h=>e h.symm)]
     exact hwl j hj)
   split
   ·rename_i hw'
    simp only [hw',if_true] at key1
    exact .inl key1
   ·rename_i hw'
    simp only [hw'] at key1
    exact key1
theorem pZ.W {ops:List Oper} (isW:List Bool) (Fs:List SV) (tab:List lN) {σ0 σf:lN} (hok:(gJ 0 ops && iJ (gb ops) && (gb ops).all (· < n.n) && (isW.length == ops.length)) = true)
  (htab:qH P E n isW tab ops Fs tab) (h0:ig tab (List.replicate ops.length false) = some σ0) (hs0:s = ⟨σ0.base,σ0.own⟩) (hf:ig tab isW = some σf) (ks kos:List Nat)
  (hs:(⟨σf.base ++ aZ (nb σf.live) 0 ops Fs,σf.own⟩:St).keep ks kos = s') (h:Fin E n .normal s' Q):pZ P E n ops.toArray s Q:=by
 subst hs0
 intro a w hr
 refine anyW hok htab (Fs:=Fs) (fun σ hσ=>?_) _ _ σ0 _ _ (by simp) (by rw [(fL h0).1]; exact h0) ?_ ?_ (by simp) ?_
 ·rw [hf] at hσ; cases hσ
  exact fun a w hr=>h a w (hs ▸ hr.keep ks kos)
 ·intro i _
  rw [(fL h0).1]
  by_cases hi:i < ops.length <;> simp [nb,List.getD,Array.getD_eq_getD_getElem?,hi]
 ·intro i p hi hl
  exfalso
  simp only [Array.getD_eq_getD_getElem?,Array.getElem?_replicate] at hl
  split at hl <;> simp at hl
 ·have hr':=hr.drawn
  obtain ⟨h1,h2,hh,ρ,hw,hsl⟩:=hr'
  refine ⟨h1,h2,hh,ρ,hw,fun k x hx=>hsl k x ?_⟩
  rcases List.mem_append.1 hx with hx | hx
  ·exact hx
  ·rw [cA] at hx
   obtain ⟨j,o,hj,_,_,hl⟩:=hx
   simp only [Nat.zero_add,Array.getD_eq_getD_getElem?,Array.getElem?_replicate,Bool.and_eq_true] at hl
   have:=hl.1
   split at this <;> simp at this
theorem ab.jE {rid:Nat} {ops:List Oper} (hm:P.follows .mixedOrders = true) (isW:List Bool) (Fs:List SV) (tab:List lN) {σ0 σf:lN} (hok:(gJ 0 ops && iJ (gb ops) && (gb ops).all (· < n.n) && (isW.length == ops.length)) = true)
  (htab:qH P E n isW tab ops Fs tab) (h0:ig tab (List.replicate ops.length false) = some σ0) (hs0:s = ⟨σ0.base,σ0.own⟩) (hf:ig tab isW = some σf) (ks kos:List Nat)
  (hs:(⟨σf.base ++ aZ (nb σf.live) 0 ops Fs,σf.own⟩:St).keep ks kos = s') (h:Fin E n .normal s' Q):ab P E n (.region rid ops.toArray true) s Q:=ab.ofA hm (pZ.W isW Fs tab hok htab h0 hs0 hf ks kos hs h)
theorem ab.jb {rid:Nat} {ops:List Oper} {y:Code} (hm:P.follows .mixedOrders = true) (isW:List Bool) (Fs:List SV) (tab:List lN) {σ0 σf:lN} (hok:(gJ 0 ops && iJ (gb ops) && (gb ops).all (· < n.n) && (isW.length == ops.length)) = true)
  (htab:qH P E n isW tab ops Fs tab) (h0:ig tab (List.replicate ops.length false) = some σ0) (hs0:s = ⟨σ0.base,σ0.own⟩) (hf:ig tab isW = some σf) (ks kos:List Nat)
  (hs:(⟨σf.base ++ aZ (nb σf.live) 0 ops Fs,σf.own⟩:St).keep ks kos = s') (h:ab P E n y s' Q):ab P E n (.region rid ops.toArray true) s (Exit.then (y.wp P Q) Q) :=
 ab.jE hm isW Fs tab hok htab h0 hs0 hf ks kos hs (Fin.then h)
end
end Go.Sk
namespace Go.Sk
open Go
theorem av.nilA {P:Program} {TB:a6} {f:FuncId} {own:List (Nat × OC)} {args:List BV} {post:fS} {size:Nat} (i:Nat) (hz:0 < size) (h:av P TB f own args post) (hi:args[i]? = some (.one (.sl size []))):av P TB f own (args.set i (.one .nil)) post:=by
 intro w hh ρ vals tb h1 h2 h3
 refine h w hh ρ vals tb h1 h2 ?_
 clear h h1 h2
 induction args generalizing i vals with
 | nil=>simp at hi
 | cons z args ih=>
  cases i with
  | zero=>
   simp at hi
   subst hi
   cases h3 with
   | cons a b=>exact .cons ⟨fun ps hp=>by simp at hp,hz,.inl ⟨a.1,rfl⟩⟩ b
  | succ i=>
   cases h3 with
   | cons a b=>exact .cons a (ih i (by simpa using hi) _ b)
end Go.Sk
namespace Go.Sk
set_option linter.unusedSimpArgs false
set_option linter.unusedVariables false
open Go Go.BigFrame
section
variable {P:Program} {TB:a6} {E:Env TB} {n:Sh} {s s2:St} {dst:Option Nat} {t ty yt:TypeId} {pos:String} {after:Array Edge} {g:Option (Nat × Bool)} {x y c:Operand} {k:IntKind} {a b:Int} {ops:Array Oper} {o:Oper}
theorem cx.forget (kb off:Nat) {T:TypeId} {cs:List BV} (hk:lk s.own kb = some (.bM T cs)) (h:cx P E n ops o ⟨s.slots,ins kb (.bM T (cs.set off (.one .any))) s.own⟩ s2):cx P E n ops o s s2 :=
 fun a w hr=>h a w (hr.forget kb off hk)
end
end Go.Sk
namespace Go.Sk
set_option linter.unusedSimpArgs false
set_option linter.unusedVariables false
open Go
theorem oH {α:Type} [Inhabited α] (l:List α) (i:Nat) (h:i < l.length):idx l (i:Int) = l[i]:=by
 simp [idx,List.getD,List.getElem?_eq_getElem h]
end Go.Sk
namespace Go.Sk
set_option linter.unusedSimpArgs false
set_option linter.unusedVariables false
open Go Go.BigFrame
def eA (k:IntKind) (l:List Int):List CP:=l.map (.int k)
@[simp] theorem eA_len (k:IntKind) (l:List Int):(eA k l).length = l.length:=by simp [eA]
theorem cP {cs post:List CP} {l:List Int} {k:IntKind} {i z:Int} {m o:Nat} (pre:List CP) (h:a8 l i = some z) (hm:pre.length = m) (hcs:cs = pre ++ (l.map (.int k) ++ post)) (ho:m + i.toNat * 1 = o):cs[o]? = some (.int k z):=by
 subst ho hm hcs
 have h0:=aX h
 have h1:=dn h
 rw [List.getElem?_append_right (by omega),List.getElem?_append_left (by rw [List.length_map]; omega)]
 have e:pre.length + i.toNat * 1 - pre.length = i.toNat:=by omega
 rw [e,List.getElem?_map,sT h]
 rfl
theorem qR {cs post:List CP} {l:List Int} {k:IntKind} {i z:Int} {m o:Nat} (pre:List CP) (h:a8 l i = some z) (hm:pre.length = m) (hcs:cs = pre ++ (l.map (.int k) ++ post)) (ho:m + i.toNat * 1 = o):o < cs.length:=by
 subst ho hm hcs
 have h0:=aX h
 have h1:=dn h
 rw [List.length_append,List.length_append,List.length_map]
 omega
theorem oK {cs cs' post:List CP} {l l':List Int} {k:IntKind} {i z x:Int} {m o:Nat} (pre:List CP) (h:a8 l i = some z) (hm:pre.length = m) (hcs:cs = pre ++ (l.map (.int k) ++ post)) (hl:l' = l.set i.toNat x)
  (hcs':cs' = pre ++ (l'.map (.int k) ++ post)) (ho:m + i.toNat * 1 = o):cs.set o (.int k x) = cs':=by
 subst ho hm hcs hcs' hl
 have h0:=aX h
 have h1:=dn h
 rw [List.set_append_right _ _ (by omega),List.set_append_left _ _ (by rw [List.length_map]; omega)]
 have e:pre.length + i.toNat * 1 - pre.length = i.toNat:=by omega
 rw [e,List.map_set]
section
variable {P:Program} {t:TypeId}
def dy (P:Program) (d:Nat) (t:TypeId) (m:Nat) (ps qs:List CP) (r:Bool):Prop :=
 ∀ (h:PH) (w:World) (A B:Array Value) (off:Nat),aG h ps ((A.toList.drop off).take m) → aG h qs ((B.toList.drop off).take m) → ps.length = m → qs.length = m →
  ∃ a b,(part t A off).run P w = .ok a w ∧ (part t B off).run P w = .ok b w ∧ (Op.equalIn d t a b).run P w = .ok r w
theorem iv (ht:c9 P t) {A:Array Value} {off:Nat} {v:Value} (hv:A[off]? = some v) (w:World):(part t A off).run P w = .ok v w:=by
 obtain ⟨d,hd,ha⟩:=ht.und
 unfold part
 rw [Sem.run_bind,jJ hd,Result.andThen,ha]
 simp [hv]
theorem gr {m:Nat} (ht:eX P t m) {A:Array Value} {off:Nat} (w:World):(part t A off).run P w = .ok (.agg (A.extract off (off + m))) w:=by
 obtain ⟨d,hd,ha⟩:=ht.und
 obtain ⟨i,hi,hn⟩:=ht.size
 unfold part
 rw [Sem.run_bind,jJ hd,Result.andThen,ha]
 simp [run_sizeOf hi,hn]
theorem oo {h:PH} {p:CP} {A:Array Value} {off:Nat} (hr:aG h [p] ((A.toList.drop off).take 1)):∃ u,A[off]? = some u ∧ p.rel h u:=by
 obtain ⟨u,hu,hp⟩:=hr.get 0 p rfl
 rw [List.getElem?_take] at hu
 simp at hu
 exact ⟨u,hu,hp⟩
theorem dy.one {d:Nat} {p q:CP} {r:Bool} (ht:c9 P t) (hrun:∀ (h:PH) (u v:Value) (w:World),p.rel h u → q.rel h v → (Op.equalIn d t u v).run P w = .ok r w):dy P d t 1 [p] [q] r:=by
 intro h w A B off ha hb _ _
 obtain ⟨u,hu,hp⟩:=oo ha
 obtain ⟨v,hv,hq⟩:=oo hb
 exact ⟨u,v,iv ht hu w,iv ht hv w,hrun h u v w hp hq⟩
theorem dy.int {d:Nat} {k k':IntKind} {a b:Int} (h1:c9 P t) (hu:P.underlying t = some (.int k')):dy P (d + 1) t 1 [.int k a] [.int k b] (decide (a = b)) :=
 .one h1 fun h u v w hp hq=>by rw [hp.1,hq.1,run_equalIn_int w d t k k' a b hu,mQ]
theorem dy.str {d:Nat} {a b:Str} (h1:c9 P t) (hu:P.underlying t = some .string):dy P (d + 1) t 1 [.str a] [.str b] (decide (a = b)) :=
 .one h1 fun h u v w hp hq=>by rw [hp.1,hq.1,run_equalIn_string w d t _ _ hu,tZ]
theorem dy.bool {d:Nat} {a b:Bool} (h1:c9 P t) (hu:P.underlying t = some .bool):dy P (d + 1) t 1 [.bool a] [.bool b] (a == b) :=
 .one h1 fun h u v w hp hq=>by rw [show u = .bool a from hp,show v = .bool b from hq,run_equalIn_bool' w d t a b hu]
def EqFs (P:Program) (d:Nat) (ps qs:List CP):List Field → List Bool → Prop
 | [],[]=>True
 | f :: fs,r :: rs=>f.name ≠ "_" ∧ (∃ m p' q',(ps.drop f.offset).take m = p' ∧ (qs.drop f.offset).take m = q' ∧ p'.length = m ∧ q'.length = m ∧ dy P d f.type m p' q' r) ∧ EqFs P d ps qs fs rs
 | _,_=>False
theorem se {d:Nat} {h:PH} {ps qs:List CP} {A B:Array Value} (hp:aG h ps A.toList) (hq:aG h qs B.toList) (w:World):∀ {fs:List Field} {rs:List Bool},EqFs P d ps qs fs rs → (Op.eqFields d A B fs).run P w = .ok (rs.all id) w
 | [],[],_=>rfl
 | [],_ :: _,h=>h.elim
 | _ :: _,[],h=>h.elim
 | f :: fs,r :: rs,⟨h1,⟨m,p',q',e1,e2,l1,l2,he⟩,h3⟩=>by
  have ih:=se hp hq w h3
  obtain ⟨a,b,r1,r2,r3⟩:=he h w A B f.offset (by rw [← e1]; exact aU.take (aU.drop hp _) _) (by rw [← e2]; exact aU.take (aU.drop hq _) _) l1 l2
  unfold Op.eqFields
  rw [if_pos h1]
  rw [Sem.run_bind,r1,Result.andThen,Sem.run_bind,r2,Result.andThen,Sem.run_bind,r3,Result.andThen]
  cases r
  ·simp
  ·simpa using ih
theorem fq {A:Array Value} {off m:Nat}:(A.extract off (off + m)).toList = (A.toList.drop off).take m:=by
 rw [Array.toList_extract]
 show (A.toList.drop off).take (off + m - off) = _
 rw [Nat.add_sub_cancel_left]
theorem dy.struct {d m:Nat} {ps qs:List CP} {fs:Array Field} {rs:List Bool} {r:Bool} (ta:eX P t m) (hh:P.stoodInHeld t = false) (hu:P.underlying t = some (.struct fs)) (hc:EqFs P d ps qs fs.toList rs) (hr:rs.all id = r):dy P (d + 1) t m ps qs r:=by
 intro h w A B off ha hb l1 l2
 have hf:P.fieldsOf t = fs:=by simp [Program.fieldsOf,hu]
 refine ⟨_,_,gr ta w,gr ta w,?_⟩
 rw [run_equalIn_struct w d t _ _ (by rw [hf]; exact hu) hh,hf,se (by rw [fq]; exact ha) (by rw [fq]; exact hb) w hc,hr]
theorem ou {d k':Nat} {e:TypeId} {k ke:IntKind} {h:PH} {l l':List Int} {A B:Array Value} (h1:c9 P e) (hu:P.underlying e = some (.int ke)) (ha:aG h (l.map (.int k)) A.toList) (hb:aG h (l'.map (.int k)) B.toList) (hl:l.length = l'.length) (w:World) :
  ∀ (is:List Nat),(∀ i ∈ is,i < l.length) → (Op.eqItems (d + 1) e 1 A B is).run P w = .ok (is.all fun i=>decide (l[i]? = l'[i]?)) w
 | [],_=>rfl
 | i :: is,hi=>by
  have ih:=ou (d:=d) (k':=k') h1 hu ha hb hl w is (fun j hj=>hi j (by simp [hj]))
  have hi0:=hi i (by simp)
  obtain ⟨u,hu1,hu2⟩:=ha.get i (.int k l[i]) (by rw [List.getElem?_map,List.getElem?_eq_getElem hi0]; rfl)
  obtain ⟨v,hv1,hv2⟩:=hb.get i (.int k (l'[i]'(by omega))) (by rw [List.getElem?_map,List.getElem?_eq_getElem (by omega)]; rfl)
  have p1:=iv h1 (A:=A) (off:=i * 1) (v:=u) (by rw [Nat.mul_one]; simpa using hu1) w
  have p2:=iv h1 (A:=B) (off:=i * 1) (v:=v) (by rw [Nat.mul_one]; simpa using hv1) w
  have p3:(Op.equalIn (d + 1) e u v).run P w = .ok (decide (l[i] = l'[i]'(by omega))) w:=by rw [hu2.1,hv2.1,run_equalIn_int w d e k ke _ _ hu,mQ]
  unfold Op.eqItems
  rw [Sem.run_bind,p1,Result.andThen,Sem.run_bind,p2,Result.andThen,Sem.run_bind,p3,Result.andThen]
  have e0:decide (l[i]? = l'[i]?) = decide (l[i] = l'[i]'(by omega)):=by
   rw [List.getElem?_eq_getElem hi0,List.getElem?_eq_getElem (show i < l'.length by omega),Bool.eq_iff_iff]; simp
  rw [List.all_cons,e0]
  cases decide (l[i] = l'[i]'(by omega))
  ·simp
  ·simpa using ih
theorem dy.arr {d m:Nat} {e:TypeId} {k ke:IntKind} {l l':List Int} (ta:eX P t m) (hu:P.underlying t = some (.array m e)) (he:c9 P e) (hue:P.underlying e = some (.int ke)):dy P (d + 2) t m (l.map (.int k)) (l'.map (.int k)) (decide (l = l')):=by
 intro h w A B off ha hb l1 l2
 rw [List.length_map] at l1 l2
 obtain ⟨i,hi,hs⟩:=he.size
 refine ⟨_,_,gr ta w,gr ta w,?_⟩
 have hc:P.cellsOf e = 1:=by simp [Program.cellsOf,hi,hs]
 rw [run_equalIn_array w (d + 1) _ _ hu hi,hc,ou (k':=0) he hue (by rw [fq]; exact ha) (by rw [fq]; exact hb) (by omega) w _ (fun j hj=>by rw [l1]; simpa using hj)]
 congr 1
 rw [Bool.eq_iff_iff]
 simp only [List.all_eq_true,List.mem_range,decide_eq_true_eq]
 refine ⟨fun hh=>List.ext_getElem? fun j=>?_,fun e j _=>by rw [e]⟩
 by_cases hj:j < m
 ·exact hh j hj
 ·rw [List.getElem?_eq_none (by omega),List.getElem?_eq_none (by omega)]
theorem lU.vr {m:Nat} {ps qs:List CP} {r:Bool} (hg:P.eqGuardType P.depth t = false) (ta:eX P t m) (hp:dy P 10000 t m ps qs r) (l1:ps.length = m) (l2:qs.length = m):lU P t ps qs r :=
 ⟨hg,fun h cs ds w ha hb=>by
  have e1:cs.toList.length = m:=by rw [← l1]; exact ha.length.symm
  have e2:ds.toList.length = m:=by rw [← l2]; exact hb.length.symm
  obtain ⟨a,b,p1,p2,p3⟩:=hp h w cs ds 0 (by rw [List.drop_zero,List.take_of_length_le (by omega)]; exact ha) (by rw [List.drop_zero,List.take_of_length_le (by omega)]; exact hb) l1 l2
  rw [gr ta w] at p1 p2
  have x1:cs.extract 0 (0 + m) = cs:=by
   apply Array.ext'
   rw [fq,List.drop_zero,List.take_of_length_le (by omega)]
  have x2:ds.extract 0 (0 + m) = ds:=by
   apply Array.ext'
   rw [fq,List.drop_zero,List.take_of_length_le (by omega)]
  rw [x1] at p1
  rw [x2] at p2
  injection p1 with p1
  injection p2 with p2
  subst p1 p2
  exact p3⟩
theorem dy.cast {d m:Nat} {ps qs:List CP} {r r':Bool} (h:dy P d t m ps qs r) (e:r = r'):dy P d t m ps qs r':=e ▸ h
end
structure px (P:Program) (t:TypeId) (size:Nat) (zs:List CP):Prop where
 info:∃ it z m e ie,P.info? t = some it ∧ it.zero = some z ∧ cvs z.cells.toList = some zs ∧ P.underlying t = some (.array m e) ∧ P.info? e = some ie ∧ ie.size = size
section
variable {P:Program} {TB:a6} {E:Env TB} {n:Sh} {s s':St} {dst:Option Nat} {t ty yt:TypeId} {pos:String} {after:Array Edge} {g:Option (Nat × Bool)} {x y c:Operand} {ops:Array Oper} {l:List Oper} {Q:bX} {cd:Code} {o:Oper}
theorem dX {size:Nat} {zs qs:List CP} {parts:Array (Nat × Operand)} {cps:List (Nat × List CP)} (ht:px P t size zs) (hp:jd s parts.toList = some cps) (hf:n3 (fun i=>some (i * size,size)) zs cps = some qs) :
  bA P E n ⟨dst,.build t parts,ty,pos,after,g⟩ s (s.put n dst (.b (.agg qs))) :=
 bA.val (o:=⟨dst,.build t parts,ty,pos,after,g⟩) fun ac w h ρ hw hs=>by
  obtain ⟨it,z,m,e,ie,h1,h2,h3,h4,h5,h6⟩:=ht.info
  obtain ⟨cs,hc1,hc2⟩:=k9 hs (fun i=>some (i * size,size)) parts.toList cps zs qs z.cells hp hf (iq h h3)
  refine ⟨.agg cs,?_,cs,rfl,hc2⟩
  have hb:P.built t (parts.map fun (i,x)=>(i,ac.eval x)).toList = some cs:=by
   simp only [Program.built,h1,h4,h2,h5,h6]
   rw [← hc1]
   simp
  have:=run_build (P:=P) w t _ cs hb
  simp only [execOp]
  simp [this]
theorem ae.mN {α β:Type} (en:β → List CP) {a:β} {K:β → Option α} {r:α} (h:fv a K = some r) (hg:o.guard = none) (h1:bA P E n o s (s.put n o.dst (.b (.agg (en a)))))
  (H:∀ z,K z = some r → ae P E n ops l (s.put n o.dst (.b (.agg (en z)))) Q):ae P E n ops (o :: l) s Q:=ae.cons hg h1 (H a h)
end
def pY (k:IntKind) (a b:Int):Int:=k.wrap ((BitVec.ofInt k.bits a ^^^ BitVec.ofInt k.bits b).toNat:Int)
section
variable {P:Program} {TB:a6} {E:Env TB} {n:Sh} {s s':St} {dst:Option Nat} {t ty yt:TypeId} {pos:String} {after:Array Edge} {g:Option (Nat × Bool)} {x y c:Operand} {k:IntKind} {a b:Int} {ops:Array Oper} {l:List Oper} {Q:bX} {cd:Code} {o:Oper}
theorem op_bits {op:BinOp} {f:Int → Int → Int} (hf:∀ a b,oz k (f a b)) (hop:(do eqGuard op t x y (.int k a) (.int k b); binOp op t (.int k a) (.int k b):Sem Value) = (pure (.int k (f a b)):Sem Value)) (hx:s.ev x = some (.b (.one (.int k a)))) (hy:s.ev y = some (.b (.one (.int k b)))) :
  bA P E n ⟨dst,.binOp op t x y yt,ty,pos,after,g⟩ s (s.put n dst (.b (.one (.int k (f a b))))) :=
 bA.val (o:=⟨dst,.binOp op t x y yt,ty,pos,after,g⟩) fun ac w h ρ hw hs=>by
  refine ⟨.int k (f a b),?_,rfl,hf _ _⟩
  simp only [execOp,(dx hs hx).1,(dx hs hy).1]
  rw [Sem.run_bind,hop]; rfl
theorem sO (hx:s.ev x = some (.b (.one (.int k a)))) (hy:s.ev y = some (.b (.one (.int k b)))):bA P E n ⟨dst,.binOp .xor t x y yt,ty,pos,after,g⟩ s (s.put n dst (.b (.one (.int k (pY k a b))))) :=
 op_bits (f:=pY k) (fun _ _=>o1 _ _) (by simp [eqGuard,binOp,Op.intBits,pY]) hx hy
end
end Go.Sk
namespace Go.Sk
set_option linter.unusedSimpArgs false
set_option linter.unusedVariables false
open Go Go.BigFrame
section
variable {P:Program} {TB:a6} {E:Env TB} {n:Sh} {s s' s2:St} {l:List Oper} {L:List Oper} {Q:bX} {o:Oper}
def vc (L:List Oper) (i j:Nat):Bool:=match L[i]? with
 | some o=>o.after.toList.any fun e=>Region.binds .any e && e.on == j
 | none=>false
theorem nO {L:List Oper} {i j:Nat} (h:vc L i j = true):∃ o,L[i]? = some o ∧ ∃ e,e ∈ o.after ∧ Region.binds .any e = true ∧ e.on = j:=by
 unfold vc at h
 split at h
 ·next o ho=>
  simp only [List.any_eq_true,Bool.and_eq_true,beq_iff_eq] at h
  obtain ⟨e,he,h1,h2⟩:=h
  exact ⟨o,ho,e,by simpa using he,h1,h2⟩
 ·simp at h
theorem lr:∀ (L:List Bool) (i:Nat) (hi:i < L.length),L[i] = false → ((L.set i true).filter id).length = (L.filter id).length + 1
 | [],i,hi,_=>by simp at hi
 | b :: L,0,hi,hb=>by simp at hb; subst hb; simp
 | b :: L,i + 1,hi,hb=>by
  have:=lr L i (by simpa using hi) (by simpa using hb)
  cases b <;> simp [this]
def tp (L:List Oper) (listed:Array Bool):Prop:=∀ (i:Nat) (o:Oper),L[i]? = some o → listed.getD i false = true → ∀ e ∈ o.after,Region.binds .any e = true → listed.getD e.on false = true
theorem anyG (Inv:Array Bool → Act → World → Prop) (hed:gJ 0 L = true)
  (hstep:∀ (listed:Array Bool) a w (i:Nat) (o:Oper),listed.size = L.length → tp L listed → L[i]? = some o → listed.getD i false = false → (∀ e ∈ o.after,Region.binds .any e = true → listed.getD e.on false = true) → Inv listed a w →
   ∀ K:Act → World → Prop,(∀ a' w',Inv (listed.setIfInBounds i true) a' w' → K a' w') → if Region.wanted o (yielded L.toArray a.tmps) then o.wp P a w K Q else K (a.put o.dst undef) w)
  (hend:∀ (listed:Array Bool) a w,listed.size = L.length → (∀ j,j < L.length → listed.getD j false = true) → Inv listed a w → Q .normal a w) :
  ∀ (fuel:Nat) (listed:Array Bool) (a:Act) (w:World),listed.size = L.length → tp L listed → L.length ≤ fuel + (listed.toList.filter id).length → Inv listed a w → wpAny P .any L.toArray Q fuel listed a w:=by
 have hready:∀ (listed:Array Bool),listed.size = L.length → Region.ready .any L.toArray listed = [] → ∀ j,j < L.length → listed.getD j false = true:=by
  intro listed hsz hr j hj
  induction j using Nat.strongRecOn with
  | _ j ih=>
   cases hb:listed.getD j false with
   | true=>rfl
   | false=>
    exfalso
    have hjr:j ∈ Region.ready .any L.toArray listed:=by
     rw [mem_ready]
     refine ⟨?_,L[j],by simp [hj],fun e he hbd=>?_⟩
     ·have:j < listed.size:=by omega
      simp only [Array.getD_eq_getD_getElem?,Array.getElem?_eq_getElem this,Option.getD_some] at hb ⊢
      exact hb
     ·have:=kv hed j L[j] (by simp) e he hbd
      exact ih e.on (by omega) (by omega)
    rw [hr] at hjr
    simp at hjr
 intro fuel
 induction fuel with
 | zero=>
  intro listed a w hsz hcl hf hR
  have hall:∀ j,j < L.length → listed.getD j false = true:=by
   intro j hj
   have hfl:(listed.toList.filter id).length = listed.toList.length:=by
    have:=List.length_filter_le id listed.toList
    simp at this ⊢; omega
   have hall2:=List.filter_eq_self.1 (List.filter_sublist.eq_of_length hfl)
   have hjs:j < listed.size:=by omega
   have:=hall2 listed[j] (by simp)
   simp only [Array.getD_eq_getD_getElem?,Array.getElem?_eq_getElem hjs,Option.getD_some]
   simpa using this
  have hr:Region.ready .any L.toArray listed = []:=by
   apply List.eq_nil_iff_forall_not_mem.2
   intro j hj
   rw [mem_ready] at hj
   obtain ⟨hj1,o,ho,_⟩:=hj
   have hjl:j < L.length:=by simpa using (Array.getElem?_eq_some_iff.1 ho).1
   have hjs:j < listed.size:=by omega
   have:=hall j hjl
   simp only [Array.getD_eq_getD_getElem?,Array.getElem?_eq_getElem hjs,Option.getD_some] at this hj1
   rw [this] at hj1; simp at hj1
  exact ⟨hr,hend listed a w hsz hall hR⟩
 | succ fuel ih=>
  intro listed a w hsz hcl hf hR
  refine ⟨fun hr=>hend listed a w hsz (hready listed hsz hr) hR,fun i hi=>?_⟩
  rw [mem_ready] at hi
  obtain ⟨hi1,o,ho,hdeps⟩:=hi
  have hol:L[i]? = some o:=by simpa using ho
  have hil:i < L.length:=(List.getElem?_eq_some_iff.1 hol).1
  have his:i < listed.size:=by omega
  have hi1':listed[i] = false:=by simpa [Array.getD_eq_getD_getElem?,Array.getElem?_eq_getElem his] using hi1
  have hi2:listed.getD i false = false:=by simp [Array.getD_eq_getD_getElem?,Array.getElem?_eq_getElem his,hi1']
  have key:=hstep listed a w i o hsz hcl hol hi2 hdeps hR (wpAny P .any L.toArray Q fuel (listed.setIfInBounds i true)) (fun a' w' hR'=>by
   have hset:∀ q,listed.getD q false = true → (listed.setIfInBounds i true).getD q false = true:=fun q hq=>by
    by_cases e:q = i
    ·subst e; simp [Array.getD_eq_getD_getElem?,his]
    ·rw [getD_set_ne false (fun h=>e h.symm)]; exact hq
   refine ih _ a' w' (by simpa using hsz) ?_ ?_ hR'
   ·intro j p hj hlj e he hb
    by_cases e':j = i
    ·subst e'
     rw [hol] at hj; cases hj
     exact hset _ (hdeps e he hb)
    ·rw [getD_set_ne false (fun h=>e' h.symm)] at hlj
     exact hset _ (hcl j p hj hlj e he hb)
   ·have:=lr listed.toList i (by simpa using his) (by simpa using hi1')
    rw [Array.toList_setIfInBounds]
    omega)
  unfold wpOp
  rw [ho]
  dsimp only
  split
  ·rename_i hw'
   simp only [hw',if_true] at key
   exact .inl key
  ·rename_i hw'
   simp only [hw'] at key
   exact key
def jf (l:List Oper) (j:Nat) (sl:List (Nat × SV)):List (Nat × SV):=sl.filter fun p=>(List.range l.length).all fun i=>((l[i]?).bind (·.dst)) != some p.1 || i == j || vc l i j
def oL (l:List Oper) (listed:Array Bool) (d:Nat):Bool:=(List.range l.length).any fun i=>listed.getD i false && ((l[i]?).bind (·.dst)) == some d
def stE (s:St) (l:List Oper) (Fs:List SV) (listed:Array Bool):St:=⟨(s.slots.filter fun p=>!oL l listed p.1) ++ aZ (fun i=>listed.getD i false) 0 l Fs,s.own⟩
def mn (P:Program) {TB:a6} (E:Env TB) (n:Sh) (ops:Array Oper) (s:St) (l:List Oper) (Fs:List SV):Nat → List Oper → List SV → Prop
 | _,[],[]=>True
 | j,o :: r,x :: xs=>(∀ extra,cx P E n ops o ⟨dL l Fs o.after.toList ++ (jf l j s.slots ++ extra),s.own⟩ (St.put n o.dst x ⟨dL l Fs o.after.toList ++ (jf l j s.slots ++ extra),s.own⟩)) ∧ mn P E n ops s l Fs (j + 1) r xs
 | _,_,_=>False
theorem pB {ops:Array Oper} {Fs:List SV} {l0:List Oper}:∀ {r:List Oper} {xs:List SV} {j:Nat},mn P E n ops s l0 Fs j r xs → r.length = xs.length ∧ ∀ (i:Nat) (o:Oper),r[i]? = some o → ∃ x,xs[i]? = some x ∧ ∀ extra,cx P E n ops o ⟨dL l0 Fs o.after.toList ++ (jf l0 (j + i) s.slots ++ extra),s.own⟩ (St.put n o.dst x ⟨dL l0 Fs o.after.toList ++ (jf l0 (j + i) s.slots ++ extra),s.own⟩)
 | [],[],j,_=>⟨rfl,fun i o h=>by simp at h⟩
 | o :: r,x :: xs,j,h=>by
  obtain ⟨h1,h2⟩:=h
  obtain ⟨h3,h4⟩:=pB h2
  refine ⟨by simp [h3],fun i o' ho=>?_⟩
  cases i with
  | zero=>simp at ho; subst ho; exact ⟨x,by simp,h1⟩
  | succ i=>
   obtain ⟨y,hy,hz⟩:=h4 i o' (by simpa using ho)
   exact ⟨y,by simpa using hy,by rw [← Nat.add_assoc,Nat.add_right_comm]; exact hz⟩
 | [],_ :: _,j,h=>h.elim
 | _ :: _,[],j,h=>h.elim
def n9 (P:Program) {TB:a6} (E:Env TB) (n:Sh) (ops:Array Oper):List Oper → St → St → Prop
 | [],s,s'=>s = s'
 | o :: r,s,s'=>∃ s1,cx P E n ops o s s1 ∧ n9 P E n ops r s1 s'
def th (L:List Oper) (q:Nat):Bool:=(List.range q).all fun j=>vc L q j || (List.range q).any fun i=>decide (j < i) && vc L i j
def okX (l tl:List Oper) (m:Nat):Bool:=gJ 0 (l ++ tl) && iJ (gb l) && (gb l).all (· < m) && (List.range tl.length).all fun k=>th (l ++ tl) (l.length + k)
theorem covered {listed:Array Bool} {q:Nat} {o:Oper} (hcl:tp L listed) (hq:L[q]? = some o) (hd:∀ e ∈ o.after,Region.binds .any e = true → listed.getD e.on false = true) (hc:th L q = true):∀ j,j < q → listed.getD j false = true:=by
 simp only [th,List.all_eq_true,List.mem_range,Bool.or_eq_true,List.any_eq_true,Bool.and_eq_true,decide_eq_true_eq] at hc
 have key:∀ m j,q - j = m → j < q → listed.getD j false = true:=by
  intro m
  induction m using Nat.strongRecOn with
  | _ m ihm=>
   intro j hm hj
   rcases hc j hj with h | ⟨i,hi,hji,hp⟩
   ·obtain ⟨o',ho',e,he,hb,hon⟩:=nO h
    rw [hq] at ho'; cases ho'
    have:=hd e he hb
    rwa [hon] at this
   ·obtain ⟨o',ho',e,he,hb,hon⟩:=nO hp
    have h1:=ihm (q - i) (by omega) i rfl hi
    have:=hcl i o' ho' h1 e he hb
    rwa [hon] at this
 exact fun j hj=>key _ j rfl hj
def InvX (P:Program) {TB:a6} (E:Env TB) (n:Sh) (ops:Array Oper) (s:St) (l tl:List Oper) (Fs:List SV) (s2:St) (listed:Array Bool) (a:Act) (w:World):Prop :=
 ((∀ j,l.length ≤ j → listed.getD j false = false) ∧ R E n (stE s l Fs listed) a w) ∨
 ∃ k sk,k < tl.length ∧ (∀ j,j ≤ l.length + k → listed.getD j false = true) ∧ (∀ j,l.length + k < j → listed.getD j false = false) ∧ n9 P E n ops (tl.drop (k + 1)) sk s2 ∧ R E n sk a w
theorem pZ.X {ops:List Oper} (l tl:List Oper) (hops:l ++ tl = ops) (Fs:List SV) (ks kos:List Nat) (hok:okX l tl n.n = true) (hst:mn P E n ops.toArray s l Fs 0 l Fs)
  (htl:n9 P E n ops.toArray tl ⟨(s.slots.filter fun p=>!(gb l).contains p.1) ++ aZ (fun _=>true) 0 l Fs,s.own⟩ s2) (hs:s2.keep ks kos = s') (h:Fin E n .normal s' Q):pZ P E n ops.toArray s Q:=by
 subst hops
 simp only [okX,Bool.and_eq_true,List.all_eq_true,List.mem_range] at hok
 obtain ⟨⟨⟨hedges,hnd⟩,hlt⟩,hcov⟩:=hok
 obtain ⟨hlen,hsteps⟩:=pB (Fs:=Fs) hst
 intro a w hr
 have hgetl:∀ {i:Nat} {o:Oper},(l ++ tl)[i]? = some o → i < l.length → l[i]? = some o:=fun h hi=>by rwa [List.getElem?_append_left hi] at h
 have hS0:∀ {listed:Array Bool} {a:Act} {w:World},(∀ j,j < l.length → listed.getD j false = true) → R E n (stE s l Fs listed) a w → R E n ⟨(s.slots.filter fun p=>!(gb l).contains p.1) ++ aZ (fun _=>true) 0 l Fs,s.own⟩ a w:=by
  intro listed a w hall hR
  obtain ⟨h1,h2,h,ρ,hw,hs⟩:=hR
  refine ⟨h1,h2,h,ρ,hw,fun k x hx=>hs k x ?_⟩
  simp only [stE,List.mem_append] at hx ⊢
  rcases hx with hx | hx
  ·left
   simp only [List.mem_filter,Bool.not_eq_true',List.contains_eq_mem,decide_eq_false_iff_not] at hx ⊢
   refine ⟨hx.1,?_⟩
   cases hh:oL l listed k with
   | false=>rfl
   | true=>
    exfalso
    simp only [oL,List.any_eq_true,List.mem_range,Bool.and_eq_true,beq_iff_eq,Option.bind_eq_some_iff] at hh
    obtain ⟨i,hi,_,o',ho',hd'⟩:=hh
    exact hx.2 (jF ho' hd')
  ·right
   rw [cA] at hx ⊢
   obtain ⟨j,oj,hj,hd,hF,_⟩:=hx
   exact ⟨j,oj,hj,hd,hF,by rw [Nat.zero_add]; exact hall j (List.getElem?_eq_some_iff.1 hj).1⟩
 refine anyG (L:=l ++ tl) (InvX P E n (l ++ tl).toArray s l tl Fs s2) hedges ?_ ?_ _ _ _ _ (by simp) ?_ (by simp) (.inl ⟨fun j hj=>?_,?_⟩)
 ·
  intro listed a w i o hsz hcl hio hil hdeps hInv K hK
  have hin:i < (l ++ tl).length:=(List.getElem?_eq_some_iff.1 hio).1
  have his:i < listed.size:=by omega
  have hset:∀ q,listed.getD q false = true → (listed.setIfInBounds i true).getD q false = true:=fun q hq=>by
   by_cases e:q = i
   ·subst e; simp [Array.getD_eq_getD_getElem?,his]
   ·rw [getD_set_ne false (fun h=>e h.symm)]; exact hq
  have hseti:(listed.setIfInBounds i true).getD i false = true:=by simp [Array.getD_eq_getD_getElem?,his]
  by_cases hi:i < l.length
  ·
   have hInv':(∀ j,l.length ≤ j → listed.getD j false = false) ∧ R E n (stE s l Fs listed) a w:=by
    rcases hInv with h | ⟨k,sk,hk,hyes,_⟩
    ·exact h
    ·have:=hyes i (by omega); rw [hil] at this; simp at this
   obtain ⟨hno,hR⟩:=hInv'
   have hol:=hgetl hio hi
   obtain ⟨x,hx,hstep⟩:=hsteps i o hol
   rw [Nat.zero_add] at hstep
   have hnohit:∀ p,p ∈ jf l i s.slots → p ∈ s.slots ∧ oL l listed p.1 = false:=by
    intro p hp
    simp only [jf,List.mem_filter,List.all_eq_true,List.mem_range,Bool.or_eq_true,bne_iff_ne,beq_iff_eq] at hp
    refine ⟨hp.1,?_⟩
    cases hh:oL l listed p.1 with
    | false=>rfl
    | true=>
     exfalso
     simp only [oL,List.any_eq_true,List.mem_range,Bool.and_eq_true,beq_iff_eq] at hh
     obtain ⟨q,hq,hlq,hdq⟩:=hh
     rcases hp.2 q hq with (h | h) | h
     ·exact h hdq
     ·subst h; rw [hil] at hlq; simp at hlq
     ·obtain ⟨o',ho',e,he,hb,hon⟩:=nO h
      have:=hcl q o' (by rw [List.getElem?_append_left hq]; exact ho') hlq e he hb
      rw [hon,hil] at this; simp at this
   have hR2:R E n ⟨dL l Fs o.after.toList ++ (jf l i s.slots ++ ((s.slots.filter fun p=>!oL l listed p.1) ++ aZ (fun i=>listed.getD i false) 0 l Fs)),s.own⟩ a w:=by
    obtain ⟨h1,h2,h,ρ,hw,hs⟩:=hR
    refine ⟨h1,h2,h,ρ,hw,fun k y hy=>hs k y ?_⟩
    rcases List.mem_append.1 hy with hy | hy
    ·obtain ⟨e,he,hb,o',ho',hd',hF'⟩:=nf hy
     refine List.mem_append.2 (.inr ?_)
     rw [cA]
     exact ⟨e.on,o',ho',hd',hF',by rw [Nat.zero_add]; exact hdeps e (by simpa using he) hb⟩
    ·rcases List.mem_append.1 hy with hy | hy
     ·obtain ⟨h1,h2⟩:=hnohit _ hy
      exact List.mem_append.2 (.inl (List.mem_filter.2 ⟨h1,by simp [h2]⟩))
     ·exact hy
   refine hstep _ a w hR2 K Q (fun a' w' hR'=>hK a' w' (.inl ⟨fun j hj=>?_,?_⟩))
   ·rw [getD_set_ne false (by omega)]; exact hno j hj
   ·obtain ⟨h1,h2,h,ρ,hw,hs⟩:=hR'
    have hown:∀ sl,(St.put n o.dst x ⟨sl,s.own⟩).own = s.own:=fun sl=>by
     cases hd:o.dst with
     | none=>rfl
     | some d=>simp only [St.put,St.set]; split <;> rfl
    rw [hown] at hw
    refine ⟨h1,h2,h,ρ,hw,fun k y hy=>?_⟩
    have hold:(k,y) ∈ (s.slots.filter fun p=>!oL l listed p.1) ++ aZ (fun i=>listed.getD i false) 0 l Fs → (∀ d,o.dst = some d → k ≠ d) → ∃ v,a'.tmps[k]? = some v ∧ y.rel h ρ v:=by
     intro hm hkd
     refine hs k y ?_
     have hm':(k,y) ∈ dL l Fs o.after.toList ++ (jf l i s.slots ++ ((s.slots.filter fun p=>!oL l listed p.1) ++ aZ (fun i=>listed.getD i false) 0 l Fs)):=List.mem_append.2 (.inr (List.mem_append.2 (.inr hm)))
     cases hd:o.dst with
     | none=>simp only [St.put]; exact hm'
     | some d=>
      simp only [St.put,St.set]
      split
      ·exact List.mem_cons_of_mem _ (fN hm' (hkd d hd))
      ·exact hm'
    simp only [stE] at hy
    rcases List.mem_append.1 hy with hy | hy
    ·obtain ⟨hy1,hy2⟩:=List.mem_filter.1 hy
     have hy2':oL l (listed.setIfInBounds i true) k = false:=by simpa using hy2
     refine hold (List.mem_append.2 (.inl (List.mem_filter.2 ⟨hy1,?_⟩))) (fun d hd e=>?_)
     ·cases hh:oL l listed k with
      | false=>rfl
      | true=>
       exfalso
       simp only [oL,List.any_eq_true,List.mem_range,Bool.and_eq_true,beq_iff_eq] at hh
       obtain ⟨q,hq,hlq,hdq⟩:=hh
       have:oL l (listed.setIfInBounds i true) k = true:=by
        simp only [oL,List.any_eq_true,List.mem_range,Bool.and_eq_true,beq_iff_eq]
        exact ⟨q,hq,hset q hlq,hdq⟩
       rw [hy2'] at this; simp at this
     ·subst e
      have:oL l (listed.setIfInBounds i true) k = true:=by
       simp only [oL,List.any_eq_true,List.mem_range,Bool.and_eq_true,beq_iff_eq]
       exact ⟨i,hi,hseti,by rw [hol]; exact hd⟩
      rw [hy2'] at this; simp at this
    ·rw [cA] at hy
     obtain ⟨j,oj,hj,hd',hF',hl'⟩:=hy
     rw [Nat.zero_add] at hl'
     by_cases hji:j = i
     ·subst hji
      rw [hol] at hj; cases hj
      rw [hx] at hF'; cases hF'
      refine hs k y ?_
      have hk:k < n.n:=by
       have:=hlt k (jF hol hd')
       simpa using this
      simp only [hd',St.put,St.set,hk,if_true]
      exact List.mem_cons_self
     ·have hl2:listed.getD j false = true:=by
       rw [getD_set_ne false (fun e=>hji e.symm)] at hl'
       exact hl'
      refine hold (List.mem_append.2 (.inr ?_)) (fun d hd e=>?_)
      ·rw [cA]
       exact ⟨j,oj,hj,hd',hF',by rw [Nat.zero_add]; exact hl2⟩
      ·subst e
       exact hji (pn hnd hj hol hd' hd)
  ·
   have hit':i - l.length < tl.length:=by simp only [List.length_append] at hin; omega
   have hcv:=covered hcl hio hdeps (by have:=hcov (i - l.length) hit'; rwa [show l.length + (i - l.length) = i by omega] at this)
   have hoi:tl[i - l.length]? = some o:=by rwa [List.getElem?_append_right (by omega)] at hio
   rcases hInv with ⟨hno,hR⟩ | ⟨k,sk,hk,hyes,hno,hT,hR⟩
   ·have ei:i = l.length:=by
     rcases Nat.lt_or_ge l.length i with h | h
     ·have:=hcv l.length h; rw [hno _ (Nat.le_refl _)] at this; simp at this
     ·omega
    have hR0:=hS0 (fun j hj=>hcv j (by omega)) hR
    rw [show i - l.length = 0 by omega] at hoi
    have h0:0 < tl.length:=by omega
    have hdr:tl.drop 0 = o :: tl.drop (0 + 1):=by
     rw [List.drop_eq_getElem_cons h0]
     congr 1
     rw [List.getElem?_eq_getElem h0] at hoi
     simpa using hoi
    have hT:n9 P E n (l ++ tl).toArray (tl.drop 0) ⟨(s.slots.filter fun p=>!(gb l).contains p.1) ++ aZ (fun _=>true) 0 l Fs,s.own⟩ s2:=by rw [List.drop_zero]; exact htl
    rw [hdr] at hT
    obtain ⟨s1,hs1,hr1⟩:=hT
    refine hs1 a w hR0 K Q (fun a' w' hR'=>hK a' w' (.inr ⟨0,s1,h0,fun j hj=>?_,fun j hj=>?_,hr1,hR'⟩))
    ·by_cases e:j = i
     ·subst e; exact hseti
     ·exact hset j (hcv j (by omega))
    ·rw [getD_set_ne false (by omega)]; exact hno j (by omega)
   ·have ei:i = l.length + (k + 1):=by
     rcases Nat.lt_or_ge (l.length + (k + 1)) i with h | h
     ·have:=hcv _ h; rw [hno _ (by omega)] at this; simp at this
     ·rcases Nat.lt_or_ge i (l.length + (k + 1)) with h' | h'
      ·have:=hyes i (by omega); rw [hil] at this; simp at this
      ·omega
    rw [show i - l.length = k + 1 by omega] at hoi
    have hdr:tl.drop (k + 1) = o :: tl.drop (k + 1 + 1):=by
     have hlt2:k + 1 < tl.length:=by omega
     rw [List.drop_eq_getElem_cons hlt2]
     congr 1
     rw [List.getElem?_eq_getElem hlt2] at hoi
     simpa using hoi
    rw [hdr] at hT
    obtain ⟨s1,hs1,hr1⟩:=hT
    refine hs1 a w hR K Q (fun a' w' hR'=>hK a' w' (.inr ⟨k + 1,s1,by omega,fun j hj=>?_,fun j hj=>?_,hr1,hR'⟩))
    ·by_cases e:j = i
     ·subst e; exact hseti
     ·exact hset j (hyes j (by omega))
    ·rw [getD_set_ne false (by omega)]; exact hno j (by omega)
 ·
  intro listed a w hsz hall hInv
  rcases hInv with ⟨hno,hR⟩ | ⟨k,sk,hk,hyes,hno,hT,hR⟩
  ·have e:tl = []:=by
    cases htl':tl with
    | nil=>rfl
    | cons o0 r=>
     have:=hall l.length (by rw [htl']; simp)
     rw [hno _ (Nat.le_refl _)] at this; simp at this
   subst e
   have hR0:=hS0 (fun j hj=>hall j (by simpa using hj)) hR
   have e2:_ = s2:=htl
   rw [e2] at hR0
   exact h a w (hs ▸ hR0.keep ks kos)
  ·have e:k + 1 = tl.length:=by
    rcases Nat.lt_or_ge (k + 1) tl.length with h' | h'
    ·have:=hall (l.length + (k + 1)) (by simp only [List.length_append]; omega)
     rw [hno _ (by omega)] at this; simp at this
    ·omega
   rw [e,List.drop_length] at hT
   have e2:sk = s2:=hT
   subst e2
   exact h a w (hs ▸ hR.keep ks kos)
 ·intro i p hi hl
  exfalso
  simp only [Array.getD_eq_getD_getElem?,Array.getElem?_replicate] at hl
  split at hl <;> simp at hl
 ·simp only [Array.getD_eq_getD_getElem?,Array.getElem?_replicate]
  split <;> simp
 ·obtain ⟨h1,h2,h,ρ,hw,hsl⟩:=hr.drawn
  refine ⟨h1,h2,h,ρ,hw,fun k x hx=>hsl k x ?_⟩
  simp only [stE] at hx
  rcases List.mem_append.1 hx with hx | hx
  ·exact (List.mem_filter.1 hx).1
  ·rw [cA] at hx
   obtain ⟨j,o,hj,_,_,hl⟩:=hx
   simp only [Nat.zero_add,Array.getD_eq_getD_getElem?,Array.getElem?_replicate] at hl
   split at hl <;> simp at hl
theorem ab.wm {rid:Nat} {ops:List Oper} (hm:P.follows .mixedOrders = true) (l tl:List Oper) (hops:l ++ tl = ops) (Fs:List SV) (ks kos:List Nat) (hok:okX l tl n.n = true) (hst:mn P E n ops.toArray s l Fs 0 l Fs)
  (htl:n9 P E n ops.toArray tl ⟨(s.slots.filter fun p=>!(gb l).contains p.1) ++ aZ (fun _=>true) 0 l Fs,s.own⟩ s2) (hs:s2.keep ks kos = s') (h:Fin E n .normal s' Q):ab P E n (.region rid ops.toArray true) s Q:=ab.ofA hm (pZ.X l tl hops Fs ks kos hok hst htl hs h)
theorem ab.jD {rid:Nat} {ops:List Oper} (hm:P.follows .mixedOrders = true) (m:Nat) (Fs:List SV) (ks kos:List Nat) (hok:okX (ops.take m) (ops.drop m) n.n = true) (hst:mn P E n ops.toArray s (ops.take m) Fs 0 (ops.take m) Fs)
  (htl:n9 P E n ops.toArray (ops.drop m) ⟨(s.slots.filter fun p=>!(gb (ops.take m)).contains p.1) ++ aZ (fun _=>true) 0 (ops.take m) Fs,s.own⟩ s2) (hs:s2.keep ks kos = s') (h:Fin E n .normal s' Q):ab P E n (.region rid ops.toArray true) s Q :=
 ab.wm hm _ _ (List.take_append_drop m ops) Fs ks kos hok hst htl hs h
theorem ab.bE {rid:Nat} {ops:List Oper} {y:Code} (hm:P.follows .mixedOrders = true) (m:Nat) (Fs:List SV) (ks kos:List Nat) (hok:okX (ops.take m) (ops.drop m) n.n = true) (hst:mn P E n ops.toArray s (ops.take m) Fs 0 (ops.take m) Fs)
  (htl:n9 P E n ops.toArray (ops.drop m) ⟨(s.slots.filter fun p=>!(gb (ops.take m)).contains p.1) ++ aZ (fun _=>true) 0 (ops.take m) Fs,s.own⟩ s2) (hs:s2.keep ks kos = s') (h:ab P E n y s' Q):ab P E n (.region rid ops.toArray true) s (Exit.then (y.wp P Q) Q) :=
 ab.jD hm m Fs ks kos hok hst htl hs (Fin.then h)
end
end Go.Sk
namespace Go.Sk
set_option linter.unusedSimpArgs false
set_option linter.unusedVariables false
open Go Go.BigFrame Go.RowKit
section
variable {P:Program} {TB:a6} {E:Env TB} {n:Sh} {s s' s0 s2:St} {dst:Option Nat} {t ty yt:TypeId} {pos:String} {after:Array Edge} {g:Option (Nat × Bool)} {x y c:Operand} {ops:Array Oper} {o:Oper}
theorem cx.dO (i k size:Nat) (T:TypeId) (hi:s.get i = some (.b (.one .nil))) (hz:0 < size) (hfx:n.fix.contains k = false) (h:cx P E n ops o ⟨(i,.b (.row k)) :: del i (cw k s.slots),ins k (.row T size []) s.own⟩ s2) (hnu:eK k s.own = true:=by rfl):cx P E n ops o s s2 :=
 fun a w hr=>h a w (hr.dO hi hz hfx hnu)
theorem cx.gz (i size:Nat) (hi:s.get i = some (.b (.one .nil))) (hz:0 < size) (h:cx P E n ops o ⟨(i,.b (.one (.sl size []))) :: del i s.slots,s.own⟩ s2):cx P E n ops o s s2 :=
 fun a w hr=>h a w (hr.gz hi hz)
theorem cx.cO (k:Nat) {size:Nat} {T:TypeId} {es:List (List CP)} (hk:lk s.own k = some (.row T size es)) (h:cx P E n ops o ⟨ja k (.sl size es) s.slots,kF k (.sl size es) (del k s.own)⟩ s2):cx P E n ops o s s2:=fun a w hr=>h a w (hr.cO hk)
theorem cx.uY (k:Nat) {T:TypeId} {ps:List CP} (hk:lk s.own k = some (.box T ps)) (h:cx P E n ops o ⟨s.slots,ins k (.bM T (ps.map .one)) s.own⟩ s2):cx P E n ops o s s2:=fun a w hr=>h a w (hr.uY k hk)
theorem cx.qE (kos:List Nat) {s1:St} (h:cx P E n ops o s s1) (e:(⟨s1.slots,mM kos s1.own⟩:St) = s2):cx P E n ops o s s2:=fun a w hr K Q hk=>h a w hr K Q fun a' w' hr'=>hk a' w' (by
 rw [← e]
 obtain ⟨hd,hn,h,ρ,hw,hs⟩:=hr'
 exact ⟨hd,hn,h,ρ,hw.sub fun _ hp=>iD hp,hs⟩)
theorem R.ux {a:Act} {w:World} (hr:R E n s a w) (k:Nat) {T:TypeId} {size:Nat} {es:List (List CP)} (hk:lk s.own k = some (.row T size es)):R E n ⟨s.slots,ins k (.ew T size es) s.own⟩ a w:=by
 obtain ⟨hd,hn,h,ρ,hw,hs⟩:=hr
 exact ⟨hd,hn,h,ρ,hw.repl hk (hw.owned k _ (bw hk)).1,hs⟩
theorem R.uw {a:Act} {w:World} (hr:R E n s a w) (k:Nat) {T:TypeId} {size:Nat} {es:List (List CP)} (hk:lk s.own k = some (.ew T size es)):R E n ⟨s.slots,ins k (.row T size es) s.own⟩ a w:=by
 obtain ⟨hd,hn,h,ρ,hw,hs⟩:=hr
 exact ⟨hd,hn,h,ρ,hw.repl hk (hw.owned k _ (bw hk)).1,hs⟩
theorem ae.ux {l:List Oper} {Q:bX} (k:Nat) {T:TypeId} {size:Nat} {es:List (List CP)} (hk:lk s.own k = some (.row T size es)) (h:ae P E n ops l ⟨s.slots,ins k (.ew T size es) s.own⟩ Q):ae P E n ops l s Q:=fun a w hr=>h a w (hr.ux k hk)
theorem ae.uw {l:List Oper} {Q:bX} (k:Nat) {T:TypeId} {size:Nat} {es:List (List CP)} (hk:lk s.own k = some (.ew T size es)) (h:ae P E n ops l ⟨s.slots,ins k (.row T size es) s.own⟩ Q):ae P E n ops l s Q:=fun a w hr=>h a w (hr.uw k hk)
theorem ab.uw {cd:Code} {Q:bX} (k:Nat) {T:TypeId} {size:Nat} {es:List (List CP)} (hk:lk s.own k = some (.ew T size es)) (h:ab P E n cd ⟨s.slots,ins k (.row T size es) s.own⟩ Q):ab P E n cd s Q:=fun a w hr=>h a w (hr.uw k hk)
theorem ab.ux {cd:Code} {Q:bX} (k:Nat) {T:TypeId} {size:Nat} {es:List (List CP)} (hk:lk s.own k = some (.row T size es)) (h:ab P E n cd ⟨s.slots,ins k (.ew T size es) s.own⟩ Q):ab P E n cd s Q:=fun a w hr=>h a w (hr.ux k hk)
theorem Fin.ux {e:Exit} {Q:bX} (k:Nat) {T:TypeId} {size:Nat} {es:List (List CP)} (hk:lk s.own k = some (.row T size es)) (h:Fin E n e ⟨s.slots,ins k (.ew T size es) s.own⟩ Q):Fin E n e s Q:=fun a w hr=>h a w (hr.ux k hk)
theorem Fin.uw {e:Exit} {Q:bX} (k:Nat) {T:TypeId} {size:Nat} {es:List (List CP)} (hk:lk s.own k = some (.ew T size es)) (h:Fin E n e ⟨s.slots,ins k (.row T size es) s.own⟩ Q):Fin E n e s Q:=fun a w hr=>h a w (hr.uw k hk)
theorem cx.ux (k:Nat) {T:TypeId} {size:Nat} {es:List (List CP)} (hk:lk s.own k = some (.row T size es)) (h:cx P E n ops o ⟨s.slots,ins k (.ew T size es) s.own⟩ s2):cx P E n ops o s s2:=fun a w hr=>h a w (hr.ux k hk)
theorem cx.uw (k:Nat) {T:TypeId} {size:Nat} {es:List (List CP)} (hk:lk s.own k = some (.ew T size es)) (h:cx P E n ops o ⟨s.slots,ins k (.row T size es) s.own⟩ s2):cx P E n ops o s s2:=fun a w hr=>h a w (hr.uw k hk)
end
theorem wK {r:BV → Value → Prop} {a:BV} {vals:List Value} (h:aU r [a] vals):∃ v,vals = [v] ∧ r a v:=by
 cases h with
 | cons h1 h2=>cases h2; exact ⟨_,rfl,h1⟩
section
variable {P:Program} {TB:a6} {E:Env TB} {n:Sh} {s:St} {dst:Option Nat} {t ty yt:TypeId} {pos:String} {after:Array Edge} {g:Option (Nat × Bool)} {x y c:Operand}
end
end Go.Sk
namespace Go.Sk
set_option linter.unusedSimpArgs false
set_option linter.unusedVariables false
open Go Go.ChangeShapes Go.WideShapes Go.ChangeAt Go.RowKit
theorem dt.arr {P:Program} {t el:TypeId} {n:Nat} {k:IntKind} {α:Type} {e:α → List CP} (g:List Int → α) (ht:P.underlying t = some (.array n el)) (hel:P.underlying el = some (.int k)) (hce:P.cellsOf el = 1) (hct:P.cellsOf t = n)
  (hl:∀ a,(e a).length = n) (hg:∀ l:List Int,l.length = n → e (g l) = l.map (.int k)):dt P t e where
 len a:=by rw [hl,hct]
 op {H enc W sp held fuel cs x} _ h:=by
  obtain ⟨xs,m,_,_,hcl,hxl,hv⟩:=DataW.trod_array ht h
  rw [hct] at hcl
  rw [hce] at hv
  obtain ⟨l,hll,hp⟩:=fG (p:=fun i z=>cs[i]? = some (.int k z) ∧ oz k z) n fun i hi=>by
   have h1:=hv i hi
   rw [List.getElem?_eq_getElem (by omega)] at h1
   obtain ⟨z,hz,_,hw⟩:=DataW.trod_int hel h1
   have h0:((cs.drop (i * 1)).take 1)[0]? = some (.int k z):=by rw [hz]; rfl
   rw [List.getElem?_take,List.getElem?_drop] at h0
   simp at h0
   exact ⟨z,h0,qA hw⟩
  refine ⟨g l,?_⟩
  rw [hg l hll]
  refine aU.oV (by simp; omega) fun i a b ha hb=>?_
  rw [List.getElem?_map] at ha
  simp only [Option.map_eq_some_iff] at ha
  obtain ⟨z,hz,rfl⟩:=ha
  obtain ⟨h1,h2⟩:=hp i z hz
  rw [hb] at h1
  exact ⟨Option.some.inj h1,h2⟩
theorem cZ.nil {h:PH} {w:World}:cZ [] h w:=fun g cs hm=>by cases hm
theorem cZ.cons {P:Program} {TB:a6} {W:World} {name:String} {k:IntKind} {zs:List Int} {g:Nat} (hg:P.globalNamed name = some g) (h:Lib.TabIs P W name k zs) (h0:0 < zs.length) (r:cZ TB (Go.Sk.full W) W):cZ ((g,zs.map fun z=>Value.int k z) :: TB) (Go.Sk.full W) W:=fun g' cs hm=>by
 rcases List.mem_cons.1 hm with e | hm
 ·obtain ⟨rfl,rfl⟩:=Prod.mk.inj e
  unfold Lib.TabIs World.var? at h
  rw [hg] at h
  simp only [Option.bind_some] at h
  split at h
  ·next cs T fz hh=>
   have:=Option.some.inj h
   subst this
   refine ⟨by simpa using h0,fun o v hv=>?_,T,fz,hh⟩
   show look W g' o = some v
   refine gv ?_ (by
    have hm:=List.mem_of_getElem? hv
    obtain ⟨z,_,rfl⟩:=List.mem_map.1 hm
    rfl)
   simp only [World.cell?,hh]
   simpa using hv
  ·simp at h
 ·exact r g' cs hm
end Go.Sk
namespace Go.Sk
open Go Go.Proofs
section
variable {P:Program} {TB:a6} {E:Env TB} {n:Sh} {ops:Array Oper} {l:List Oper} {s:St} {Q:bX} {c:Code}
def St.only (s' s:St):St:=s.keep (s'.slots.map (·.1)) (s'.own.map (·.1))
theorem ae.ai {y:Code} (s':St) (hs:s'.only s = s') (h:ab P E n y s' Q):ae P E n ops [] s (Exit.then (y.wp P Q) Q):=ae.nilK _ _ hs h
theorem ae.ag (s':St) (hs:s'.only s = s') (h:ae P E n ops l s' Q):ae P E n ops l s Q:=ae.keep _ _ hs h
theorem ab.ag (s':St) (hs:s'.only s = s') (h:ab P E n c s' Q):ab P E n c s Q:=ab.keep _ _ hs h
theorem Fin.ag {e:Exit} (s':St) (hs:s'.only s = s') (h:Fin E n e s' Q):Fin E n e s Q:=Fin.keep _ _ hs h
end
section
variable {P:Program} {TB:a6} {E:Env TB} {n:Sh} {ops:Array Oper} {l:List Oper} {s s':St} {Q:bX} {o:Oper} {dst:Option Nat} {t ty:TypeId} {pos:String} {after:Array Edge} {g:Option (Nat × Bool)} {x:Operand}
theorem Oc (h1:bA P E n o s s') (h2:ae P E n ops l s' Q) (hg:o.guard = none:=by rfl):ae P E n ops (o :: l) s Q:=ae.cons hg h1 h2
theorem cx.p (h:bA P E n o s s') (hg:o.guard = none:=by rfl):cx P E n ops o s s':=.plain hg h
theorem om {z:SV} (hx:s.ev x = some z:=by rfl):bA P E n ⟨dst,.move x,ty,pos,after,g⟩ s (s.put n dst z):=aP hx
theorem oa {z:SV} (hx:s.ev x = some z:=by rfl):bA P E n ⟨dst,.assign x,ty,pos,after,g⟩ s (s.put n dst z):=bR hx
theorem lp {k off:Nat} {T:TypeId} {ps qs:List CP} {m:Nat} (ht:eX P t m) (hx:s.ev x = some (.b (.ptr k off)):=by rfl) (hk:lk s.own k = some (.box T ps):=by rfl) (hp:(ps.drop off).take m = qs:=by rfl) (hq:qs.length = m:=by rfl) :
  bA P E n ⟨dst,.load t x,ty,pos,after,g⟩ s (s.put n dst (.b (.agg qs))):=bo ht hx hk hp hq
theorem eZ {j t:Nat} {b:Bool} {z:BV} (gd':Bool) (ks:List Nat) (hc:gd' = true → dp 99 ks s.slots) (h1:gd' = true → bA P E n o (s.iZ 99 ks) ((s.iZ 99 ks).put n o.dst (.b z))) (h2:ae P E n ops l (s.put n o.dst (.opt gd' z)) Q)
  (hg:o.guard = some (j,true):=by rfl) (hj:(ops[j]?).bind (·.dst) = some t:=by rfl) (hb:s.get t = some (.b (.one (.bool b))):=by rfl) (hgd:b = gd':=by rfl):ae P E n ops (o :: l) s Q :=
 ae.kY gd' 99 ks (.plain hb) ((ga _).trans hgd) hg hj hc h1 h2
theorem qF {j t:Nat} {b:Bool} {z:BV} (gd':Bool) (ks:List Nat) (hc:gd' = true → dp 99 ks s.slots) (h1:gd' = true → bA P E n o (s.iZ 99 ks) ((s.iZ 99 ks).put n o.dst (.b z))) (h2:ae P E n ops l (s.put n o.dst (.opt gd' z)) Q)
  (hg:o.guard = some (j,false):=by rfl) (hj:(ops[j]?).bind (·.dst) = some t:=by rfl) (hb:s.get t = some (.b (.one (.bool b))):=by rfl) (hgd:(!b) = gd':=by rfl):ae P E n ops (o :: l) s Q :=
 ae.kY gd' 99 ks (.plain hb) ((dD _).trans hgd) hg hj hc h1 h2
end
abbrev Pt (k:Nat) (o:Nat):SV:=.b (.ptr k o)
end Go.Sk
namespace Go.Sk
set_option linter.unusedSimpArgs false
set_option linter.unusedVariables false
open Go Go.BigFrame
section
variable {P:Program} {TB:a6} {E:Env TB} {n:Sh} {s:St} {dst:Option Nat} {t ty yt:TypeId} {pos:String} {after:Array Edge} {g:Option (Nat × Bool)} {x y c:Operand}
theorem tF {o:Oper} {f:FuncId} {own_a:List (Nat × OC)} {args:List BV} {post:fS} (hspec:av P TB f own_a args post)
  (hrun:∀ (a:Act) (w:World) (h:PH) (ρ:RM),WR E n s.own h ρ w → aW h ρ s.slots a.tmps → ∃ vals:List Value,(execOp a.eval o).run P w = .ok (.enter f vals.toArray) w ∧ aU (fun (x:BV) v=>x.rel h ρ v) args vals)
  (hl:jZ s.own own_a) {a:Act} {w:World} (hr:R E n s a w) {next:Act → World → Prop} {Q:bX}
  (hnext:∀ own' res,post own' res → lP n own_a own' = true ∧ lO s.own own_a own' = true ∧ res.b6 own' = true ∧ ∀ a' w',R E n (s.aft n own_a own' o.dst res) a' w' → next a' w'):o.wp P a w next Q:=by
 obtain ⟨hdf,hn,h,ρ,hw,hs⟩:=hr
 obtain ⟨vals,hr0,hra⟩:=hrun a w h ρ hw hs
 unfold Oper.wp
 rw [hr0]
 show Calls P f _ w _
 have hla:=ln hl
 refine (hspec w h ρ _ hw.mH hw.agree (q4 hw hla (ku hl)) hra).mono ?_
 rintro e w' ⟨v,own',res,h',ρ',rfl,hp,hc,hres⟩
 obtain ⟨hok,hcl,hki,hnx⟩:=hnext own' res hp
 have hwc:=hw.call hla hc hok hcl
 refine hnx _ _ (R.put (s:=⟨mT own_a own' s.slots,np own' (jr own_a s.own)⟩) hdf hn hwc ?_ ?_)
 ·intro k x hx
  obtain ⟨h1,h2⟩:=ll hx
  obtain ⟨u,hu,hrel⟩:=hs k x h1
  refine ⟨u,hu,SV.mono hc.le (fun j hj=>?_) hrel⟩
  by_cases hin:j ∈ aI own'
  ·rw [gK hin]
   by_cases hia:j ∈ aE own_a
   ·exact hc.fixed j hia
   ·have:=h2 j hin hia; simp [this] at hj
  ·exact iN hin
 ·exact SV.mono (PH.le_refl _) (fun j hj=>gK (SV.bS hki hj)) hres
theorem sC {α β:Type} {r:α → β → Prop} {a:List α} {b:List β} {c:List α} {d:List β} (h:aU r a b) (h':aU r c d):aU r (a ++ c) (b ++ d):=h.append h'
end
end Go.Sk
namespace Go.Sk
set_option linter.unusedSimpArgs false
set_option linter.unusedVariables false
open Go Go.BigFrame
def l9 {α:Type}:List (Int × α) → Int → Option α
 | [],_=>none
 | (a,b) :: r,k=>if k = a then some b else l9 r k
def nk {α:Type}:List (Int × α) → Int → α → List (Int × α)
 | [],k,v=>[(k,v)]
 | (a,b) :: r,k,v=>if k = a then (a,v) :: r else (a,b) :: nk r k v
theorem nG {α:Type} (k j:Int) (v:α):∀ l:List (Int × α),l9 (nk l k v) j = if j = k then some v else l9 l j
 | []=>by unfold nk l9; rfl
 | (a,b) :: r=>by
  unfold nk
  by_cases h:k = a
  ·rw [if_pos h]
   subst h
   unfold l9
   split <;> rfl
  ·rw [if_neg h]
   unfold l9
   rw [nG k j v r]
   by_cases h2:j = a
   ·rw [if_pos h2,if_pos h2,if_neg (fun e=>h (by rw [← e,h2]))]
   ·rw [if_neg h2,if_neg h2]
def eM (kd:IntKind) (l:List (Int × BV)):List (CP × BV):=l.map fun p=>(.int kd p.1,p.2)
structure TyMap (P:Program) (t kt et:TypeId) (kd:IntKind) (z:CP):Prop where
 und:P.underlying t = some (.map kt et)
 key:P.underlying kt = some (.int kd)
 zero:∃ i v,P.info? et = some i ∧ i.zero = some v ∧ ∀ h,z.rel h v
section
variable {P:Program} {TB:a6} {E:Env TB} {n:Sh} {s:St} {dst:Option Nat} {t ty yt:TypeId} {pos:String} {after:Array Edge} {g:Option (Nat × Bool)} {x y c:Operand}
end
end Go.Sk
namespace Go.Sk
set_option linter.unusedSimpArgs false
set_option linter.unusedVariables false
open Go Go.BigFrame
section
variable {P:Program} {TB:a6} {E:Env TB} {n:Sh} {s s':St} {dst:Option Nat} {t ty yt:TypeId} {pos:String} {after:Array Edge} {g:Option (Nat × Bool)} {x y c:Operand} {ops:Array Oper} {l:List Oper} {Q:bX} {a b:Code}
theorem ae.ite {α:Type} {d:Bool} {A B:Option α} {r:α} (h:(if d = true then A else B) = some r) (h1:d = true → A = some r → ae P E n ops l s Q) (h2:d = false → B = some r → ae P E n ops l s Q):ae P E n ops l s Q:=by
 cases d
 ·exact h2 rfl h
 ·exact h1 rfl h
theorem ab.condT {k:Nat} (hs:s.get k = some (.b (.one (.bool true)))) (h:ab P E n a s Q):ab P E n (.cond (.tmp k) a b) s Q:=ab.cond hs (fun _=>h) (fun e=>by cases e)
theorem ab.condF {k:Nat} (hs:s.get k = some (.b (.one (.bool false)))) (h:ab P E n b s Q):ab P E n (.cond (.tmp k) a b) s Q:=ab.cond hs (fun e=>by cases e) (fun _=>h)
end
end Go.Sk
namespace Go.Sk
set_option linter.unusedSimpArgs false
set_option linter.unusedVariables false
open Go Go.ChangeShapes Go.WideShapes Go.ChangeAt Go.RowKit
def qc {H:Type}:Nat → DataW H → List Value
 | _,.lit (.int k n)=>[.int k n]
 | _,.lit (.string l)=>[.string ⟨⟨l⟩⟩]
 | n + 1,.agg ds=>(ds.map (qc n)).flatten
 | _,_=>[]
structure js (P:Program) (t:TypeId) (n:Nat):Prop where
 op:∀ {H:Type} {enc:TypeId × Value → H} {W:World} {sp:Nat → Bool} {held:Bool} {fuel:Nat} {cs:List Value} {x:DataW H × List MemPlace},DataW.trod enc P W 0 sp held fuel t cs = some x → qc n x.1 = cs
theorem js.int {P:Program} {t:TypeId} {k:IntKind} {n:Nat} (ht:P.underlying t = some (.int k)):js P t n where
 op h:=by obtain ⟨m,rfl,rfl,_⟩:=DataW.trod_int ht h; cases n <;> rfl
theorem js.str {P:Program} {t:TypeId} {n:Nat} (ht:P.underlying t = some .string):js P t n where
 op h:=by
  obtain ⟨s,rfl,rfl,_⟩:=DataW.trod_string ht h
  cases s with | mk d=>cases d; cases n <;> rfl
inductive ny (P:Program) (fs:Array Field) (T d:Nat):Nat → Nat → Prop where
 | nil {i:Nat} (hi:fs.size ≤ i):ny P fs T d i T
 | cons {i o:Nat} {f:Field} (hf:fs[i]? = some f) (ho:f.offset = o) (hr:js P f.type d) (h:ny P fs T d (i + 1) (o + P.cellsOf f.type)):ny P fs T d i o
theorem ny.op {P:Program} {fs:Array Field} {T d i o:Nat} (h:ny P fs T d i o) {H:Type} {enc:TypeId × Value → H} {W:World} {sp:Nat → Bool} {held:Bool} {n:Nat} {cs:List Value} {xs:List (DataW H × List MemPlace)} (hl:cs.length = T)
  (hx:xs.length = fs.size) (hv:∀ (j:Nat) (f:Field),fs[j]? = some f → DataW.trod enc P W 0 sp held n f.type ((cs.drop f.offset).take (P.cellsOf f.type)) = xs[j]?):((xs.drop i).map fun x=>qc d x.1).flatten = cs.drop o:=by
 induction h with
 | nil hi=>rw [List.drop_of_length_le (by omega),List.drop_of_length_le (by omega)]; rfl
 | @cons i o f hf ho hr h ih=>
  have hi:i < xs.length:=by
   rw [hx]
   exact (Array.getElem?_eq_some_iff.1 hf).1
  have h1:=hv i f hf
  rw [List.getElem?_eq_getElem hi] at h1
  have h2:=hr.op h1
  rw [List.drop_eq_getElem_cons hi,List.map_cons,List.flatten_cons,ih,h2,ho,← List.drop_drop,List.take_append_drop]
theorem js.struct {P:Program} {t:TypeId} {fs:Array Field} (ht:P.underlying t = some (.struct fs)) {d:Nat} (h:ny P fs (P.cellsOf t) d 0 0):js P t (d + 1) where
 op hd:=by
  obtain ⟨xs,m,_,rfl,hl,hlen,hf⟩:=DataW.trod_struct ht hd
  have:=h.op (xs:=xs) hl hlen hf
  simp only [qc,List.map_map]
  rw [List.drop_zero,List.drop_zero] at this
  exact this
theorem sg {sz:Nat}:∀ {n:Nat} {cs:List Value},cs.length = n * sz → ((List.range n).map fun i=>(cs.drop (i * sz)).take sz).flatten = cs
 | 0,cs,h=>by
  rw [Nat.zero_mul] at h
  rw [List.length_eq_zero_iff.1 h]; rfl
 | n + 1,cs,h=>by
  have h2:(cs.drop sz).length = n * sz:=by rw [List.length_drop,h,Nat.add_mul]; omega
  have ih:=sg h2
  rw [List.range_succ_eq_map,List.map_cons,List.flatten_cons,Nat.zero_mul,List.drop_zero,List.map_map]
  have e:((fun i=>(cs.drop (i * sz)).take sz) ∘ Nat.succ) = fun i=>((cs.drop sz).drop (i * sz)).take sz:=by
   funext i
   simp only [Function.comp,List.drop_drop,Nat.succ_mul,Nat.add_comm sz]
  rw [e,ih,List.take_append_drop]
theorem js.arr {P:Program} {t e:TypeId} {n d:Nat} (ht:P.underlying t = some (.array n e)) (hc:P.cellsOf t = n * P.cellsOf e) (he:js P e d):js P t (d + 1) where
 op {H enc W sp held fuel cs x} h:=by
  cases fuel with
  | zero=>simp [DataW.trod] at h
  | succ fuel=>
   simp only [DataW.trod,ht] at h
   split at h
   ·rename_i hl
    obtain ⟨xs,hm,rfl⟩:=Option.map_eq_some_iff.1 h
    have hxl:xs.length = n:=by simpa using Lib.mapM_length hm
    simp only [qc,List.map_map]
    have e1:(xs.map (qc d ∘ fun x=>x.1)) = (List.range n).map fun i=>(cs.drop (i * P.cellsOf e)).take (P.cellsOf e):=by
     refine List.ext_getElem? fun i=>?_
     by_cases hi:i < n
     ·obtain ⟨b,hb,hf⟩:=Lib.mapM_at hm i i (by simp [hi])
      rw [List.getElem?_map,hb,List.getElem?_map,List.getElem?_range hi]
      simp only [Option.map_some,Function.comp]
      rw [he.op hf]
     ·rw [List.getElem?_eq_none (by simp; omega),List.getElem?_eq_none (by simp; omega)]
    rw [e1,sg (by rw [hl,hc])]
   ·cases h
end Go.Sk
namespace Go.Sk
set_option linter.unusedSimpArgs false
set_option linter.unusedVariables false
open Go Go.BigFrame
variable {P:Program} {TB:a6} {E:Env TB} {n:Sh} {s:St} {dst:Option (Nat)} {t ty:TypeId} {pos:String} {after:Array Edge} {g:Option (Nat × Bool)} {x y:Operand}
theorem Reads.take {h:PH} {b o:Nat} {ps:List CP} (x:Reads h b o ps) (n:Nat):Reads h b o (ps.take n):=by
 intro j c hc
 rw [List.getElem?_take] at hc
 split at hc
 ·exact x j c hc
 ·cases hc
theorem oi {e:TypeId} {m size:Nat} {ps qs:List CP} {k:IntKind} {i:Int} (ht:tR P t e m size) (h0:0 ≤ i) (h1:i < m) (hx:s.ev x = some (.b (.aO ps))) (hy:s.ev y = some (.b (.one (.int k i)))) (hq:(ps.drop (i.toNat * size)).take size = qs) :
  bA P E n ⟨dst,.indexAddr t x y,ty,pos,after,g⟩ s (s.put n dst (.b (.aO qs))) :=
 bA.val (o:=⟨dst,.indexAddr t x y,ty,pos,after,g⟩) fun ac w h ρ hw hs=>by
  obtain ⟨b,o,hv,hr⟩:=(aR hs hx:BV.rel h ρ (.aO ps) _)
  obtain ⟨inf,hi,hsz⟩:=ht.info
  refine ⟨.pointer (some ⟨b,o + i.toNat * size,none⟩),?_,b,o + i.toNat * size,rfl,?_⟩
  ·simp only [execOp,hv,(dx hs hy).1]
   simp [kH ht.und hi hsz w b o k i h0 h1]
  ·rw [← hq]; exact (hr.drop _).take _
theorem ab.condFc {a b:Code} {Q:bX} (h:ab P E n b s Q):ab P E n (.cond (.const (.bool false)) a b) s Q:=fun ac w hr=>wp_cond_false rfl (h ac w hr)
end Go.Sk
namespace Go.Sk
set_option linter.unusedSimpArgs false
set_option linter.unusedVariables false
open Go Go.BigFrame Go.RowKit Go.Proofs Go.Shelf
variable {P:Program} {TB:a6} {ρ:Ren}
theorem jC {own:List (Nat × OC)} {w:World} {h:PH} {ρ:RM} (tb:cZ TB h w) (hag:kG h w) (hl:Lent own h ρ w):WR (⟨w,h,ρ,tb⟩:Env TB) ⟨0,aE own,aI own,[]⟩ own h ρ w:=by
 refine ⟨hag,PH.le_refl h,fun _ _ _=>rfl,Nat.le_refl _,fun _ _ _=>rfl,fun _ _=>rfl,rfl,rfl,?_,?_⟩
 ·rintro b ⟨k,hk,hb⟩ o
  obtain ⟨⟨k',c⟩,hm',rfl⟩:=List.mem_map.1 hk
  exact ((hl k' c hm').2.1 b (.inl hb)).2 o
 ·intro k c hc
  obtain ⟨h1,h3,h4⟩:=hl k c hc
  exact ⟨h1,fun b hb=>⟨.inr ⟨k,List.mem_map.2 ⟨(k,c),hc,rfl⟩,(h3 b hb).1⟩,(h3 b hb).2⟩,h4⟩
def sorted (zs:List Int):List Int:=zs.mergeSort fun x y=>decide (x ≤ y)
theorem r4 {h:PH} {zs:List Int} {xs:List Value} (hr:aG h (zs.map eI).flatten xs):xs = zs.map (Value.int .i64) ∧ ∀ z ∈ zs,oz .i64 z:=by
 have e:(zs.map eI).flatten = zs.map CP.i:=by
  clear hr
  induction zs with
  | nil=>rfl
  | cons z zs ih=>simp only [List.map_cons,List.flatten_cons,ih]; rfl
 rw [e] at hr
 clear e
 induction zs generalizing xs with
 | nil=>cases hr; exact ⟨rfl,fun z hz=>by cases hz⟩
 | cons z zs ih=>
  cases hr with
  | cons h1 t=>
   obtain ⟨e1,e2⟩:=ih t
   have h1':_ = Value.int .i64 z ∧ oz .i64 z:=h1
   refine ⟨by rw [h1'.1,e1]; rfl,fun y hy=>?_⟩
   rcases List.mem_cons.1 hy with rfl | hy
   ·exact h1'.2
   ·exact e2 y hy
theorem rO {h:PH} {zs:List Int} (H:∀ z ∈ zs,oz .i64 z):aG h (zs.map eI).flatten (zs.map (Value.int .i64)):=by
 induction zs with
 | nil=>exact .nil
 | cons z zs ih=>exact .cons ⟨rfl,H z (by simp)⟩ (ih fun y hy=>H y (by simp [hy]))
theorem uni_I (zs:List Int):cm 1 (zs.map eI):=bP fun _=>rfl
theorem l7 {w:World} {b:Nat} {f:Array Value → Array Value} {cur:Array Value} {T:TypeId} {fr:Nat × Nat} (hb:w.heap[b]? = some (.cells cur T fr)):(Sort.mapBlock w b f).heap[b]? = some (.cells (f cur) T fr):=by
 unfold Sort.mapBlock
 simp only [Array.getElem?_modify,if_pos rfl,hb,Option.map_some]
 rfl
theorem ik {w:World} {b c:Nat} {f:Array Value → Array Value} (h:c ≠ b):(Sort.mapBlock w b f).heap[c]? = w.heap[c]?:=by
 unfold Sort.mapBlock
 simp only [Array.getElem?_modify,if_neg (Ne.symm h)]
theorem p8 {d:List Int} {cur:Array Value} (h:d.length ≤ cur.size):(Sort.putCells (Value.int .i64) 0 d.toArray cur).toList.take d.length = d.map (Value.int .i64):=by
 apply List.ext_getElem?
 intro i
 unfold Sort.putCells
 rw [List.getElem?_take]
 by_cases hi:i < d.length
 ·rw [if_pos hi,Array.getElem?_toList,Array.getElem?_mapIdx,Array.getElem?_eq_getElem (by omega),Option.map_some,if_pos ⟨by omega,by simpa using hi⟩,List.getElem?_map,List.getElem?_eq_getElem hi,Option.map_some]
  simp [hi]
 ·rw [if_neg hi,List.getElem?_map,List.getElem?_eq_none (by omega)]; rfl
theorem nN {TB:a6} {E:Env TB} {n:Sh} {h:PH} {ρ:RM} {own:List (Nat × OC)} {w:World} (hw:WR E n own h ρ w) {k:Nat} {T:TypeId} {size:Nat} {es:List (List CP)} (hk:lk own k = some (.ew T size es)) :
  cm size es ∧ 0 < size ∧ ((ρ k = .slice none 0 0 ∧ es = []) ∨ ∃ b cap cur,ρ k = .slice (some ⟨b,0,none⟩) es.length cap ∧ w.heap[b]? = some (.cells cur T (0,0)) ∧ es.length ≤ cap ∧ cap ≤ maxLen ∧ cur.size = cap * size ∧
   aG h es.flatten (cur.toList.take (es.length * size))):=by
 obtain ⟨hu,hz,xs,⟨hl,how⟩,hr⟩:=(hw.owned k _ (bw hk)).1
 refine ⟨hu,hz,?_⟩
 rcases how with ⟨h1,he⟩ | ⟨b,cap,cur,h1,_,h3,h4,h5,h6,h7⟩
 ·exact .inl ⟨h1,by cases es <;> simp_all⟩
 ·exact .inr ⟨b,cap,cur,h1,h3,h4,h5,h6,by rw [h7]; exact hr⟩
theorem tE {w:World} {b:Nat} {cur:Array Value} {T:TypeId} {zs:List Int} (hb:w.heap[b]? = some (.cells cur T (0,0))) (ht:cur.toList.take zs.length = zs.map (Value.int .i64)):Sort.Holds (Value.int .i64) w b 0 zs.toArray:=by
 intro j hj
 have hj':j < zs.length:=by simpa using hj
 refine ⟨?_,?_⟩
 ·rw [dV hb,Nat.zero_add]
  have:=congrArg (·[j]?) ht
  simp only [List.getElem?_take,if_pos hj',List.getElem?_map,List.getElem?_eq_getElem hj',Option.map_some,Array.getElem?_toList] at this
  rw [this]; simp [hj']
 ·unfold World.frozen?
  rw [hb]; simp
end Go.Sk
namespace Go.Sk
set_option linter.unusedSimpArgs false
set_option linter.unusedVariables false
open Go Go.BigFrame
abbrev mJ:=List (Int × Int)
def pX (m:mJ) (k:Int):Int:=(l9 m k).getD 0
def fC (m:mJ) (k:Int):Bool:=(l9 m k).isSome
variable {P:Program} {TB:a6} {E:Env TB} {n:Sh} {s:St} {dst:Option Nat} {t ty yt:TypeId} {pos:String} {after:Array Edge} {g:Option (Nat × Bool)} {x y c:Operand}
end Go.Sk
namespace Go.Sk
set_option linter.unusedSimpArgs false
set_option linter.unusedVariables false
open Go Go.BigFrame
def CP.pm (m:mJ):CP:=⟨fun h v=>∃ b l,v = .map (some b) ∧ h b 0 = some (entV l) ∧ tP m l,fun hl ⟨b,l,h1,h2,h3⟩=>⟨b,l,h1,hl _ _ _ h2,h3⟩,fun ⟨b,l,h1,_⟩=>by rw [h1]; rfl⟩
variable {P:Program} {TB:a6} {E:Env TB} {n:Sh} {s:St} {dst:Option Nat} {t ty yt:TypeId} {pos:String} {after:Array Edge} {g:Option (Nat × Bool)} {x y c:Operand} {ops:Array Oper} {l:List Oper} {Q:bX} {cd:Code}
end Go.Sk
namespace Go.Sk
set_option linter.unusedSimpArgs false
set_option linter.unusedVariables false
open Go Go.BigFrame
variable {P:Program} {TB:a6} {E:Env TB} {n:Sh} {s:St} {dst:Option Nat} {t ty yt:TypeId} {pos:String} {after:Array Edge} {g:Option (Nat × Bool)} {x y c:Operand} {ops:Array Oper} {l:List Oper} {Q:bX} {cd:Code}
end Go.Sk
namespace Go.Sk
set_option linter.unusedSimpArgs false
set_option linter.unusedVariables false
open Go Go.BigFrame
def kU (o:Oper):Bool:=match o.op with
 | .defer _=>false
 | _=>true
theorem rS {o:Oper} (h:kU o = true):∀ c,o.op ≠ .defer c:=fun c e=>by simp [kU,e] at h
abbrev sD (l:Nat):Fence:=Fence.wide.inRound l
section
variable {P:Program} {TB:a6} {E:Env TB} {n:Sh} {ops:Array Oper} {is:List Nat} {s s':St} {Q:bX} {i:Nat} {o:Oper} {c x y:Code} {l₀:Nat}
theorem uI {F:Fence} (hf:F = Fence.wide ∨ ∃ l,F = sD l) {m:Nat} {row:String} {args:Array Value} {w:World} {R:Value → World → Prop} (h:Rows P row args w R):RowsIn F m P row args w R:=by
 intro c cs _
 obtain ⟨v,w',hr,hs⟩:=h c cs
 rcases hf with rfl | ⟨l,rfl⟩
 ·exact ⟨v,w',hr,stepsIn_wide.2 hs⟩
 ·exact ⟨v,w',hr,stepsIn_wide.2 hs⟩
theorem pP {F:Fence} (hf:F = Fence.wide ∨ ∃ l,F = sD l) {m:Nat} {f:FuncId} {args:Array Value} {w:World} {R:Ending → World → Prop} (h:Calls P f args w R):CallsIn F m P f args w R:=by
 rcases hf with rfl | ⟨l,rfl⟩
 ·exact callsIn_wide.2 h
 ·exact CallsIn.inRound l (callsIn_wide.2 h)
theorem lB {F:Fence} (hf:F = Fence.wide ∨ ∃ l,F = sD l) (hd:kU o = true) {a:Act} {w:World} {K K':Act → World → Prop} (hk:∀ a w,K a w → K' a w) (h:o.wp P a w K Q):o.wpIn F 0 P a w K' Q:=by
 have hdep:F.depth = none:=by rcases hf with rfl | ⟨l,rfl⟩ <;> rfl
 refine ⟨fun f _=>by rcases hf with rfl | ⟨l,rfl⟩ <;> trivial,?_⟩
 rw [Oper.semAt_eq _ _ _ (rS hd)]
 unfold Oper.wp at h
 generalize (execOp a.eval o).run P w = r at *
 have hdn:F.depth.isSome = true → 1 ≤ 0:=fun e=>by rw [hdep] at e; simp at e
 cases r with
 | ok nx w'=>
  cases nx with
  | value v=>exact hk _ _ h
  | skip=>exact hk _ _ h
  | defer d=>exact hk _ _ h
  | enter f args=>
   refine ⟨hdn,pP hf (Calls.mono h fun e w'' he=>?_)⟩
   cases e with
   | returned v=>exact hk _ _ he
   | panicked ch=>exact he
   | outgrown=>exact he
  | row row args=>exact ⟨hdn,uI hf (Rows.mono h fun _ _ he=>hk _ _ he)⟩
  | _=>exact h.elim
 | halt q w'=>cases q <;> first | exact h | exact h.elim
theorem k6 {F:Fence} (hf:F = Fence.wide ∨ ∃ l,F = sD l) (hd:∀ (i:Nat) (o:Oper),ops[i]? = some o → kU o = true) (hQ:¬ LetsOut Q):∀ (is:List Nat) (a:Act) (w:World),wpOps P ops Q is a w → wpOpsIn F 0 P ops Q is a w
 | [],a,w,h=>h
 | i :: is,a,w,h=>by
  simp only [wpOps] at h
  simp only [wpOpsIn]
  cases ho:ops[i]? with
  | none=>simp only [ho] at h; exact k6 hf hd hQ is a w h
  | some o=>
   simp only [ho] at h
   simp only
   split
   ·rename_i hw
    simp only [hw,if_true] at h
    rcases h with h | h
    ·exact lB hf (hd i o ho) (fun a w=>k6 hf hd hQ is a w) h
    ·exact absurd h.2 hQ
   ·rename_i hw
    simp only [hw] at h
    refine ⟨fun f _=>by rcases hf with rfl | ⟨l,rfl⟩ <;> trivial,k6 hf hd hQ is _ w h⟩
def a7 (P:Program) {TB:a6} (E:Env TB) (n:Sh) (F:Fence) (c:Code) (s:St) (Q:bX):Prop:=¬ LetsOut Q → ∀ a w,R E n s a w → c.wpIn F 0 P Q a w
variable {F:Fence}
theorem iM {K:Act → World → Prop} (h:¬ LetsOut Q):¬ LetsOut (Exit.then K Q):=fun ⟨a,w,hq⟩=>h ⟨a,w,hq⟩
theorem uP {id:Nat} (h:¬ LetsOut Q):¬ LetsOut (Exit.inBlock id Q):=fun ⟨a,w,hq⟩=>h ⟨a,w,hq⟩
theorem a7.keep (ks kos:List Nat) (hs:s.keep ks kos = s') (h:a7 P E n F c s' Q):a7 P E n F c s Q:=fun hq a w hr=>h hq a w (hs ▸ hr.keep ks kos)
theorem a7.seq (h:a7 P E n F x s (Exit.then (y.wpIn F 0 P Q) Q)):a7 P E n F (.seq x y) s Q:=fun hq a w hr=>wpIn_seq (h (iM hq) a w hr)
theorem a7.skip (h:Fin E n .normal s Q):a7 P E n F .skip s Q:=fun _ a w hr=>wpIn_skip (h a w hr)
theorem a7.ret (h:Fin E n .ret s Q):a7 P E n F .ret s Q:=fun _ a w hr=>wpIn_ret (h a w hr)
theorem a7.exit {id:Nat} (h:Fin E n (.exit id) s Q):a7 P E n F (.exit id) s Q:=fun _ a w hr=>wpIn_exit (h a w hr)
theorem a7.block {id:Nat} (h:a7 P E n F c s (Exit.inBlock id Q)):a7 P E n F (.block id c) s Q:=fun hq a w hr=>wpIn_block (h (uP hq) a w hr)
theorem a7.cond {t:Nat} {b:Bool} (hs:s.get t = some (.b (.one (.bool b)))) (h1:b = true → a7 P E n F x s Q) (h2:b = false → a7 P E n F y s Q):a7 P E n F (.cond (.tmp t) x y) s Q:=by
 intro hq a w hr
 obtain ⟨hdf,hn,h,ρ,hw,hsl⟩:=id hr
 have:a.eval (.tmp t) = .bool b:=aR hsl (o:=.tmp t) hs
 exact wpIn_cond_split this (fun e=>h1 e hq a w hr) (fun e=>h2 e hq a w hr)
theorem a7.ite {α:Type} {t:Nat} {b:Bool} {p q:Option α} {r:α} (h:(if b = true then p else q) = some r) (hs:s.get t = some (.b (.one (.bool b)))) (h1:b = true → p = some r → a7 P E n F x s Q) (h2:b = false → q = some r → a7 P E n F y s Q):a7 P E n F (.cond (.tmp t) x y) s Q :=
 a7.cond hs (fun e=>h1 e (by rw [if_pos e] at h; exact h)) (fun e=>h2 e (by rw [if_neg (by simp [e])] at h; exact h))
theorem a7.aa {id:Nat} {l:List Oper} (hf:F = Fence.wide ∨ ∃ l,F = sD l) (h:ae P E n l.toArray l s Q) (hd:l.all kU = true:=by rfl):a7 P E n F (.region id l.toArray false) s Q:=by
 intro hq a w hr
 refine wpIn_region ?_
 have:=ir (P:=P) (ops:=l.toArray) (Q:=Q) l 0 (fun j=>by simp) a w (h a w hr)
 refine k6 hf (fun i o ho=>?_) hq _ a w (by simpa [List.range_eq_range'] using this)
 exact List.all_eq_true.1 hd o (by simpa using List.mem_of_getElem? (by simpa using ho))
theorem a7.ofA {id:Nat} {l:List Oper} (hf:F = Fence.wide ∨ ∃ l,F = sD l) (hm:P.follows .mixedOrders = true) (h:pZ P E n l.toArray s Q) (hd:l.all kU = true:=by rfl):a7 P E n F (.region id l.toArray true) s Q:=by
 intro hq a w hr
 refine wpIn_region_draw fun t=>?_
 refine k6 hf (fun i o ho=>?_) hq _ a _ ?_
 ·exact List.all_eq_true.1 hd o (by simpa using List.mem_of_getElem? (by simpa using ho))
 ·simp only [Region.schedule,hm,Bool.true_or,if_true]
  exact wpAny_sound _ t _ a _ (h a w hr)
theorem a7.jD {rid:Nat} {ops:List Oper} (hf:F = Fence.wide ∨ ∃ l,F = sD l) (hm:P.follows .mixedOrders = true) (m:Nat) (Fs:List SV) (ks kos:List Nat) (hok:okX (ops.take m) (ops.drop m) n.n = true) (hst:mn P E n ops.toArray s (ops.take m) Fs 0 (ops.take m) Fs)
  {s2:St} (htl:n9 P E n ops.toArray (ops.drop m) ⟨(s.slots.filter fun p=>!(gb (ops.take m)).contains p.1) ++ aZ (fun _=>true) 0 (ops.take m) Fs,s.own⟩ s2) (hs:s2.keep ks kos = s') (h:Fin E n .normal s' Q) (hd:ops.all kU = true:=by rfl):a7 P E n F (.region rid ops.toArray true) s Q :=
 a7.ofA hf hm (pZ.X _ _ (List.take_append_drop m ops) Fs ks kos hok hst htl hs h) hd
theorem a7.jE {rid:Nat} {ops:List Oper} (hf:F = Fence.wide ∨ ∃ l,F = sD l) (hm:P.follows .mixedOrders = true) (isW:List Bool) (Fs:List SV) (tab:List lN) {σ0 σf:lN} (hok:(gJ 0 ops && iJ (gb ops) && (gb ops).all (· < n.n) && (isW.length == ops.length)) = true)
  (htab:qH P E n isW tab ops Fs tab) (h0:ig tab (List.replicate ops.length false) = some σ0) (hs0:s = ⟨σ0.base,σ0.own⟩) (hf':ig tab isW = some σf) (ks kos:List Nat)
  (hs:(⟨σf.base ++ aZ (nb σf.live) 0 ops Fs,σf.own⟩:St).keep ks kos = s') (h:Fin E n .normal s' Q) (hd:ops.all kU = true:=by rfl):a7 P E n F (.region rid ops.toArray true) s Q :=
 a7.ofA hf hm (pZ.W isW Fs tab hok htab h0 hs0 hf' ks kos hs h) hd
theorem Fin.ic (h:a7 P E n F y s Q) (hq:¬ LetsOut Q):Fin E n .normal s (Exit.then (y.wpIn F 0 P Q) Q):=fun a w hr=>h hq a w hr
end
end Go.Sk
namespace Go.Sk
set_option linter.unusedSimpArgs false
set_option linter.unusedVariables false
open Go Go.BigFrame
def ns:Obj → Bool
 | .deferred _=>true
 | .loop _=>true
 | _=>false
section
variable {P:Program} {TB:a6} {E:Env TB} {n:Sh} {own own':List (Nat × OC)} {h h':PH} {ρ ρ':RM} {w w':World}
theorem tA {b:Nat} {o:Obj} (hb:w.heap[b]? = some o) (hi:ns o = true) (k:Nat):look w b k = none:=by
 cases o <;> simp [ns] at hi <;> simp [look,hb,World.cell?]
theorem OC.ok.rR {c:OC} {v:Value} (hc:c.ok h ρ v w) {b:Nat} (hf:c.cr v w b) {o:Obj} (ho:w.heap[b]? = some o):ns o = false:=by
 have hrow:∀ {e:TypeId} {size n:Nat} {u:Value} {xs:List Value},w.ownsRow 0 e size u n xs → aV u = some b → ns o = false:=fun {e size n u xs} hh hb=>by
  rcases hh.2 with ⟨rfl,_⟩ | ⟨g,cap,cur,rfl,h1,h2,h3⟩
  ·simp [aV] at hb
  ·simp [aV] at hb; subst hb; rw [h2] at ho; cases ho; rfl
 rcases hf with hb | hi
 rotate_left
 ·cases c with
  | rr T e size hole ess=>
   obtain ⟨us,x⟩:=hc
   obtain ⟨i,u,h1,h2,h3⟩:=x.inner.1 hi
   obtain ⟨es,hes⟩:∃ es,ess[i]? = some es:=by
    have h4:i < us.length:=(List.getElem?_eq_some_iff.1 h1).1
    have h5:=x.out.1
    exact ⟨_,List.getElem?_eq_getElem (by omega)⟩
   obtain ⟨xs,h6,_⟩:=(x.rows i u es h1 hes h2).row
   exact hrow h6 h3
  | pU j m rest cur=>
   obtain ⟨b',ms,clk,D,seen,x⟩:=hc
   obtain ⟨D',s1,s2,s3,h1,h2⟩:=hi
   rw [x.ptr] at h1
   cases h1
   rw [x.it] at h2
   cases h2
   rw [x.obj] at ho
   cases ho
   rfl
  | _=>exact hi.elim
 cases c with
 | rr T e size hole ess=>obtain ⟨us,x⟩:=hc; exact hrow x.out hb
 | pU j m rest cur=>obtain ⟨b',ms,clk,D,seen,x⟩:=hc; rw [x.ptr] at hb; cases hb; rw [x.it] at ho; cases ho; rfl
 | box T ps=>obtain ⟨b',cur,rfl,h2,h3⟩:=hc; simp [aV] at hb; subst hb; rw [h2] at ho; cases ho; rfl
 | sit q pos=>obtain ⟨b',rfl,h2,h3⟩:=hc; simp [aV] at hb; subst hb; rw [h2] at ho; cases ho; rfl
 | mp es=>obtain ⟨b',ms,clk,rfl,h2,h3⟩:=hc; simp [aV] at hb; subst hb; rw [h2] at ho; cases ho; rfl
 | mq m=>obtain ⟨b',ms,clk,rfl,h2,h3⟩:=hc; simp [aV] at hb; subst hb; rw [h2] at ho; cases ho; rfl
 | bM T ps=>obtain ⟨b',cur,rfl,h2,h3⟩:=hc; simp [aV] at hb; subst hb; rw [h2] at ho; cases ho; rfl
 | row T size es=>
  obtain ⟨hu,hz,xs,⟨hl,hh⟩,hr⟩:=hc
  rcases hh with ⟨rfl,_⟩ | ⟨g,cap,cur,rfl,h1,h2,h3⟩
  ·simp [aV] at hb
  ·simp [aV] at hb; subst hb; rw [h2] at ho; cases ho; rfl
 | ew T size es=>
  obtain ⟨hu,hz,xs,⟨hl,hh⟩,hr⟩:=hc
  rcases hh with ⟨rfl,_⟩ | ⟨g,cap,cur,rfl,h1,h2,h3⟩
  ·simp [aV] at hb
  ·simp [aV] at hb; subst hb; rw [h2] at ho; cases ho; rfl
 | qG T size es=>
  obtain ⟨hu,hz,xs,⟨hl,hh⟩,hr⟩:=hc
  rcases hh with ⟨rfl,_⟩ | ⟨g,off,cap,cur,rfl,h2,h3⟩
  ·simp [aV] at hb
  ·simp [aV] at hb; subst hb; rw [h2] at ho; cases ho; rfl
theorem WR.u7 (hw:WR E n own h ρ w) {D:Nat} {o o':Obj} (hD:w.heap[D]? = some o) (ho:ns o = true) (hE:E.w0.heap.size ≤ D):WR E n own h ρ (w.putObj D o'):=by
 have hne:∀ {b k:Nat} {v:Value},h b k = some v → b ≠ D:=fun hv e=>by
  subst e
  have:=hw.agree _ _ _ hv
  rw [tA hD ho] at this
  simp at this
 refine ⟨fun b k v hv=>?_,hw.le,hw.fresh,by simpa using hw.size,fun b hb hl=>?_,hw.fixed,hw.os,hw.out,hw.nl,fun k c hk=>?_⟩
 ·rw [gF (World.putObj_heap_other (hne hv))]; exact hw.agree b k v hv
 ·rw [World.putObj_heap_other (by omega)]; exact hw.same b hb hl
 ·obtain ⟨e1,e2,e3⟩:=hw.owned k c hk
  have hsm:∀ j x,(j,x) ∈ own → ∀ b,x.cr (ρ j) w b → (w.putObj D o').heap[b]? = w.heap[b]?:=fun j x hj b hb=>World.putObj_heap_other fun e=>by
   subst e
   rw [(hw.owned j x hj).1.rR hb hD] at ho
   simp at ho
  have hft:∀ j x,(j,x) ∈ own → ∀ b,x.cr (ρ j) _ b → x.cr (ρ j) w b:=fun j x hj b=>OC.cr.congr fun b hb=>hsm j x hj b (.inl hb)
  exact ⟨e1.congr (hsm k c hk),fun b hb=>e2 b (hft k c hk b hb),fun j x hj hjk b hb hb'=>e3 j x hj hjk b (hft k c hk b hb) (hft j x hj b hb')⟩
theorem WR.vV (hw:WR E n own h ρ w) (o:Obj):WR E n own h ρ (w.alloc o):=by
 have hold:∀ {b:Nat},b < w.heap.size → (w.alloc o).heap[b]? = w.heap[b]?:=fun {b} hb=>by
  show (w.heap.push o)[b]? = _
  rw [Array.getElem?_push,if_neg (by omega)]
 refine ⟨fun b k v hv=>?_,hw.le,hw.fresh,?_,fun b hb hl=>?_,hw.fixed,hw.os,hw.out,hw.nl,fun k c hk=>?_⟩
 ·have:=hw.agree b k v hv
  rw [gF (hold (fM this))]; exact this
 ·have:(w.alloc o).heap.size = w.heap.size + 1:=by show (w.heap.push o).size = _; simp
  have:=hw.size
  omega
 ·have:=hw.size
  rw [hold (by omega)]; exact hw.same b hb hl
 ·obtain ⟨e1,e2,e3⟩:=hw.owned k c hk
  have hft:∀ j x,(j,x) ∈ own → ∀ b,x.cr (ρ j) _ b → x.cr (ρ j) w b:=fun j x hj b=>OC.cr.congr fun b hb=>hold ((hw.owned j x hj).1.lt (.inl hb))
  exact ⟨e1.congr fun b hb=>hold (e1.lt hb),fun b hb=>e2 b (hft k c hk b hb),fun j x hj hjk b hb hb'=>e3 j x hj hjk b (hft k c hk b hb) (hft j x hj b hb')⟩
def kW (fx:List Nat) (own:List (Nat × OC)):Bool:=(fx.all fun k=>(aE own).contains k) && own.all fun p=>p.2.plain
theorem lH {fx:List Nat} {own:List (Nat × OC)} (h:kW fx own = true):∀ k,k ∈ fx → k ∈ aE own:=fun k hk=>by
 simp only [kW,Bool.and_eq_true,List.all_eq_true] at h
 simpa using h.1 k hk
theorem ji {fx:List Nat} {own:List (Nat × OC)} (h:kW fx own = true):∀ k c,(k,c) ∈ own → c.plain = true:=fun k c hk=>by
 simp only [kW,Bool.and_eq_true,List.all_eq_true] at h
 exact h.2 _ hk
theorem WR.self (hw:WR E n own h ρ w) (hp:∀ k c,(k,c) ∈ own → c.plain = true) (m:Nat) (d:List Deferred):WR (⟨w,h,ρ,hw.mH⟩:Env TB) ⟨m,aE own,aI own,d⟩ own h ρ w :=
 WR.sh (n:=⟨0,aE own,aI own,[]⟩) rfl rfl (jC hw.mH hw.agree (q4 hw (fun _ _ hk=>hk) hp))
theorem WR.all {tb:cZ TB h w} {m:Nat} {d:List Deferred} (hw:WR E n own h ρ w) (hc:WR (⟨w,h,ρ,tb⟩:Env TB) ⟨m,aE own,aI own,d⟩ own' h' ρ' w') (hf:∀ k,k ∈ n.fix → k ∈ aE own):WR E n own' h' ρ' w':=by
 have hlent:∀ b,kK (⟨w,h,ρ,tb⟩:Env TB) ⟨m,aE own,aI own,d⟩ b → E.w0.heap.size ≤ b ∨ kK E n b:=fun b ⟨k,hk,hb⟩=>by
  obtain ⟨⟨k',c⟩,hm,rfl⟩:=List.mem_map.1 hk
  exact ((hw.owned k' c hm).2.1 b (.inl hb)).1
 have hnl:∀ b,b < E.w0.heap.size → ¬ kK E n b → ¬ kK (⟨w,h,ρ,tb⟩:Env TB) ⟨m,aE own,aI own,d⟩ b:=fun b hb hl hl'=>by
  rcases hlent b hl' with h1 | h1
  ·omega
  ·exact hl h1
 refine ⟨hc.agree,PH.le_trans hw.le hc.le,fun b hb hl=>?_,Nat.le_trans hw.size hc.size,fun b hb hl=>?_,fun k hk=>?_,hc.os.trans hw.os,hc.out.trans hw.out,hw.nl,fun k c hk=>?_⟩
 ·exact (hc.fresh b (Nat.lt_of_lt_of_le hb hw.size) (hnl b hb hl)).trans (hw.fresh b hb hl)
 ·exact (hc.same b (Nat.lt_of_lt_of_le hb hw.size) (hnl b hb hl)).trans (hw.same b hb hl)
 ·exact (hc.fixed k (hf k hk)).trans (hw.fixed k hk)
 ·obtain ⟨e1,e2,e3⟩:=hc.owned k c hk
  refine ⟨e1,fun b hb=>⟨?_,(e2 b hb).2⟩,e3⟩
  rcases (e2 b hb).1 with h1 | h1
  ·exact .inl (Nat.le_trans hw.size h1)
  ·exact hlent b h1
theorem WR.none {tb:cZ TB h w} {m:Nat} {d:List Deferred} {ρ1:RM} (hw:WR E n own h ρ w) (hc:WR (⟨w,h,ρ1,tb⟩:Env TB) ⟨m,[],[],d⟩ own' h' ρ' w'):WR E n own h' ρ w':=by
 have hnl:∀ b,¬ kK (⟨w,h,ρ1,tb⟩:Env TB) ⟨m,[],[],d⟩ b:=fun b ⟨k,hk,_⟩=>by simp at hk
 refine ⟨hc.agree,PH.le_trans hw.le hc.le,fun b hb hl=>?_,Nat.le_trans hw.size hc.size,fun b hb hl=>?_,hw.fixed,hc.os.trans hw.os,hc.out.trans hw.out,hw.nl,fun k c hk=>?_⟩
 ·exact (hc.fresh b (Nat.lt_of_lt_of_le hb hw.size) (hnl b)).trans (hw.fresh b hb hl)
 ·exact (hc.same b (Nat.lt_of_lt_of_le hb hw.size) (hnl b)).trans (hw.same b hb hl)
 ·obtain ⟨e1,e2,e3⟩:=hw.owned k c hk
  have hft:∀ j x,(j,x) ∈ own → ∀ b,x.cr (ρ j) w' b → x.cr (ρ j) w b:=fun j x hj b=>OC.cr.congr fun b hb=>hc.same b ((hw.owned j x hj).1.lt (.inl hb)) (hnl b)
  refine ⟨(e1.congr fun b hb=>hc.same b (e1.lt hb) (hnl b)).mono hc.le,fun b hb=>⟨(e2 b (hft k c hk b hb)).1,fun o=>?_⟩,fun j x hj hjk b hb hb'=>e3 j x hj hjk b (hft k c hk b hb) (hft j x hj b hb')⟩
  have e:=hc.fresh b (e1.lt (hft k c hk b hb)) (hnl b)
  rw [e]
  exact (e2 b (hft k c hk b hb)).2 o
end
end Go.Sk
namespace Go.Sk
set_option linter.unusedSimpArgs false
set_option linter.unusedVariables false
open Go Go.BigFrame
def CP.fw (f:Nat) (ps:List CP):CP :=
  ⟨fun h v=>∃ vs:List Value,v = .func (.func f) #[] vs.toArray ∧ aU (fun (p:CP) u=>p.rel h u) ps vs,
   fun hl ⟨vs,e,ha⟩=>⟨vs,e,aU.mono ha fun p _=>p.mono hl⟩,fun ⟨vs,e,_⟩=>by rw [e]; rfl⟩
def lR (TB:a6) (K:PH → World → Prop):Prop :=
 (∀ h W,K h W → kG h W ∧ cZ TB h W) ∧ ∀ h W,K h W → ∀ (tb:cZ TB h W) (ρ:RM) (h':PH) (ρ':RM) (W':World) (own':List (Nat × OC)) (m:Nat),WR (⟨W,h,ρ,tb⟩:Env TB) ⟨m,[],[],[]⟩ own' h' ρ' W' → K h' W'
def Iter (P:Program) (TB:a6) (gf:FuncId) (ps:List CP) (xs:List (List BV)):Prop :=
 ∀ (J:Nat → PH → World → Prop) (Jx:PH → World → Prop) (l:Nat),(∀ k,lR TB (J k)) → lR TB Jx →
  (∀ k args h W vals,xs[k]? = some args → J k h W → aU (fun (x:BV) v=>∀ ρ,x.rel h ρ v) args vals →
   YieldAt Fence.wide 0 P l vals.toArray W fun e W'=>(e = .returned (.bool true) ∧ ∃ h',h.le h' ∧ J (k + 1) h' W') ∨ (e = .returned (.bool false) ∧ ∃ h',h.le h' ∧ Jx h' W')) →
  ∀ h W caps,J 0 h W → aU (fun (p:CP) v=>p.rel h v) ps caps →
   Calls P gf (Value.func (.yield l) #[] #[] :: caps).toArray W fun e W'=>(∃ v,e = .returned v) ∧ ((∃ h',J xs.length h' W') ∨ ∃ h',Jx h' W')
def each {α ι β:Type} (B:ι → α → Option (ι ⊕ β)):List α → ι → Option (ι ⊕ β)
 | [],v=>some (.inl v)
 | x :: xs,v=>match B v x with
  | none=>none
  | some (.inl v')=>each B xs v'
  | some (.inr y)=>some (.inr y)
def iK:List Tmp → List BV → List (Nat × SV) → List (Nat × SV)
 | q :: qs,z :: zs,sl=>iK qs zs ((q,.b z) :: del q sl)
 | _,_,sl=>sl
theorem m' {h:PH} {ρ:RM} {n:Nat}:∀ (qs:List Tmp) {zs:List BV} {vals:List Value} {sl:List (Nat × SV)} {tmps:Array Value},aW h ρ sl tmps → tmps.size = n → qs.all (· < n) = true →
  aU (fun (x:BV) v=>x.rel h ρ v) zs vals → aW h ρ (iK qs zs sl) ((qs.zip vals).foldl (fun t (p,v)=>t.setIfInBounds p v) tmps) ∧ ((qs.zip vals).foldl (fun t (p,v)=>t.setIfInBounds p v) tmps).size = n
 | [],zs,vals,sl,tmps,hs,hn,_,_=>⟨by simpa [iK] using hs,by simpa using hn⟩
 | q :: qs,[],_,sl,tmps,hs,hn,hq,.nil=>⟨by simpa [iK] using hs,by simpa using hn⟩
 | q :: qs,z :: zs,_ :: vals,sl,tmps,hs,hn,hq,.cons h1 h2=>by
  simp only [List.all_cons,Bool.and_eq_true,decide_eq_true_eq] at hq
  simp only [List.zip_cons_cons,List.foldl_cons,iK]
  exact m' qs (aW.set hs hn hq.1 h1) (by simpa using hn) hq.2 h2
def mark (D:Nat):Deferred:={ target:=.collected D,args:=#[] }
section
variable {P:Program} {TB:a6} {E:Env TB} {n:Sh} {s s':St} {Q:bX} {x y assign body:Code}
theorem fg {own:List (Nat × OC)} {h:PH} {ρ:RM} {w:World} (hw:WR E n own h ρ w) {D:Nat} {o:Obj} (hD:w.heap[D]? = some o) (hi:ns o = true) {tb:cZ TB h w} {m:Nat} {bk:List Nat} {d:List Deferred}:¬ kK (⟨w,h,ρ,tb⟩:Env TB) ⟨m,bk,aI own,d⟩ D:=fun ⟨k,hk,hb⟩=>by
 obtain ⟨⟨k',c⟩,hm,rfl⟩:=List.mem_map.1 hk
 have:=(hw.owned k' c hm).1.rR (.inl hb) hD
 rw [this] at hi
 simp at hi
theorem dZ {w:World} {D:Nat} {o:Obj} (hD:w.heap[D]? = some o):D < w.heap.size:=(Array.getElem?_eq_some_iff.1 hD).1
def RD {TB:a6} (E:Env TB) (n:Sh) (D:Nat) (s:St) (a:Act) (w:World):Prop :=
 a.defers = [mark D] ∧ a.tmps.size = n.n ∧ w.heap[D]? = some (.deferred (some [])) ∧ E.w0.heap.size ≤ D ∧ ∃ h ρ,WR E n s.own h ρ w ∧ aW h ρ s.slots a.tmps
def vX {TB:a6} (E:Env TB) (n:Sh) {ι β:Type} (O:ι → List (Nat × OC)) (OX:β → List (Nat × OC)) (z:ι ⊕ β):bX
 | .normal,a,w=>∃ v',z = .inl v' ∧ R E n ⟨[],O v'⟩ a w
 | .ret,a,w=>∃ y,z = .inr y ∧ R E n ⟨[],OX y⟩ a w
 | _,_,_=>False
theorem aW.boxes {h h':PH} {ρ ρ':RM} {slots:List (Nat × SV)} {tmps:Array Value} {own:List (Nat × OC)} (hs:aW h ρ slots tmps) (hl:h.le h') (hk:slots.all (fun p=>p.2.b6 (own.filter fun q=>q.2.kV)) = true)
  (hρ:∀ k,k ∈ aE own → ρ' k = ρ k):aW h' ρ' slots tmps:=fun k x hx=>by
 obtain ⟨v,hv,hr⟩:=hs k x hx
 refine ⟨v,hv,SV.mono hl (fun j hj=>hρ j ?_) hr⟩
 have:=SV.bS (List.all_eq_true.1 hk _ hx) hj
 clear hk hs hr hx hρ
 induction own with
 | nil=>simp [aI] at this
 | cons q own ih=>
  obtain ⟨k',c⟩:=q
  unfold aE
  simp only [List.filter_cons] at this
  split at this
  ·rename_i hb
   simp only [hb,if_true]
   simp only [aI,List.map_cons,List.mem_cons] at this
   rcases this with e | h2
   ·exact e ▸ List.mem_cons_self
   ·exact List.mem_cons_of_mem _ (ih h2)
  ·rename_i hb
   simp only [hb]
   exact ih this
theorem uT {α ι β:Type} {B:ι → α → Option (ι ⊕ β)} {x:α} {xs:List α} {v:ι} {r:ι ⊕ β} (h:each B (x :: xs) v = some r):∃ z,B v x = some z ∧ match z with
  | .inl v'=>each B xs v' = some r
  | .inr y=>r = .inr y:=by
 unfold each at h
 cases hb:B v x with
 | none=>simp [hb] at h
 | some z=>
  refine ⟨z,rfl,?_⟩
  cases z with
  | inl v'=>simpa [hb] using h
  | inr y=>simp [hb] at h; exact h.symm
theorem vY {α ι β:Type} {g:Operand} {qs:Array Tmp} {gf:FuncId} {ps:List CP} (xs:List α) (arg:α → List BV) (B:ι → α → Option (ι ⊕ β)) (v0:ι) (O:ι → List (Nat × OC)) (OX:β → List (Nat × OC)) (M:ι → α → St) {r:ι ⊕ β}
  (hr:each B xs v0 = some r) (oL:Iter P TB gf ps (xs.map arg)) (hgo:bp P gf) (hx:s.ev g = some (.b (.one (.fw gf ps)))) (hO0:s.own = O v0) (hdf:n.dfs = [])
  (hsl:∀ v,s.slots.all (fun p=>p.2.b6 ((O v).filter fun q=>q.2.kV)) = true) (hbk:∀ v,kW n.fix (O v) = true) (hbm:∀ v x,kW n.fix (M v x).own = true) (hbo:∀ v x,(aE (O v)).all (fun k=>(aE (M v x).own).contains k) = true)
  (hq:qs.toList.all (· < n.n) = true) (hal:∀ x,(arg x).length = qs.size)
  (hassign:∀ (E:Env TB) l v x z,x ∈ xs → B v x = some z → a7 P E ⟨n.n,aE (O v),aI (O v),[]⟩ (sD l) assign ⟨iK qs.toList (arg x) s.slots,O v⟩ (Exit.then (fun a w=>R E ⟨n.n,aE (O v),aI (O v),[]⟩ (M v x) a w) (fun _ _ _=>False)))
  (hbody:∀ (E:Env TB) l v x z,x ∈ xs → B v x = some z → a7 P E ⟨n.n,aE (M v x).own,aI (M v x).own,[]⟩ (sD l) body (M v x) (vX E ⟨n.n,aE (M v x).own,aI (M v x).own,[]⟩ O OX z))
  {a:Act} {w:World} (hR:R E n s a w)
  (hdone:∀ v,r = .inl v → ∀ D a w,RD E n D ⟨s.slots,O v⟩ a w → Q .normal a w)
  (hret:∀ y,r = .inr y → ∀ D a w,RD E n D ⟨s.slots,OX y⟩ a w → Q .ret a w):(Code.rangeFunc g qs assign body).wp P Q a w:=by
 obtain ⟨hdfs,hsz,h0,ρ0,hw,hs⟩:=hR
 have hd0:a.defers = []:=hdfs.trans hdf
 obtain ⟨caps,hge,hcaps⟩:=(aR hs hx:(CP.fw gf ps).rel h0 _)
 rw [← wpIn_wide (n:=0)]
 refine wpIn_rangeFunc fun fn _=>?_
 obtain ⟨rec,hrec⟩:∃ rec:LoopState → Option Code → Loop,rec = fun st pe=>{ state:=st,pending:=pe,fn,tmps:=a.tmps,params:=qs,assign,body,defers:=w.heap.size }:=⟨_,rfl⟩
 obtain ⟨W1,hW1⟩:∃ W1,(w.alloc (.deferred (some []))).alloc (.loop (rec .ready none)) = W1:=⟨_,rfl⟩
 have hL1:W1.heap[w.heap.size + 1]? = some (.loop (rec .ready none)):=by
  rw [← hW1]; have:=World.alloc_heap_new (w.alloc (.deferred (some []))) (.loop (rec .ready none)); rwa [World.size_alloc] at this
 have hK1:W1.heap[w.heap.size]? = some (.deferred (some [])):=by
  rw [← hW1]; exact (RowKit.Below.heap_alloc _ _ _ (by simp)).trans (World.alloc_heap_new w _)
 have hwW1:WR E n s.own h0 ρ0 W1:=by rw [← hW1]; exact (hw.vV _).vV _
 have hEs:E.w0.heap.size ≤ w.heap.size:=hw.size
 have hfixO:∀ v k,k ∈ n.fix → k ∈ aE (O v):=fun v=>lH (hbk v)
 have hfixM:∀ v x k,k ∈ n.fix → k ∈ aE (M v x).own:=fun v x=>lH (hbm v x)
 have hOM:∀ v x k,k ∈ aE (O v) → k ∈ aE (M v x).own:=fun v x k hk=>by simpa using List.all_eq_true.1 (hbo v x) k hk
 refine ⟨w.heap.size + 1,[mark w.heap.size],W1,{ target:=.fn (.func gf) caps.toArray,args:=#[.func (.yield (w.heap.size + 1)) #[] #[]] },W1,gf,
  #[.func (.yield (w.heap.size + 1)) #[] #[]] ++ caps.toArray,W1,?_,?_,fun _ _=>trivial,?_,by simp [Fence.wide],?_⟩
 ·rw [← hW1,hrec]; exact run_enterLoop_outer _ _ _ _ _
 ·simp only [resolve,hge]
  simp [go_sem]
 ·simp [invoke,go_sem,hgo.run]
 ·
  let J:Nat → PH → World → Prop:=fun k h W=>∃ v ρ,each B (xs.drop k) v = some r ∧ WR E n (O v) h ρ W ∧ aW h ρ s.slots a.tmps ∧ W.heap[w.heap.size + 1]? = some (.loop (rec .ready none)) ∧ W.heap[w.heap.size]? = some (.deferred (some []))
  let Jx:PH → World → Prop:=fun h W=>∃ y ρ,r = .inr y ∧ WR E n (OX y) h ρ W ∧ aW h ρ s.slots a.tmps ∧ W.heap[w.heap.size + 1]? = some (.loop (rec .done (some .ret))) ∧ W.heap[w.heap.size]? = some (.deferred (some []))
  have hnone:∀ {W h ρ m} {tb:cZ TB h W} b,¬ kK (⟨W,h,ρ,tb⟩:Env TB) ⟨m,[],[],[]⟩ b:=fun b ⟨k,hk,_⟩=>by simp at hk
  have hJs:∀ k,lR TB (J k):=fun k=>⟨fun h W ⟨v,ρ,_,h2,_⟩=>⟨h2.agree,h2.mH⟩,fun h W ⟨v,ρ,e1,e2,e3,e4,e5⟩ tb ρ1 h' ρ' W' own' m hc=>
   ⟨v,ρ,e1,e2.none hc,e3.mono hc.le,(hc.same _ (dZ e4) (hnone _)).trans e4,(hc.same _ (dZ e5) (hnone _)).trans e5⟩⟩
  have hJxs:lR TB Jx:=⟨fun h W ⟨v,ρ,_,h2,_⟩=>⟨h2.agree,h2.mH⟩,fun h W ⟨v,ρ,e1,e2,e3,e4,e5⟩ tb ρ1 h' ρ' W' own' m hc=>
   ⟨v,ρ,e1,e2.none hc,e3.mono hc.le,(hc.same _ (dZ e4) (hnone _)).trans e4,(hc.same _ (dZ e5) (hnone _)).trans e5⟩⟩
  have hmain:=oL J Jx (w.heap.size + 1) hJs hJxs ?_ h0 W1 caps ⟨v0,ρ0,by simpa using hr,hO0 ▸ hwW1,hs,hL1,hK1⟩ hcaps
  ·have e0:#[.func (.yield (w.heap.size + 1)) #[] #[]] ++ caps.toArray = (Value.func (.yield (w.heap.size + 1)) #[] #[] :: caps).toArray:=by simp
   rw [e0]
   refine pP (.inl rfl) (hmain.mono ?_)
   rintro e W2 ⟨⟨u,rfl⟩,(⟨h',v,ρ',g1,g2,g3,g4,g5⟩ | ⟨h',v,ρ',g1,g2,g3,g4,g5⟩)⟩
   ·have e1:r = .inl v:=by simpa [each] using g1.symm
    refine ⟨none,_,by have:=run_endLoop (P:=P) g4 (by rw [hrec]; simp); rw [hrec] at this; exact this,?_⟩
    refine hdone v e1 w.heap.size _ _ ⟨by simp [hd0],hsz,(World.putObj_heap_other (by omega)).trans g5,hEs,h',ρ',g2.u7 g4 rfl (by omega),g3⟩
   ·refine ⟨some .ret,_,by have:=run_endLoop (P:=P) g4 (by rw [hrec]; simp); rw [hrec] at this; exact this,?_⟩
    refine wpIn_ret (hret v g1 w.heap.size _ _ ⟨by simp [hd0],hsz,(World.putObj_heap_other (by omega)).trans g5,hEs,h',ρ',g2.u7 g4 rfl (by omega),g3⟩)
  ·
   rintro k args h W vals hk ⟨v,ρ,j1,j2,j3,j4,j5⟩ hvals
   rw [List.getElem?_map,Option.map_eq_some_iff] at hk
   obtain ⟨x,hxk,rfl⟩:=hk
   have hmem:x ∈ xs:=List.mem_of_getElem? hxk
   have hkl:=(List.getElem?_eq_some_iff.1 hxk).1
   have hdrop:xs.drop k = x :: xs.drop (k + 1):=by
    rw [List.drop_eq_getElem_cons hkl]
    congr 1
    exact (List.getElem?_eq_some_iff.1 hxk).2
   rw [hdrop] at j1
   obtain ⟨z,hz,hzr⟩:=uT j1
   have hvr:aU (fun (x:BV) v=>x.rel h ρ v) (arg x) vals:=aU.mono hvals fun _ _ f=>f ρ
   have hlen:vals.length = qs.size:=hvals.length.symm.trans (hal x)
   have hLlt:=dZ j4
   obtain ⟨k1,k2⟩:=m' (n:=n.n) qs.toList j3 hsz hq hvr
   have hfold:(qs.zip vals.toArray).foldl (fun t (p,v)=>t.setIfInBounds p v) a.tmps = (qs.toList.zip vals).foldl (fun t (p,v)=>t.setIfInBounds p v) a.tmps:=by
    rw [← Array.foldl_toList,Array.toList_zip]
   have hy:=run_yield (P:=P) (args:=vals.toArray) j4 (by rw [hrec]; simpa using hlen)
   rw [hrec] at hy
   simp only at hy
   rw [hfold] at hy
   have hE1:WR (⟨W,h,ρ,j2.mH⟩:Env TB) ⟨n.n,aE (O v),aI (O v),[]⟩ (O v) h ρ W:=j2.self (ji (hbk v)) _ _
   refine ⟨fn,_,assign,body,hy,roundIn_of_wpIn trivial (wpIn_mono (hassign ⟨W,h,ρ,j2.mH⟩ (w.heap.size + 1) v x z hmem hz (fun ⟨_,_,hq⟩=>hq) _ _ ⟨rfl,k2,h,ρ,hE1,k1⟩) ?_)⟩
   rintro e a1 w1 hq1
   cases e with
   | normal=>
    obtain ⟨hd1,hsz1,h1,ρ1,hw1,hs1⟩:=hq1
    have hl1:=hw1.le
    have hwE1:WR E n (M v x).own h1 ρ1 w1:=j2.all hw1 (hfixO v)
    have l4:w1.heap[w.heap.size + 1]? = some (.loop (rec .ready none)):=(hw1.same _ hLlt (fg j2 j4 rfl)).trans j4
    have l5:w1.heap[w.heap.size]? = some (.deferred (some [])):=(hw1.same _ (dZ j5) (fg j2 j5 rfl)).trans j5
    refine ⟨_,run_beginRound l4 (by rw [hrec]),?_⟩
    have hlt1:=dZ l4
    have m4:(w1.putObj (w.heap.size + 1) (.loop { rec .ready none with state:=.busy })).heap[w.heap.size + 1]? = some (.loop { rec .ready none with state:=.busy }):=World.putObj_heap_same hlt1
    have m5:(w1.putObj (w.heap.size + 1) (.loop { rec .ready none with state:=.busy })).heap[w.heap.size]? = some (.deferred (some [])):=(World.putObj_heap_other (by omega)).trans l5
    generalize hw2:w1.putObj (w.heap.size + 1) (.loop { rec .ready none with state:=.busy }) = w2 at m4 m5 ⊢
    have hwE2:WR E n (M v x).own h1 ρ1 w2:=hw2 ▸ hwE1.u7 l4 rfl (by omega)
    refine wpIn_mono (hbody ⟨w2,h1,ρ1,hwE2.mH⟩ (w.heap.size + 1) v x z hmem hz (fun ⟨_,_,hq⟩=>hq) a1 w2 ⟨hd1,hsz1,h1,ρ1,hwE2.self (ji (hbm v x)) _ _,hs1⟩) ?_
    have fin:∀ {h3:PH} {ρ3:RM} {w3:World} {ow:List (Nat × OC)} (jump:Option Code),WR (⟨w2,h1,ρ1,hwE2.mH⟩:Env TB) ⟨n.n,aE (M v x).own,aI (M v x).own,[]⟩ ow h3 ρ3 w3 →
      h.le h3 ∧ WR E n ow h3 ρ3 (w3.putObj (w.heap.size + 1) (.loop (rec (if jump.isNone then .ready else .done) jump))) ∧ aW h3 ρ3 s.slots a.tmps ∧
      (Instr.endRound (w.heap.size + 1) jump).run P w3 = .ok (.bool jump.isNone) (w3.putObj (w.heap.size + 1) (.loop (rec (if jump.isNone then .ready else .done) jump))) ∧
      (w3.putObj (w.heap.size + 1) (.loop (rec (if jump.isNone then .ready else .done) jump))).heap[w.heap.size + 1]? = some (.loop (rec (if jump.isNone then .ready else .done) jump)) ∧
      (w3.putObj (w.heap.size + 1) (.loop (rec (if jump.isNone then .ready else .done) jump))).heap[w.heap.size]? = some (.deferred (some [])):=fun {h3 ρ3 w3 ow} jump hw3=>by
     have n4:w3.heap[w.heap.size + 1]? = some (.loop { rec .ready none with state:=.busy }):=(hw3.same _ (dZ m4) (fg hwE2 m4 rfl)).trans m4
     have n5:w3.heap[w.heap.size]? = some (.deferred (some [])):=(hw3.same _ (dZ m5) (fg hwE2 m5 rfl)).trans m5
     have hrun:=run_endRound (P:=P) jump n4
     have hl3:=hw3.le
     refine ⟨PH.le_trans hl1 hl3,(hwE2.all hw3 (hfixM v x)).u7 n4 rfl (by omega),?_,?_,World.putObj_heap_same (dZ n4),(World.putObj_heap_other (by omega)).trans n5⟩
     ·refine j3.boxes (PH.le_trans hl1 hl3) (hsl v) fun k hk=>?_
      exact (hw3.fixed k (hOM v x k hk)).trans (hw1.fixed k hk)
     ·rw [hrec] at hrun ⊢
      exact hrun
    rintro e a3 w3 hq3
    cases e with
    | normal=>
     obtain ⟨v',rfl,hd3,hsz3,h3,ρ3,hw3,_⟩:=hq3
     obtain ⟨f1,f2,f3,f4,f5,f6⟩:=fin none hw3
     exact ⟨_,_,f4,.inl ⟨rfl,h3,f1,v',ρ3,hzr,f2,f3,f5,f6⟩⟩
    | ret=>
     obtain ⟨y,rfl,hd3,hsz3,h3,ρ3,hw3,_⟩:=hq3
     obtain ⟨f1,f2,f3,f4,f5,f6⟩:=fin (some .ret) hw3
     exact ⟨_,_,f4,.inr ⟨rfl,h3,f1,y,ρ3,hzr,f2,f3,f5,f6⟩⟩
    | exit id=>exact hq3.elim
    | goto t=>exact hq3.elim
    | panic ch=>exact hq3.elim
    | outgrown=>exact hq3.elim
   | _=>exact hq1.elim
end
end Go.Sk
namespace Go.Sk
set_option linter.unusedSimpArgs false
set_option linter.unusedVariables false
open Go Go.BigFrame
section
variable {P:Program} {TB:a6} {E:Env TB} {n:Sh} {s s':St} {Q:bX} {x y assign body cd:Code}
def ru (P:Program) (fn:Func) {TB:a6} (E:Env TB) (n:Sh) (post:fS):bX
 | .normal,a,w=>∃ D,a.defers = [mark D] ∧ w.heap[D]? = some (.deferred (some [])) ∧ E.w0.heap.size ≤ D ∧ ∃ v,(∀ w₂,cD w w₂ → (results fn a.tmps).run P w₂ = .ok v w₂) ∧ lK E n post (.returned v) w
 | .ret,a,w=>∃ D,a.defers = [mark D] ∧ w.heap[D]? = some (.deferred (some [])) ∧ E.w0.heap.size ≤ D ∧ ∃ v,(∀ w₂,cD w w₂ → (results fn a.tmps).run P w₂ = .ok v w₂) ∧ lK E n post (.returned v) w
 | _,_,_=>False
theorem ru.marks {fn:Func} {post:fS}:∀ e a w,ru P fn E n post e a w → bodyPostM Fence.wide 0 P fn (lK E n post) e a w:=by
 have key:∀ (a:Act) (w:World),(∃ D,a.defers = [mark D] ∧ w.heap[D]? = some (.deferred (some [])) ∧ E.w0.heap.size ≤ D ∧ ∃ v,(∀ w₂,cD w w₂ → (results fn a.tmps).run P w₂ = .ok v w₂) ∧ lK E n post (.returned v) w) → LeavesInM Fence.wide 0 P fn a.tmps (lK E n post) a.defers .returning w:=by
  rintro a w ⟨D,hd,hD,hE,v,hv,hs⟩
  rw [hd]
  refine ⟨by simp,.inl ⟨D,_,rfl,run_takeDeferred hD,v,hv _ ?_,?_⟩⟩
  ·intro b k u hu
   have hne:b ≠ D:=fun e=>by subst e; simp [World.cell?,hD] at hu
   rw [rj (World.putObj_heap_other hne)]
   exact hu
  ·obtain ⟨v',own',res,h',ρ',e1,e2,e3,e4⟩:=hs
   exact ⟨v',own',res,h',ρ',e1,e2,e3.u7 hD rfl hE,e4⟩
 rintro (_ | _ | _ | _ | _ | _) a w h
 all_goals first | exact key a w h | exact h.elim
theorem RD.rest {fn:Func} {post:fS} {D:Nat} {a:Act} {w:World} (hr:RD E n D s a w) (hf:kW n.fix s.own = true) (h:∀ E':Env TB,ab P E' ⟨n.n,aE s.own,aI s.own,[mark D]⟩ y s (u6 P fn E' ⟨n.n,aE s.own,aI s.own,[mark D]⟩ post)):y.wp P (ru P fn E n post) a w:=by
 obtain ⟨h1,h2,h3,h4,hh,ρ,hw,hs⟩:=hr
 refine wp_mono (h ⟨w,hh,ρ,hw.mH⟩ a w ⟨h1,h2,hh,ρ,hw.self (ji hf) _ _,hs⟩) ?_
 have key:∀ (a':Act) (w':World),(a'.defers = [mark D] ∧ ∃ v,(∀ w₂,cD w' w₂ → (results fn a'.tmps).run P w₂ = .ok v w₂) ∧ lK (⟨w,hh,ρ,hw.mH⟩:Env TB) ⟨n.n,aE s.own,aI s.own,[mark D]⟩ post (.returned v) w') →
   ∃ D,a'.defers = [mark D] ∧ w'.heap[D]? = some (.deferred (some [])) ∧ E.w0.heap.size ≤ D ∧ ∃ v,(∀ w₂,cD w' w₂ → (results fn a'.tmps).run P w₂ = .ok v w₂) ∧ lK E n post (.returned v) w':=by
  rintro a' w' ⟨g1,v,g2,v',own',res,h',ρ',e1,e2,e3,e4⟩
  refine ⟨D,g1,(e3.same D (dZ h3) (fg hw h3 rfl)).trans h3,h4,v,g2,v',own',res,h',ρ',e1,e2,hw.all e3 fun k hk=>?_,e4⟩
  exact lH hf k hk
 rintro (_ | _ | _ | _ | _ | _) a' w' h'
 all_goals first | exact key a' w' h' | exact h'.elim
theorem RD.ret {fn:Func} {post:fS} {D:Nat} {a:Act} {w:World} (hr:RD E n D s a w) (hf:kW n.fix s.own = true) (h:∀ E':Env TB,Fin E' ⟨n.n,aE s.own,aI s.own,[mark D]⟩ .ret s (u6 P fn E' ⟨n.n,aE s.own,aI s.own,[mark D]⟩ post)):ru P fn E n post .ret a w:=by
 obtain ⟨h1,h2,h3,h4,hh,ρ,hw,hs⟩:=hr
 obtain ⟨g1,v,g2,v',own',res,h',ρ',e1,e2,e3,e4⟩:=h ⟨w,hh,ρ,hw.mH⟩ a w ⟨h1,h2,hh,ρ,hw.self (ji hf) _ _,hs⟩
 refine ⟨D,h1,h3,h4,v,g2,v',own',res,h',ρ',e1,e2,hw.all e3 fun k hk=>?_,e4⟩
 exact lH hf k hk
theorem av.sU {f:FuncId} {fn:Func} {c:Code} {own:List (Nat × OC)} {args:List BV} {post:fS} (m:Nat) (hf:P.funcs[f]? = some fn) (hm:fn.ntmps = m) (hb:fn.body = some c) (hl:args.length ≤ m)
  (hbody:∀ E:Env TB,ab P E ⟨m,aE own,aI own,[]⟩ c ⟨iO 0 args,own⟩ (ru P fn E ⟨m,aE own,aI own,[]⟩ post)):av P TB f own args post:=by
 intro w h ρ vals tb hag hlent hargs
 have hlen:=hargs.length
 refine Calls.mono (callsIn_wide.1 (callsIn_of_wp_marks (n:=0) (F:=Fence.wide) (R:=lK ⟨w,h,ρ,tb⟩ ⟨m,aE own,aI own,[]⟩ post) hf hb trivial (wpIn_wide.2 (wp_mono (hbody ⟨w,h,ρ,tb⟩ _ w ⟨rfl,?_,h,ρ,WR.sh (n:=⟨0,aE own,aI own,[]⟩) rfl rfl (jC tb hag hlent),?_⟩) ru.marks)))) ?_
 ·simp [hm]; omega
 ·intro k x hx
  obtain ⟨j,z,rfl,hz,rfl⟩:=iy hx
  obtain ⟨v,hv,hr⟩:=hargs.get j z hz
  refine ⟨v,?_,hr⟩
  have hj:=(List.getElem?_eq_some_iff.1 hv).1
  rw [Nat.zero_add,Array.getElem?_append_left (by simpa using hj)]
  simpa using hv
 ·rintro e w' ⟨v,own',res,h',ρ',e1,e2,e3,e4⟩
  exact ⟨v,own',res,h',ρ',e1,e2,WR.sh (n:=⟨m,aE own,aI own,[]⟩) (n':=⟨0,aE own,aI own,[]⟩) rfl rfl e3,e4⟩
theorem ab.sM {α ι β γ:Type} {g:Operand} {qs:Array Tmp} {gf:FuncId} {ps:List CP} {id:Nat} {fn:Func} {post:fS} {res:γ} {f1:ι → Option γ} {f2:β → Option γ} (xs:List α) (arg:α → List BV) (B:ι → α → Option (ι ⊕ β)) (v0:ι) (O:ι → List (Nat × OC)) (OX:β → List (Nat × OC)) (M:ι → α → St)
  (hr:Option.bind (each B xs v0) (cL f1 f2) = some res) (oL:Iter P TB gf ps (xs.map arg)) (hgo:bp P gf) (hx:s.ev g = some (.b (.one (.fw gf ps)))) (hO0:s.own = O v0) (hdf:n.dfs = [])
  (hsl:∀ v,s.slots.all (fun p=>p.2.b6 ((O v).filter fun q=>q.2.kV)) = true) (hbk:∀ v,kW n.fix (O v) = true) (hbx:∀ y,kW n.fix (OX y) = true) (hbm:∀ v x,kW n.fix (M v x).own = true) (hbo:∀ v x,(aE (O v)).all (fun k=>(aE (M v x).own).contains k) = true)
  (hq:qs.toList.all (· < n.n) = true) (hal:∀ x,(arg x).length = qs.size)
  (hassign:∀ (E:Env TB) l v x z,x ∈ xs → B v x = some z → a7 P E ⟨n.n,aE (O v),aI (O v),[]⟩ (sD l) assign ⟨iK qs.toList (arg x) s.slots,O v⟩ (Exit.then (fun a w=>R E ⟨n.n,aE (O v),aI (O v),[]⟩ (M v x) a w) (fun _ _ _=>False)))
  (hbody:∀ (E:Env TB) l v x z,x ∈ xs → B v x = some z → a7 P E ⟨n.n,aE (M v x).own,aI (M v x).own,[]⟩ (sD l) body (M v x) (vX E ⟨n.n,aE (M v x).own,aI (M v x).own,[]⟩ O OX z))
  (hdone:∀ (E:Env TB) D v,f1 v = some res → ab P E ⟨n.n,aE (O v),aI (O v),[mark D]⟩ y ⟨s.slots,O v⟩ (u6 P fn E ⟨n.n,aE (O v),aI (O v),[mark D]⟩ post))
  (hret:∀ (E:Env TB) D u,f2 u = some res → Fin E ⟨n.n,aE (OX u),aI (OX u),[mark D]⟩ .ret ⟨s.slots,OX u⟩ (u6 P fn E ⟨n.n,aE (OX u),aI (OX u),[mark D]⟩ post)) :
  ab P E n (.block id (.rangeFunc g qs assign body)) s (Exit.then (y.wp P (ru P fn E n post)) (ru P fn E n post)):=by
 intro a w hR
 refine wp_block ?_
 cases he:each B xs v0 with
 | none=>simp [he] at hr
 | some r=>
  rw [he] at hr
  refine vY xs arg B v0 O OX M he oL hgo hx hO0 hdf hsl hbk hbm hbo hq hal hassign hbody hR ?_ ?_
  ·rintro v rfl D a w hrd
   exact hrd.rest (hbk v) fun E'=>hdone E' D v hr
  ·rintro u rfl D a w hrd
   exact hrd.ret (hbx u) fun E'=>hret E' D u hr
end
section
variable {P:Program} {TB:a6} {E:Env TB} {n:Sh} {s:St} {dst:Option Nat} {t ty yt:TypeId} {pos:String} {after:Array Edge} {g:Option (Nat × Bool)} {x y c:Operand}
theorem WR.tm {own:List (Nat × OC)} {h:PH} {ρ:RM} {w:World} (hw:WR E n own h ρ w) {cs:List Value} {T:TypeId} (h1:∀ u ∈ cs,u.oneCell' = true):WR E n own (ck h w.heap.size cs) ρ (w.alloc (.cells cs.toArray T)) ∧ h.le (ck h w.heap.size cs):=by
 have hno:∀ {b k:Nat} {v:Value},h b k = some v → b < w.heap.size:=fun hv=>fM (hw.agree _ _ _ hv)
 have hle:h.le (ck h w.heap.size cs):=fun b o v hv=>by
  unfold ck
  rw [if_neg (by have:=hno hv; omega)]
  exact hv
 have hold:∀ {b:Nat},b < w.heap.size → (w.alloc (.cells cs.toArray T)).heap[b]? = w.heap[b]?:=fun hb=>heap_alloc_old w _ hb
 refine ⟨⟨fun b k v hv=>?_,PH.le_trans hw.le hle,fun b hb hl=>?_,Nat.le_trans hw.size (by simp),fun b hb hl=>?_,hw.fixed,hw.os,hw.out,hw.nl,fun k c hk=>?_⟩,hle⟩
 ·unfold ck at hv
  split at hv
  ·rename_i e
   subst e
   exact iQ (heap_alloc_new w _) (by simpa using hv) (h1 v (List.mem_of_getElem? hv))
  ·rw [gF (hold (hno hv))]; exact hw.agree b k v hv
 ·rw [← hw.fresh b hb hl]
  funext o
  unfold ck
  rw [if_neg (by have:=hw.size; omega)]
 ·have:=hw.size
  rw [hold (by omega)]; exact hw.same b hb hl
 ·obtain ⟨e1,e2,e3⟩:=hw.owned k c hk
  have hft:∀ i x,(i,x) ∈ own → ∀ b,x.cr (ρ i) _ b → x.cr (ρ i) w b:=fun i x hi b=>OC.cr.congr fun b hb=>hold ((hw.owned i x hi).1.lt (.inl hb))
  refine ⟨(e1.congr fun b hb=>hold (e1.lt hb)).mono hle,fun b hb=>⟨(e2 b (hft k c hk b hb)).1,fun o=>?_⟩,fun i x hi hij b hb hb'=>e3 i x hi hij b (hft k c hk b hb) (hft i x hi b hb')⟩
  unfold ck
  rw [if_neg (by have:=e1.lt (hft k c hk b hb); omega)]
  exact (e2 b (hft k c hk b hb)).2 o
theorem qY {T:TypeId} {p:CP} (hx:s.ev x = some (.b (.one p))):bA P E n ⟨dst,.box T x,ty,pos,after,g⟩ s (s.put n dst (.b (.aO [p]))):=by
 intro a w ⟨hdf,hn,h,ρ,hw,hs⟩ next Q hnext
 have hr:p.rel h (a.eval x):=aR hs hx
 have h1:=p.one hr
 have hcells:(a.eval x).cells = #[a.eval x]:=by cases hq:a.eval x <;> first | rfl | (rw [hq] at h1; simp [Value.oneCell'] at h1)
 obtain ⟨hw',hle⟩:=hw.tm (cs:=[a.eval x]) (T:=T) (by simpa using h1)
 unfold Oper.wp
 have hrun:(execOp a.eval ⟨dst,.box T x,ty,pos,after,g⟩).run P w = .ok (.value (.pointer (some ⟨w.heap.size,0,none⟩))) (w.alloc (.cells #[a.eval x] T)):=by
  simp only [execOp]
  simp [Instr.box,newVar,newRow,hcells]
 rw [hrun]
 refine hnext _ _ (R.put hdf hn hw' (hs.mono hle) ⟨w.heap.size,0,rfl,fun j c hc=>?_⟩)
 cases j with
 | zero=>simp at hc; subst hc; exact ⟨a.eval x,by simp [ck],p.mono hle hr⟩
 | succ j=>simp at hc
def CP.rp (ps:List CP):CP:=⟨fun h v=>∃ b o,v = .pointer (some ⟨b,o,none⟩) ∧ Reads h b o ps,fun hl ⟨b,o,e,hr⟩=>⟨b,o,e,hr.mono hl⟩,fun ⟨b,o,e,_⟩=>by rw [e]; rfl⟩
def va (s:St):List Operand → Option (List (List CP))
 | []=>some []
 | x :: l=>match s.ev x with
  | some (.b (.aO ps))=>(va s l).map fun r=>ps :: r
  | _=>none
theorem sb {h:PH} {ρ:RM} {a:Act} (hs:aW h ρ s.slots a.tmps):∀ {l:List Operand} {zs:List (List CP)},va s l = some zs → aU (fun (p:CP) v=>p.rel h v) (zs.map CP.rp) (l.map a.eval)
 | [],zs,e=>by simp [va] at e; subst e; exact .nil
 | x :: l,zs,e=>by
  unfold va at e
  split at e
  ·rename_i ps hps
   simp only [Option.map_eq_some_iff] at e
   obtain ⟨r,hr,rfl⟩:=e
   exact .cons (aR hs hps:BV.rel h ρ (.aO ps) _) (sb hs hr)
  ·simp at e
theorem iw {f:FuncId} {ys:Array Operand} {pss:List (List CP)} (hc:va s ys.toList = some pss) :
  bA P E n ⟨dst,.makeFunc (.func f) #[] ys,ty,pos,after,g⟩ s (s.put n dst (.b (.one (.fw f (pss.map CP.rp))))) :=
 bA.val (o:=⟨dst,.makeFunc (.func f) #[] ys,ty,pos,after,g⟩) fun ac w h ρ hw hs=>by
  refine ⟨.func (.func f) #[] (ys.map ac.eval),by simp [execOp,Instr.makeFunc],ys.toList.map ac.eval,by rw [show (ys.map ac.eval) = (ys.toList.map ac.eval).toArray from by apply Array.ext'; simp],sb hs hc⟩
theorem qB {h:PH} {ρ:RM}:∀ {pss:List (List CP)} {vs:List Value},aU (fun (p:CP) u=>p.rel h u) (pss.map CP.rp) vs → aU (fun (x:BV) v=>x.rel h ρ v) (pss.map BV.aO) vs
 | [],_,.nil=>.nil
 | _ :: _,_,.cons h1 t=>.cons h1 (qB t)
theorem ph {f:FuncId} {pss:List (List CP)} {own_a own':List (Nat × OC)} {args zs:List BV} {xs:Array Operand} {ats:Array TypeId} {res:SV} (hspec:av P TB f own_a args (Is own' res)) (hf:bp P f) (hx:s.ev x = some (.b (.one (.fw f (pss.map CP.rp))))) (ha:gj s xs.toList = some zs)
  (hz:zs ++ pss.map BV.aO = args) (hl:jZ s.own own_a)
  (hok:lP n own_a own' = true) (hki:res.b6 own' = true) (hcl:lO s.own own_a own' = true:=by rfl):bA P E n ⟨dst,.call ⟨.value x,xs,ats⟩,ty,pos,after,g⟩ s (s.aft n own_a own' dst res) :=
 fun _ _ hr _ _ hnext=>tF hspec (fun a w h ρ hw hs=>by
  obtain ⟨vs,hv,h2⟩:=(aR hs hx:(CP.fw f (pss.map CP.rp)).rel h _)
  refine ⟨xs.toList.map a.eval ++ vs,?_,?_⟩
  ·have e1:execOp a.eval ⟨dst,.call ⟨.value x,xs,ats⟩,ty,pos,after,g⟩ = (do let d ← Deferred.ofValue (a.eval x) (xs.map a.eval); invoke d.target d.args):=rfl
   rw [e1,hv]
   have e2:(do let d ← Deferred.ofValue (.func (.func f) #[] vs.toArray) (xs.map a.eval); invoke d.target d.args:Sem Next) = callFunc f (#[] ++ xs.map a.eval ++ vs.toArray):=rfl
   rw [e2,hf.run]
   congr 2
   apply Array.ext'
   simp
  ·rw [← hz]
   exact sC (mw hs ha) (qB h2)) hl hr fun _ _ hp=>by
  obtain ⟨rfl,rfl⟩:=hp
  exact ⟨hok,hcl,hki,hnext⟩
end
end Go.Sk
namespace Go.Sk
set_option linter.unusedSimpArgs false
set_option linter.unusedVariables false
open Go Go.BigFrame
def mG (P:Program) (F:Fence) (ops:Array Oper) (Q:bX):List Oper → Act → World → Prop
 | [],a,w=>Q .normal a w
 | o :: rest,a,w=>if Region.wanted o (yielded ops a.tmps) then o.wpIn F 0 P a w (mG P F ops Q rest) Q else mG P F ops Q rest (a.put o.dst undef) w
def bc (P:Program) {TB:a6} (E:Env TB) (n:Sh) (F:Fence) (ops:Array Oper) (l:List Oper) (s:St) (Q:bX):Prop:=∀ a w,R E n s a w → mG P F ops Q l a w
section
variable {P:Program} {TB:a6} {E:Env TB} {n:Sh} {ops:Array Oper} {l:List Oper} {s s':St} {Q:bX} {o:Oper} {F:Fence} {c:Code}
theorem fn_of (hf:F = Fence.wide ∨ ∃ l,F = sD l) (f:FuncId):F.fn f:=by rcases hf with rfl | ⟨l,rfl⟩ <;> trivial
theorem tq {a:Act} {w:World} {K K':Act → World → Prop} (hk:∀ a w,K a w → K' a w) (h:o.wpIn F 0 P a w K Q):o.wpIn F 0 P a w K' Q:=by
 refine ⟨h.1,?_⟩
 have h2:=h.2
 generalize (o.semAt F.round a.eval).run P w = r at *
 cases r with
 | ok nx w'=>
  cases nx with
  | value v=>exact hk _ _ h2
  | skip=>exact hk _ _ h2
  | defer d=>exact hk _ _ h2
  | enter f args=>exact ⟨h2.1,CallsIn.mono h2.2 fun e w'' he=>by
    cases e with
    | returned v=>exact hk _ _ he
    | panicked ch=>exact he
    | outgrown=>exact he⟩
  | row row args=>exact ⟨h2.1,RowsIn.mono h2.2 fun _ _ he=>hk _ _ he⟩
  | round l f tmps assign body=>exact ⟨h2.1,RoundIn.mono h2.2 fun e w'' he=>by
    cases e with
    | returned v=>exact hk _ _ he
    | panicked ch=>exact he
    | outgrown=>exact he⟩
  | _=>exact h2.elim
 | halt q w'=>cases q <;> first | exact h2 | exact h2.elim
theorem hX (hf:∀ f,F.fn f):∀ (l:List Oper) (k:Nat),(∀ j,ops[k + j]? = l[j]?) → ∀ a w,mG P F ops Q l a w → wpOpsIn F 0 P ops Q (List.range' k l.length) a w
 | [],k,hl,a,w,h=>by simpa [wpOpsIn,mG] using h
 | o :: l,k,hl,a,w,h=>by
  have h0:ops[k]? = some o:=by simpa using hl 0
  have hr:∀ j,ops[k + 1 + j]? = l[j]?:=fun j=>by have:=hl (j + 1); rw [Nat.add_assoc,Nat.add_comm 1 j]; simpa using this
  simp only [List.length_cons,List.range'_succ,wpOpsIn,h0]
  unfold mG at h
  split
  ·rename_i hw
   simp only [hw,if_true] at h
   exact tq (fun a w hh=>hX hf l (k + 1) hr a w hh) h
  ·rename_i hw
   simp only [hw] at h
   exact ⟨fun f _=>hf f,hX hf l (k + 1) hr _ _ h⟩
theorem a7.oE {id:Nat} {l:List Oper} (hf:F = Fence.wide ∨ ∃ l,F = sD l) (h:bc P E n F l.toArray l s Q):a7 P E n F (.region id l.toArray false) s Q:=by
 intro hq a w hr
 refine wpIn_region ?_
 have:=hX (P:=P) (ops:=l.toArray) (Q:=Q) (fn_of hf) l 0 (fun j=>by simp) a w (h a w hr)
 simpa [List.range_eq_range'] using this
theorem bc.nil (h:Fin E n .normal s Q):bc P E n F ops [] s Q:=fun a w hr=>h a w hr
theorem bc.keep (ks kos:List Nat) (hs:s.keep ks kos = s') (h:bc P E n F ops l s' Q):bc P E n F ops l s Q:=fun a w hr=>h a w (hs ▸ hr.keep ks kos)
theorem bc.cons (hf:F = Fence.wide ∨ ∃ l,F = sD l) (hg:o.guard = none) (h1:bA P E n o s s') (h2:bc P E n F ops l s' Q) (hd:kU o = true:=by rfl):bc P E n F ops (o :: l) s Q:=by
 intro a w hr
 unfold mG
 have:Region.wanted o (yielded ops a.tmps) = true:=by simp [Region.wanted,hg]
 simp only [this,if_true]
 exact lB hf hd (fun a w h=>h) (h1 a w hr _ _ fun a' w' hr'=>h2 a' w' hr')
theorem bc.iI {j t:Nat} {want gd:Bool} (hf:F = Fence.wide ∨ ∃ l,F = sD l) (hG:GuardAt s t want gd) (hgd:gd = true) (hg:o.guard = some (j,want)) (hj:(ops[j]?).bind (·.dst) = some t) (h1:bA P E n o s s') (h2:bc P E n F ops l s' Q) (hd:kU o = true:=by rfl):bc P E n F ops (o :: l) s Q:=by
 intro a w hr
 unfold mG
 have:=hG.wanted hg hj hr
 rw [hgd] at this
 simp only [this,if_true]
 exact lB hf hd (fun a w h=>h) (h1 a w hr _ _ fun a' w' hr'=>h2 a' w' hr')
theorem bc.eW {j t:Nat} {want gd:Bool} (hG:GuardAt s t want gd) (hgd:gd = false) (hg:o.guard = some (j,want)) (hj:(ops[j]?).bind (·.dst) = some t) (z:BV) (h2:bc P E n F ops l (s.put n o.dst (.opt false z)) Q):bc P E n F ops (o :: l) s Q:=by
 intro a w hr
 unfold mG
 have:=hG.wanted hg hj hr
 rw [hgd] at this
 simp only [this,Bool.false_eq_true,if_false]
 obtain ⟨h1,hn,h,ρ,hw,hs⟩:=hr
 refine h2 _ _ (R.put h1 hn hw hs ⟨fun e=>by simp at e,fun _=>rfl⟩)
theorem bc.stepT {j t:Nat} {want gd:Bool} (hG:GuardAt s t want gd) (hgd:gd = true) (hg:o.guard = some (j,want)) (hj:(ops[j]?).bind (·.dst) = some t) (h:∀ a w,R E n s a w → o.wpIn F 0 P a w (mG P F ops Q l) Q):bc P E n F ops (o :: l) s Q:=by
 intro a w hr
 unfold mG
 have:=hG.wanted hg hj hr
 rw [hgd] at this
 simp only [this,if_true]
 exact h a w hr
theorem bc.opt (k:Nat) {z:BV} (hk:lk s.slots k = some (.b z)) (h:bc P E n F ops l ⟨(k,.opt true z) :: del k s.slots,s.own⟩ Q):bc P E n F ops l s Q:=by
 rintro a w ⟨h1,hn,hh,ρ,hw,hs⟩
 refine h a w ⟨h1,hn,hh,ρ,hw,fun j x hx=>?_⟩
 rcases List.mem_cons.1 hx with e | hx
 ·obtain ⟨rfl,rfl⟩:=Prod.mk.inj e
  obtain ⟨v,hv,hr⟩:=hs _ _ (bw hk)
  exact ⟨v,hv,fun _=>hr,fun e=>by simp at e⟩
 ·exact hs j x (cK hx).1
theorem tv {a:Act} {w:World} {K:Act → World → Prop} {L:Nat} {vals:Array Value} {Rr:Ending → World → Prop} (hd:kU o = true) (hrun:(execOp a.eval o).run P w = (Instr.yield L vals).run P w) (hy:YieldAt Fence.wide 0 P L vals w Rr)
  (hR:∀ e w',Rr e w' → ∃ v,e = .returned v ∧ K (a.put o.dst v) w'):o.wpIn Fence.wide 0 P a w K Q:=by
 obtain ⟨fn,tmps,assign,body,h1,h2⟩:=hy
 refine ⟨fun _ _=>trivial,?_⟩
 rw [Oper.semAt_eq _ _ _ (rS hd),hrun,h1]
 refine ⟨fun e=>by simp [Fence.wide] at e,h2.mono fun e w' he=>?_⟩
 obtain ⟨v,rfl,hk⟩:=hR e w' he
 exact hk
theorem uB {dst:Option Nat} {x:Operand} {xs:Array Operand} {ats:Array TypeId} {ty:TypeId} {pos:String} {after:Array Edge} {g:Option (Nat × Bool)} {L:Nat} {a:Act} {w:World} (hx:a.eval x = .func (.yield L) #[] #[]) :
  (execOp a.eval ⟨dst,.call ⟨.value x,xs,ats⟩,ty,pos,after,g⟩).run P w = (Instr.yield L (xs.map a.eval)).run P w:=by
 have e1:execOp a.eval ⟨dst,.call ⟨.value x,xs,ats⟩,ty,pos,after,g⟩ = (do let d ← Deferred.ofValue (a.eval x) (xs.map a.eval); invoke d.target d.args):=rfl
 rw [e1,hx]
 have e2:(do let d ← Deferred.ofValue (.func (.yield L) #[] #[]) (xs.map a.eval); invoke d.target d.args:Sem Next) = Instr.yield L (#[] ++ xs.map a.eval ++ #[]):=rfl
 rw [e2]
 simp
theorem mz {h:PH} {ρ:RM} {args:List BV} {vals:List Value} {m:Nat} (ha:aU (fun (x:BV) v=>x.rel h ρ v) args vals) (hl:args.length ≤ m) :
  aW h ρ (iO 0 args) (vals.toArray ++ Array.replicate (m - vals.toArray.size) undef) ∧ (vals.toArray ++ Array.replicate (m - vals.toArray.size) undef).size = m:=by
 have hlen:=ha.length
 refine ⟨fun k x hx=>?_,by simp; omega⟩
 obtain ⟨j,z,rfl,hz,rfl⟩:=iy hx
 obtain ⟨v,hv,hr⟩:=ha.get j z hz
 refine ⟨v,?_,hr⟩
 have hj:=(List.getElem?_eq_some_iff.1 hv).1
 rw [Nat.zero_add,Array.getElem?_append_left (by simpa using hj)]
 simpa using hv
theorem R.fresh {h:PH} {ρ:RM} {w:World} {slots:List (Nat × SV)} {a:Act} {m:Nat} (tb:cZ TB h w) (hag:kG h w) (hd:a.defers = []) (hn:a.tmps.size = m) (hs:aW h ρ slots a.tmps):R (⟨w,h,ρ,tb⟩:Env TB) ⟨m,[],[],[]⟩ ⟨slots,[]⟩ a w :=
 ⟨hd,hn,h,ρ,WR.sh (n:=⟨0,aE [],aI [],[]⟩) rfl rfl (jC tb hag fun k c hk=>by simp at hk),hs⟩
end
section
variable {P:Program} {TB:a6} {E:Env TB} {n:Sh} {s:St} {dst:Option Nat} {t ty yt:TypeId} {pos:String} {after:Array Edge} {g:Option (Nat × Bool)} {x y c:Operand}
end
section
variable {P:Program} {t:TypeId}
end
end Go.Sk
namespace Go.Sk
set_option linter.unusedSimpArgs false
set_option linter.unusedVariables false
open Go Go.BigFrame
def kT (k:Nat) (ps:List CP):List (Nat × SV) → List (Nat × SV)
 | []=>[]
 | (j,x) :: l=>match x with
  | .b (.ptr k' o)=>if k' = k then (j,.b (.aO (ps.drop o))) :: kT k ps l else (j,x) :: kT k ps l
  | _=>(j,x) :: kT k ps l
theorem nI {k:Nat} {ps:List CP}:∀ {l:List (Nat × SV)} {j:Nat} {x:SV},(j,x) ∈ kT k ps l → (j,x) ∈ l ∨ ∃ o,x = .b (.aO (ps.drop o)) ∧ (j,.b (.ptr k o)) ∈ l
 | [],j,x,h=>by simp [kT] at h
 | (i,y) :: l,j,x,h=>by
  have keep:(j,x) ∈ (i,y) :: kT k ps l → (j,x) ∈ (i,y) :: l ∨ ∃ o,x = .b (.aO (ps.drop o)) ∧ (j,.b (.ptr k o)) ∈ (i,y) :: l:=fun h=>by
   rcases List.mem_cons.1 h with e | h
   ·exact .inl (e ▸ List.mem_cons_self)
   ·rcases nI h with h | ⟨o,e,h⟩
    ·exact .inl (List.mem_cons_of_mem _ h)
    ·exact .inr ⟨o,e,List.mem_cons_of_mem _ h⟩
  unfold kT at h
  split at h
  ·rename_i k' o
   split at h
   ·rename_i hk
    subst hk
    rcases List.mem_cons.1 h with e | h
    ·obtain ⟨rfl,rfl⟩:=Prod.mk.inj e
     exact .inr ⟨o,rfl,List.mem_cons_self⟩
    ·rcases nI h with h | ⟨o,e,h⟩
     ·exact .inl (List.mem_cons_of_mem _ h)
     ·exact .inr ⟨o,e,List.mem_cons_of_mem _ h⟩
   ·exact keep h
  ·exact keep h
section
variable {P:Program} {TB:a6} {E:Env TB} {n:Sh} {s:St} {ops:Array Oper} {l:List Oper} {Q:bX} {cd:Code}
theorem R.gT {k:Nat} {T:TypeId} {ps:List CP} {a:Act} {w:World} (hr:R E n s a w) (hk:lk s.own k = some (.box T ps)):R E n ⟨kT k ps s.slots,del k s.own⟩ a w:=by
 obtain ⟨h1,h2,h,ρ,hw,hs⟩:=hr
 obtain ⟨g,cur,hρ,hh,hc⟩:=fV hw hk
 have hown:=hw.owned k _ (bw hk)
 have hg:=hown.2.1 g (.inl (by rw [hρ]; rfl))
 have hle:h.le (ck h g cur.toList):=fun b o v hv=>by
  unfold ck
  split
  ·rename_i e; subst e; rw [hg.2 o] at hv; simp at hv
  ·exact hv
 have hrd:Reads (ck h g cur.toList) g 0 ps:=fun j c hj=>by
  obtain ⟨u,hu,hp⟩:=hc.get j c hj
  exact ⟨u,by simp only [ck,if_true,Nat.zero_add]; exact hu,c.mono hle hp⟩
 refine ⟨h1,h2,ck h g cur.toList,ρ,⟨?_,PH.le_trans hw.le hle,?_,hw.size,hw.same,hw.fixed,hw.os,hw.out,hw.nl,?_⟩,?_⟩
 ·intro b o v hv
  unfold ck at hv
  split at hv
  ·rename_i e; subst e
   exact iQ hh (by simpa using hv) (hc.one v (List.mem_of_getElem? hv))
  ·exact hw.agree b o v hv
 ·intro b hb hnl
  rw [← hw.fresh b hb hnl]
  funext o
  unfold ck
  rw [if_neg fun e=>by
   subst e
   rcases hg.1 with h | h
   ·omega
   ·exact hnl h]
 ·intro j c hj
  obtain ⟨hj1,hj2⟩:=cK hj
  obtain ⟨e1,e2,e3⟩:=hw.owned j c hj1
  refine ⟨e1.mono hle,fun b hb=>⟨(e2 b hb).1,fun o=>?_⟩,fun j' c' hj'=>e3 j' c' (cK hj').1⟩
  have hbg:b ≠ g:=fun e=>by
   subst e
   exact e3 k _ (bw hk) (fun e=>hj2 e.symm) b hb (.inl (by rw [hρ]; rfl))
  unfold ck
  rw [if_neg hbg]
  exact (e2 b hb).2 o
 ·intro j x hx
  rcases nI hx with hx2 | ⟨o,rfl,hx2⟩
  ·obtain ⟨v,hv,hrel⟩:=hs j x hx2
   exact ⟨v,hv,SV.mono hle (fun _ _=>rfl) hrel⟩
  ·obtain ⟨v,hv,b,e1,e2⟩:=hs j _ hx2
   rw [hρ] at e1
   have:g = b:=by simpa using e1
   subst this
   exact ⟨v,hv,g,o,e2,by have:=hrd.drop o; rwa [Nat.zero_add] at this⟩
theorem ab.gT (k:Nat) {T:TypeId} {ps:List CP} (hk:lk s.own k = some (.box T ps)) (h:ab P E n cd ⟨kT k ps s.slots,del k s.own⟩ Q):ab P E n cd s Q:=fun a w hr=>h a w (hr.gT hk)
theorem ae.gT (k:Nat) {T:TypeId} {ps:List CP} (hk:lk s.own k = some (.box T ps)) (h:ae P E n ops l ⟨kT k ps s.slots,del k s.own⟩ Q):ae P E n ops l s Q:=fun a w hr=>h a w (hr.gT hk)
theorem Fin.gT {e:Exit} (k:Nat) {T:TypeId} {ps:List CP} (hk:lk s.own k = some (.box T ps)) (h:Fin E n e ⟨kT k ps s.slots,del k s.own⟩ Q):Fin E n e s Q:=fun a w hr=>h a w (hr.gT hk)
end
end Go.Sk
namespace Go.Sk
set_option linter.unusedSimpArgs false
set_option linter.unusedVariables false
open Go Go.BigFrame
section
variable {P:Program} {TB:a6} {E:Env TB} {n:Sh} {s:St} {dst:Option Nat} {ty:TypeId} {pos:String} {after:Array Edge} {g:Option (Nat × Bool)} {x y:Operand}
end
end Go.Sk
namespace Go.Sk
set_option linter.unusedSimpArgs false
set_option linter.unusedVariables false
open Go Go.BigFrame
section
variable {P:Program} {TB:a6} {E:Env TB} {n:Sh} {s:St} {dst:Option Nat} {t ty yt:TypeId} {pos:String} {after:Array Edge} {g:Option (Nat × Bool)} {x y c:Operand} {Q:bX} {cd:Code} {ops:Array Oper} {l:List Oper}
variable {own:List (Nat × OC)} {h:PH} {ρ:RM} {w:World} {k kp i size bytes:Nat} {T e:TypeId} {hole:ry} {ess:List (List (List CP))} {us:List Value} {v:Value}
theorem oN.len (x:oN h v w T e size hole ess us):us.length = ess.length:=by have:=x.out.1; omega
theorem oN.at (x:oN h v w T e size hole ess us) {i:Nat} {u:Value} (hi:us[i]? = some u):∃ es,ess[i]? = some es:=by
 have h4:i < us.length:=(List.getElem?_eq_some_iff.1 hi).1
 exact ⟨_,List.getElem?_eq_getElem (by rw [← x.len]; exact h4)⟩
theorem oN.cr (x:oN h v w T e size hole ess us) {b:Nat}:(OC.rr T e size hole ess).cr v w b ↔ aV v = some b ∨ ∃ (i:Nat) (u:Value),us[i]? = some u ∧ ¬ hole.has i ∧ aV u = some b:=or_congr Iff.rfl x.inner
theorem oN.lt (x:oN h v w T e size hole ess us) {i b:Nat} {u:Value} (h1:us[i]? = some u) (h2:¬ hole.has i) (h3:aV u = some b):b < w.heap.size:=by
 obtain ⟨es,hes⟩:=x.at h1
 obtain ⟨xs,h6,_⟩:=(x.rows i u es h1 hes h2).row
 exact mu h6 h3
end
end Go.Sk
namespace Go.Sk
set_option linter.unusedSimpArgs false
set_option linter.unusedVariables false
open Go Go.BigFrame
section
variable {P:Program} {TB:a6} {E:Env TB} {n:Sh} {s:St} {dst:Option Nat} {t ty yt:TypeId} {pos:String} {after:Array Edge} {g:Option (Nat × Bool)} {x y c:Operand} {Q:bX} {cd:Code} {ops:Array Oper} {l:List Oper} {o:Oper}
variable {own:List (Nat × OC)} {h:PH} {ρ:RM} {w:World} {k kp i size bytes:Nat} {T e:TypeId} {hole:ry} {ess:List (List (List CP))} {us:List Value} {v:Value}
variable {j ki:Nat} {m rest:mJ} {cur:Option (Int × Int)}
def xcv:List BV → Option (List CV)
 | []=>some []
 | z :: l=>(BV.cv z).bind fun q=>(xcv l).map fun r=>q :: r
theorem tV:∀ {zs:List BV} {cs:List CV} {vs:List Value},xcv zs = some cs → aU (fun (x:BV) u=>x.rel h ρ u ∧ u.oneCell' = true) zs vs → aU (fun (x:CV) u=>x.rel h ρ u ∧ u.oneCell' = true) cs vs
 | [],cs,_,hc,.nil=>by cases hc; exact .nil
 | z :: zs,cs,_,hc,.cons h1 t=>by
  unfold xcv at hc
  simp only [Option.bind_eq_some_iff,Option.map_eq_some_iff] at hc
  obtain ⟨q,hq,r,hr,rfl⟩:=hc
  exact .cons ⟨BV.cv_rel hq h1.1,h1.2⟩ (tV hr t)
theorem bA.res {s1:St} {d:Option Nat} {z z':SV} (h1:bA P E n o s (s1.put n d z)) (hz:∀ h ρ v,z.rel h ρ v → z'.rel h ρ v):bA P E n o s (s1.put n d z'):=fun a w hr next Q hn=>h1 a w hr next Q fun a' w' hr'=>hn a' w' (by
 cases d with
 | none=>exact hr'
 | some d=>
  simp only [St.put,St.set] at hr' ⊢
  split at hr'
  ·next hd=>
   rw [if_pos hd]
   obtain ⟨h1,h2,h,ρ,hw,hs⟩:=hr'
   refine ⟨h1,h2,h,ρ,hw,fun j q hq=>?_⟩
   cases List.mem_cons.1 hq with
   | inl e=>
    obtain ⟨rfl,rfl⟩:=Prod.mk.inj e
    obtain ⟨u,hu,hrel⟩:=hs j z List.mem_cons_self
    exact ⟨u,hu,hz _ _ _ hrel⟩
   | inr e=>exact hs j q (List.mem_cons_of_mem _ e)
  ·next hd=>rw [if_neg hd]; exact hr')
end
end Go.Sk
namespace Go.Sk
set_option linter.unusedSimpArgs false
set_option linter.unusedVariables false
open Go
def bC {α:Type} (m:Option α) (Q:α → Prop):Prop:=∃ x,m = some x ∧ Q x
section
variable {α β γ δ ε:Type} {m:Option α} {Q:β → Prop} {P:α → Prop}
theorem bC.some {x:β} (h:Q x):bC (some x) Q:=⟨x,rfl,h⟩
theorem bC.bind {k:α → Option β} (h:bC m P) (h2:∀ x,P x → bC (k x) Q):bC (m.bind k) Q:=by
 obtain ⟨x,rfl,hp⟩:=h
 exact h2 x hp
theorem bC.mO {k:α → Option β} {x:α} (h:m = Option.some x) (h2:bC (k x) Q):bC (m.bind k) Q:=by
 subst h; exact h2
theorem bC.ite {c:Bool} {A B:Option β} (h1:c = true → bC A Q) (h2:c = false → bC B Q):bC (if c = true then A else B) Q:=by
 cases c
 ·exact h2 rfl
 ·exact h1 rfl
theorem bC.eq {x:α} (h:bC m (· = x)):m = Option.some x:=by obtain ⟨y,h1,h2⟩:=h; rw [h1,h2]
theorem bC.of {x:α} (h:m = Option.some x):bC m (· = x):=⟨x,h,rfl⟩
theorem bC.mono {P':α → Prop} (h:bC m P) (h2:∀ x,P x → P' x):bC m P':=by obtain ⟨x,h1,h3⟩:=h; exact ⟨x,h1,h2 x h3⟩
theorem bC.idx [Inhabited α] {l:List α} {i:Int} {k:α → Option β} (h0:0 ≤ i) (h1:i < l.length) (h:bC (k (idx l i)) Q):bC ((a8 l i).bind k) Q:=by
 rw [mR h0 h1]; exact h
theorem bC.g1 [Inhabited α] {g:Bool} {k:α → Option β} (hg:g = true) (h:bC (m.bind k) Q):bC ((bD g m).bind k) Q:=by subst hg; exact h
theorem bC.g0 [Inhabited α] {g:Bool} {k:α → Option β} (hg:g = false) (h:bC (k default) Q):bC ((bD g m).bind k) Q:=by subst hg; exact h
theorem bC.app {xs ys:List α} {k:List α → Option β} (h0:xs.length + ys.length ≤ 1000000000) (h:bC (k (xs ++ ys)) Q):bC ((dE xs ys).bind k) Q:=by
 rw [app?_eq h0]; exact h
theorem bC.take {xs:List α} {i:Int} {k:List α → Option β} (h0:0 ≤ i) (h1:i ≤ xs.length) (h:bC (k (xs.take i.toNat)) Q):bC ((oQ xs i).bind k) Q:=by
 simp only [oQ,h0,h1,and_self,if_true]; exact h
theorem bC.drop {xs:List α} {i:Int} {k:List α → Option β} (h0:0 ≤ i) (h1:i ≤ xs.length) (h:bC (k (xs.drop i.toNat)) Q):bC ((tQ xs i).bind k) Q:=by
 simp only [tQ,h0,h1,and_self,if_true]; exact h
theorem bC.rounds {σ τ:Type} {body:σ → Option (σ ⊕ τ)} {Q:τ → Prop} (n:Nat) (I:Nat → σ → Prop) {s:σ} {F:Nat} (hF:n < F) (h0:I 0 s)
  (step:∀ k s,k ≤ n → I k s → bC (body s) fun o=>(∃ s',o = .inl s' ∧ I (k + 1) s' ∧ k < n) ∨ ∃ t,o = .inr t ∧ Q t):bC (iter F body s) Q:=by
 have key:∀ d F k s,k + d = n → d < F → I k s → bC (iter F body s) Q:=by
  intro d
  induction d with
  | zero=>
   intro F k s hk hF hI
   obtain ⟨F,rfl⟩:∃ f,F = f + 1:=⟨F - 1,by omega⟩
   obtain ⟨o,ho,h⟩:=step k s (by omega) hI
   rw [eb,ho]
   rcases h with ⟨s',rfl,_,hlt⟩ | ⟨t,rfl,hq⟩
   ·omega
   ·exact ⟨t,rfl,hq⟩
  | succ d ih=>
   intro F k s hk hF hI
   obtain ⟨F,rfl⟩:∃ f,F = f + 1:=⟨F - 1,by omega⟩
   obtain ⟨o,ho,h⟩:=step k s (by omega) hI
   rw [eb,ho]
   rcases h with ⟨s',rfl,hI',_⟩ | ⟨t,rfl,hq⟩
   ·exact ih F (k + 1) s' (by omega) (by omega) hI'
   ·exact ⟨t,rfl,hq⟩
 exact key n F 0 s (by omega) hF h0
theorem bC.loop {σ τ:Type} {body:σ → Option (σ ⊕ τ)} {Q:τ → Prop} (I:σ → Prop) (μ:σ → Nat) {s:σ} {F:Nat} (h0:I s) (hF:μ s < F)
  (step:∀ s,I s → bC (body s) fun o=>(∃ s',o = .inl s' ∧ I s' ∧ μ s' < μ s) ∨ ∃ t,o = .inr t ∧ Q t):bC (iter F body s) Q:=by
 refine uQ I μ Q (fun s hI=>?_) F s h0 hF
 obtain ⟨o,ho,h⟩:=step s hI
 refine ⟨o,ho,fun s' e=>?_,fun t e=>?_⟩
 ·subst e
  rcases h with ⟨s'',e,h1,h2⟩ | ⟨t,e,_⟩
  ·cases e; exact ⟨h1,h2⟩
  ·cases e
 ·subst e
  rcases h with ⟨s'',e,_⟩ | ⟨t',e,h1⟩
  ·cases e
  ·cases e; exact h1
end
theorem wu64 (z:Int):IntKind.u64.wrap z = z % 18446744073709551616:=by simp [IntKind.wrap,IntKind.signed,IntKind.bits]
theorem wi64 (z:Int):IntKind.i64.wrap z = (z + 9223372036854775808) % 18446744073709551616 - 9223372036854775808:=by
 simp [IntKind.wrap,IntKind.signed,IntKind.bits]; split <;> omega
theorem oO {z:Int} (h1:-9223372036854775808 ≤ z) (h2:z ≤ 9223372036854775807):IntKind.i64.wrap z = z:=by rw [wi64]; omega
def ds (b:Int) (f:Nat → Int):Nat → Int
 | 0=>0
 | n + 1=>ds b f n + f n * b ^ n
def nd (b z:Int) (i:Nat):Int:=z / b ^ i % b
end Go.Sk
namespace Go.Sk
set_option linter.unusedSimpArgs false
set_option linter.unusedVariables false
open Go Go.BigFrame
@[reducible] def un9 {A1 A2 A3 A4 A5 A6 A7 A8 A9 γ:Type} (f:A1 → A2 → A3 → A4 → A5 → A6 → A7 → A8 → A9 → γ) (z:A1 × A2 × A3 × A4 × A5 × A6 × A7 × A8 × A9):γ:=f z.1 z.2.1 z.2.2.1 z.2.2.2.1 z.2.2.2.2.1 z.2.2.2.2.2.1 z.2.2.2.2.2.2.1 z.2.2.2.2.2.2.2.1 z.2.2.2.2.2.2.2.2
@[reducible] def un10 {A1 A2 A3 A4 A5 A6 A7 A8 A9 A10 γ:Type} (f:A1 → A2 → A3 → A4 → A5 → A6 → A7 → A8 → A9 → A10 → γ) (z:A1 × A2 × A3 × A4 × A5 × A6 × A7 × A8 × A9 × A10):γ:=f z.1 z.2.1 z.2.2.1 z.2.2.2.1 z.2.2.2.2.1 z.2.2.2.2.2.1 z.2.2.2.2.2.2.1 z.2.2.2.2.2.2.2.1 z.2.2.2.2.2.2.2.2.1 z.2.2.2.2.2.2.2.2.2
@[reducible] def un11 {A1 A2 A3 A4 A5 A6 A7 A8 A9 A10 A11 γ:Type} (f:A1 → A2 → A3 → A4 → A5 → A6 → A7 → A8 → A9 → A10 → A11 → γ) (z:A1 × A2 × A3 × A4 × A5 × A6 × A7 × A8 × A9 × A10 × A11):γ:=f z.1 z.2.1 z.2.2.1 z.2.2.2.1 z.2.2.2.2.1 z.2.2.2.2.2.1 z.2.2.2.2.2.2.1 z.2.2.2.2.2.2.2.1 z.2.2.2.2.2.2.2.2.1 z.2.2.2.2.2.2.2.2.2.1 z.2.2.2.2.2.2.2.2.2.2
@[reducible] def un12 {A1 A2 A3 A4 A5 A6 A7 A8 A9 A10 A11 A12 γ:Type} (f:A1 → A2 → A3 → A4 → A5 → A6 → A7 → A8 → A9 → A10 → A11 → A12 → γ) (z:A1 × A2 × A3 × A4 × A5 × A6 × A7 × A8 × A9 × A10 × A11 × A12):γ:=f z.1 z.2.1 z.2.2.1 z.2.2.2.1 z.2.2.2.2.1 z.2.2.2.2.2.1 z.2.2.2.2.2.2.1 z.2.2.2.2.2.2.2.1 z.2.2.2.2.2.2.2.2.1 z.2.2.2.2.2.2.2.2.2.1 z.2.2.2.2.2.2.2.2.2.2.1 z.2.2.2.2.2.2.2.2.2.2.2
@[reducible] def un13 {A1 A2 A3 A4 A5 A6 A7 A8 A9 A10 A11 A12 A13 γ:Type} (f:A1 → A2 → A3 → A4 → A5 → A6 → A7 → A8 → A9 → A10 → A11 → A12 → A13 → γ) (z:A1 × A2 × A3 × A4 × A5 × A6 × A7 × A8 × A9 × A10 × A11 × A12 × A13):γ:=f z.1 z.2.1 z.2.2.1 z.2.2.2.1 z.2.2.2.2.1 z.2.2.2.2.2.1 z.2.2.2.2.2.2.1 z.2.2.2.2.2.2.2.1 z.2.2.2.2.2.2.2.2.1 z.2.2.2.2.2.2.2.2.2.1 z.2.2.2.2.2.2.2.2.2.2.1 z.2.2.2.2.2.2.2.2.2.2.2.1 z.2.2.2.2.2.2.2.2.2.2.2.2
@[reducible] def un14 {A1 A2 A3 A4 A5 A6 A7 A8 A9 A10 A11 A12 A13 A14 γ:Type} (f:A1 → A2 → A3 → A4 → A5 → A6 → A7 → A8 → A9 → A10 → A11 → A12 → A13 → A14 → γ) (z:A1 × A2 × A3 × A4 × A5 × A6 × A7 × A8 × A9 × A10 × A11 × A12 × A13 × A14):γ:=f z.1 z.2.1 z.2.2.1 z.2.2.2.1 z.2.2.2.2.1 z.2.2.2.2.2.1 z.2.2.2.2.2.2.1 z.2.2.2.2.2.2.2.1 z.2.2.2.2.2.2.2.2.1 z.2.2.2.2.2.2.2.2.2.1 z.2.2.2.2.2.2.2.2.2.2.1 z.2.2.2.2.2.2.2.2.2.2.2.1 z.2.2.2.2.2.2.2.2.2.2.2.2.1 z.2.2.2.2.2.2.2.2.2.2.2.2.2
@[reducible] def un15 {A1 A2 A3 A4 A5 A6 A7 A8 A9 A10 A11 A12 A13 A14 A15 γ:Type} (f:A1 → A2 → A3 → A4 → A5 → A6 → A7 → A8 → A9 → A10 → A11 → A12 → A13 → A14 → A15 → γ) (z:A1 × A2 × A3 × A4 × A5 × A6 × A7 × A8 × A9 × A10 × A11 × A12 × A13 × A14 × A15):γ:=f z.1 z.2.1 z.2.2.1 z.2.2.2.1 z.2.2.2.2.1 z.2.2.2.2.2.1 z.2.2.2.2.2.2.1 z.2.2.2.2.2.2.2.1 z.2.2.2.2.2.2.2.2.1 z.2.2.2.2.2.2.2.2.2.1 z.2.2.2.2.2.2.2.2.2.2.1 z.2.2.2.2.2.2.2.2.2.2.2.1 z.2.2.2.2.2.2.2.2.2.2.2.2.1 z.2.2.2.2.2.2.2.2.2.2.2.2.2.1 z.2.2.2.2.2.2.2.2.2.2.2.2.2.2
@[reducible] def un16 {A1 A2 A3 A4 A5 A6 A7 A8 A9 A10 A11 A12 A13 A14 A15 A16 γ:Type} (f:A1 → A2 → A3 → A4 → A5 → A6 → A7 → A8 → A9 → A10 → A11 → A12 → A13 → A14 → A15 → A16 → γ) (z:A1 × A2 × A3 × A4 × A5 × A6 × A7 × A8 × A9 × A10 × A11 × A12 × A13 × A14 × A15 × A16):γ:=f z.1 z.2.1 z.2.2.1 z.2.2.2.1 z.2.2.2.2.1 z.2.2.2.2.2.1 z.2.2.2.2.2.2.1 z.2.2.2.2.2.2.2.1 z.2.2.2.2.2.2.2.2.1 z.2.2.2.2.2.2.2.2.2.1 z.2.2.2.2.2.2.2.2.2.2.1 z.2.2.2.2.2.2.2.2.2.2.2.1 z.2.2.2.2.2.2.2.2.2.2.2.2.1 z.2.2.2.2.2.2.2.2.2.2.2.2.2.1 z.2.2.2.2.2.2.2.2.2.2.2.2.2.2.1 z.2.2.2.2.2.2.2.2.2.2.2.2.2.2.2
section
variable {P:Program} {TB:a6} {E:Env TB} {n:Sh} {s:St} {dst:Option Nat} {t ty yt:TypeId} {pos:String} {after:Array Edge} {g:Option (Nat × Bool)} {x y c:Operand} {Q:bX} {cd:Code} {ops:Array Oper} {l:List Oper} {o:Oper}
variable {k kp i size bytes:Nat} {T e:TypeId} {hole:ry} {ess:List (List (List CP))} {q:List (List CP)}
theorem av.tM {P:Program} {TB:a6} {f:FuncId} {args:List BV} {own_a own':List (Nat × OC)} {T:TypeId} {size:Nat} {es:List (List CP)} {res:SV} (h:av P TB f own_a args (Is own' res)) (k0:Nat) (hk:lk own' k0 = some (.row T size es)):av P TB f own_a args (Is (kF k0 (.sl size es) (del k0 own')) (res.dC k0 (.sl size es))):=by
 intro w hh ρ vals tb hag hl hargs
 refine (h w hh ρ vals tb hag hl hargs).mono ?_
 rintro e w' ⟨v,own',res,h',ρ',rfl,⟨rfl,rfl⟩,hw,hres⟩
 have hR:R ⟨w,hh,ρ,tb⟩ ⟨1,aE own_a,aI own_a,[]⟩ ⟨[(0,res)],own'⟩ ⟨#[v],[]⟩ w':=⟨rfl,rfl,h',ρ',WR.sh (n:=⟨0,aE own_a,aI own_a,[]⟩) (n':=⟨1,aE own_a,aI own_a,[]⟩) rfl rfl hw,fun k x hx=>by
  simp only [List.mem_singleton,Prod.mk.injEq] at hx
  obtain ⟨rfl,rfl⟩:=hx
  exact ⟨v,by simp,hres⟩⟩
 obtain ⟨_,_,h'',ρ'',hw'',hs''⟩:=hR.cO (k:=k0) hk
 obtain ⟨u,hu,hur⟩:=hs'' 0 (res.dC k0 (.sl size es)) (by simp [ja])
 have huv:u = v:=by simpa using hu.symm
 subst huv
 exact ⟨u,_,_,h'',ρ'',rfl,⟨rfl,rfl⟩,WR.sh (n:=⟨1,aE own_a,aI own_a,[]⟩) (n':=⟨0,aE own_a,aI own_a,[]⟩) rfl rfl hw'',hur⟩
theorem bA.then' {s1 s2:St} (h1:bA P E n o s s1) (h:∀ a w,R E n s1 a w → R E n s2 a w):bA P E n o s s2:=fun a w hr next Q hn=>h1 a w hr next Q fun a' w' hr'=>hn a' w' (h a' w' hr')
theorem bA.qE (kos:List Nat) {s1 s2:St} (h1:bA P E n o s s1) (e:(⟨s1.slots,mM kos s1.own⟩:St) = s2):bA P E n o s s2:=h1.then' fun a w hr=>e ▸ (by
 obtain ⟨hd,hn,h,ρ,hw,hs⟩:=hr
 exact ⟨hd,hn,h,ρ,hw.sub fun _ hp=>iD hp,hs⟩)
theorem bA.dC (k:Nat) {s1:St} {es:List (List CP)} (h1:bA P E n o s s1) (hk:lk s1.own k = some (.row T size es)):bA P E n o s ⟨ja k (.sl size es) s1.slots,kF k (.sl size es) (del k s1.own)⟩:=h1.then' fun a w hr=>hr.cO hk
theorem CV.gI {k:Nat} {p:CP} {z:CV} (h:z.bm k = false):z.dC k p = z:=by
 cases z with
 | row j=>
  have h:(j == k) = false:=h
  have:(k == j) = false:=by rw [Bool.eq_false_iff] at h ⊢; intro e; exact h (by simpa using (by simpa using e:k = j).symm)
  simp [CV.dC,this]
 | _=>rfl
theorem iE {α:Type} {f:α → α}:∀ {l:List α},(∀ x ∈ l,f x = x) → l.map f = l
 | [],_=>rfl
 | x :: l,h=>by rw [List.map_cons,h x List.mem_cons_self,iE fun y hy=>h y (List.mem_cons_of_mem _ hy)]
theorem BV.gI {k:Nat} {p:CP} {z:BV} (h:z.bm k = false):z.dC k p = z:=by
 cases z with
 | row j=>
  have h:(j == k) = false:=h
  have:(k == j) = false:=by rw [Bool.eq_false_iff] at h ⊢; intro e; exact h (by simpa using (by simpa using e:k = j).symm)
  simp [BV.dC,this]
 | rm f fs cs=>
  have h:(fs.any (·.bm k) || cs.any (·.bm k)) = false:=h
  simp only [Bool.or_eq_false_iff,List.any_eq_false] at h
  simp only [BV.dC]
  rw [iE fun x hx=>CV.gI (by simpa using h.1 x hx),iE fun x hx=>CV.gI (by simpa using h.2 x hx)]
 | xa cs=>
  have h:cs.any (·.bm k) = false:=h
  simp only [List.any_eq_false] at h
  simp only [BV.dC]
  rw [iE fun x hx=>CV.gI (by simpa using h x hx)]
 | _=>rfl
theorem SV.gI {k:Nat} {p:CP} {z:SV} (h:z.bm k = false):z.dC k p = z:=by
 cases z with
 | b z=>exact congrArg SV.b (BV.gI h)
 | dF l=>
  have h:l.any (·.bm k) = false:=h
  simp only [List.any_eq_false] at h
  simp only [SV.dC]
  rw [iE fun x hx=>BV.gI (by simpa using h x hx)]
 | jB l=>
  have h:l.any (·.bm k) = false:=h
  simp only [List.any_eq_false] at h
  simp only [SV.dC]
  rw [iE fun x hx=>BV.gI (by simpa using h x hx)]
 | opt c z=>exact congrArg (SV.opt c) (BV.gI h)
theorem mv {α:Type} {k:Nat}:∀ {l:List (Nat × α)} {p:Nat × α},p ∈ l → p.1 ≠ k → p ∈ del k l
 | (j,x) :: l,p,h,hn=>by
  unfold del
  cases List.mem_cons.1 h with
  | inl e=>subst e; rw [if_neg (by simpa using fun e=>hn e.symm)]; exact List.mem_cons_self
  | inr e=>
   split
   ·exact mv e hn
   ·exact List.mem_cons_of_mem _ (mv e hn)
theorem ix {k:Nat} {p:CP}:∀ {l:List (Nat × SV)} {j:Nat} {y:SV},(j,y) ∈ l → (j,y.dC k p) ∈ ja k p l
 | (i,z) :: l,j,y,h=>by
  unfold ja
  cases List.mem_cons.1 h with
  | inl e=>obtain ⟨rfl,rfl⟩:=Prod.mk.inj e; exact List.mem_cons_self
  | inr e=>exact List.mem_cons_of_mem _ (ix e)
theorem bA.persD (k2:Nat) {sl:List (Nat × SV)} {own:List (Nat × OC)} {es:List (List CP)} (h1:bA P E n o s ((⟨cw k2 sl,own⟩:St).put n o.dst (.b (.row k2)))) (hk:lk own k2 = some (.row T size es)) :
  bA P E n o s ((⟨cw k2 sl,kF k2 (.sl size es) (del k2 own)⟩:St).put n o.dst (.b (.one (.sl size es)))):=h1.then' fun a w hr=>by
 have hown:∀ (z:St) (d:Option Nat) (x:SV),(z.put n d x).own = z.own:=fun z d x=>by
  unfold St.put; split
  ·unfold St.set; split <;> rfl
  ·rfl
 have hp:=hr.cO (k:=k2) (T:=T) (size:=size) (es:=es) (by rw [hown]; exact hk)
 rw [hown] at hp
 obtain ⟨hd,hn,h,ρ,hw,hs⟩:=hp
 refine ⟨hd,hn,h,ρ,by rw [hown]; exact hw,fun j x hx=>?_⟩
 have u4:∀ {z:SV},(j,z) ∈ cw k2 sl → (∀ d,o.dst = some d → j ≠ d) → ∃ v,a.tmps[j]? = some v ∧ z.rel h ρ v:=fun {z} hz hj=>by
  have e:=(dY hz).2
  have hm:(j,z) ∈ ((⟨cw k2 sl,own⟩:St).put n o.dst (.b (.row k2))).slots:=by
   unfold St.put; split
   ·next d e2=>
    unfold St.set; split
    ·exact List.mem_cons_of_mem _ (mv hz (hj d e2))
    ·exact hz
   ·exact hz
  have:=hs j _ (ix (k:=k2) (p:=.sl size es) hm)
  rwa [SV.gI e] at this
 cases hdst:o.dst with
 | none=>
  rw [hdst] at hx
  exact u4 hx (fun d e=>by rw [hdst] at e; cases e)
 | some d=>
  rw [hdst] at hx
  simp only [St.put,St.set] at hx
  split at hx
  ·next hlt=>
   cases List.mem_cons.1 hx with
   | inl e=>
    obtain ⟨rfl,rfl⟩:=Prod.mk.inj e
    have hm:(j,SV.b (.row k2)) ∈ ((⟨cw k2 sl,own⟩:St).put n o.dst (.b (.row k2))).slots:=by
     rw [hdst]; simp only [St.put,St.set,hlt,if_true]; exact List.mem_cons_self
    have:=hs j _ (ix (k:=k2) (p:=.sl size es) hm)
    simpa [SV.dC,BV.dC] using this
   | inr e=>exact u4 (cK e).1 (fun d' e'=>by rw [hdst] at e'; cases e'; exact (cK e).2)
  ·next hlt=>
   by_cases hjd:j = d
   ·exfalso
    subst hjd
    have hm:(j,x) ∈ ((⟨cw k2 sl,own⟩:St).put n o.dst (.b (.row k2))).slots:=by
     rw [hdst]; simp only [St.put,St.set,hlt,if_false]; exact hx
    obtain ⟨v,hv,_⟩:=hs j _ (ix (k:=k2) (p:=.sl size es) hm)
    have:=(Array.getElem?_eq_some_iff.1 hv).1
    omega
   ·exact u4 hx (fun d' e'=>by rw [hdst] at e'; cases e'; exact hjd)
theorem ab.gi (k i size:Nat) {T:TypeId} {ps:List CP} (hk:lk s.own k = some (.box T ps)) (hi:ps[i]? = some .nil) (hz:0 < size) (h:ab P E n cd ⟨s.slots,ins k (.box T (ps.set i (.sl size []))) s.own⟩ Q):ab P E n cd s Q:=fun a w hr=>h a w (hr.gi hk hi hz)
theorem ae.gi (k i size:Nat) {T:TypeId} {ps:List CP} (hk:lk s.own k = some (.box T ps)) (hi:ps[i]? = some .nil) (hz:0 < size) (h:ae P E n ops l ⟨s.slots,ins k (.box T (ps.set i (.sl size []))) s.own⟩ Q):ae P E n ops l s Q:=fun a w hr=>h a w (hr.gi hk hi hz)
theorem tz {e:TypeId} (ht:P.underlying t = some (.slice e)) (hx:s.ev x = some (.b (.one .nil))) :
  bA P E n ⟨dst,.call ⟨.builtin .len,#[x],#[t]⟩,ty,pos,after,g⟩ s (s.put n dst (I 0)) :=
 bA.val (o:=⟨dst,.call ⟨.builtin .len,#[x],#[t]⟩,ty,pos,after,g⟩) fun ac w h ρ hw hs=>by
  have hv:=(aR hs hx:(CP.nil).rel h _)
  refine ⟨.int .i64 0,?_,rfl,oG (m:=0) (Nat.zero_le _)⟩
  rw [execOp_builtin,builtin_len]
  simp [hv.1,Builtin.len_,run_underlying ht,goInt]
inductive lS:List CP → List CP → Prop
 | nil:lS [] []
 | same {p:CP} {ps qs:List CP}:lS ps qs → lS (p :: ps) (p :: qs)
 | sl {size:Nat} {ps qs:List CP}:0 < size → lS ps qs → lS (.nil :: ps) (.sl size [] :: qs)
inductive j8:List BV → List BV → Prop
 | nil:j8 [] []
 | same {p:BV} {ps qs:List BV}:j8 ps qs → j8 (p :: ps) (p :: qs)
 | sl {size:Nat} {ps qs:List BV}:0 < size → j8 ps qs → j8 (.one .nil :: ps) (.one (.sl size []) :: qs)
theorem vu {h:PH} {size:Nat} {v:Value} (hz:0 < size) (hr:CP.nil.rel h v):(CP.sl size []).rel h v:=⟨fun ps hps=>by simp at hps,hz,.inl ⟨hr.1,rfl⟩⟩
theorem lS.rel {h:PH}:∀ {ps qs:List CP} {vs:List Value},lS ps qs → aG h ps vs → aG h qs vs
 | _,_,_,.nil,hr=>hr
 | _,_,_,.same hn,.cons a b=>.cons a (lS.rel hn b)
 | _,_,_,.sl hz hn,.cons a b=>.cons (vu hz a) (lS.rel hn b)
theorem j8.rel {h:PH} {ρ:RM}:∀ {ps qs:List BV} {vs:List Value},j8 ps qs → aU (fun (x:BV) u=>x.rel h ρ u ∧ u.oneCell' = true) ps vs → aU (fun (x:BV) u=>x.rel h ρ u ∧ u.oneCell' = true) qs vs
 | _,_,_,.nil,hr=>hr
 | _,_,_,.same hn,.cons a b=>.cons a (j8.rel hn b)
 | _,_,_,.sl hz hn,.cons a b=>.cons ⟨vu hz a.1,a.2⟩ (j8.rel hn b)
theorem bA.weak {s1:St} {x x':SV} (h1:bA P E n o s (s1.put n o.dst x)) (hx:∀ (h:PH) (ρ:RM) (v:Value),x.rel h ρ v → x'.rel h ρ v):bA P E n o s (s1.put n o.dst x'):=h1.then' fun a w hr=>by
 obtain ⟨hd,hn,h,ρ,hw,hs⟩:=hr
 have hown:∀ (x:SV),(s1.put n o.dst x).own = s1.own:=fun x=>by
  unfold St.put; split
  ·unfold St.set; split <;> rfl
  ·rfl
 refine ⟨hd,hn,h,ρ,by rw [hown] at hw ⊢; exact hw,fun j y hy=>?_⟩
 cases hdst:o.dst with
 | none=>rw [hdst] at hy hs; exact hs j y hy
 | some d=>
  rw [hdst] at hy hs
  simp only [St.put,St.set] at hy hs
  split at hy
  ·next hlt=>
   simp only [hlt,if_true] at hs
   cases List.mem_cons.1 hy with
   | inl e=>
    obtain ⟨rfl,rfl⟩:=Prod.mk.inj e
    obtain ⟨v,hv,hrel⟩:=hs j x List.mem_cons_self
    exact ⟨v,hv,hx h ρ v hrel⟩
   | inr e=>exact hs j y (List.mem_cons_of_mem _ e)
  ·next hlt=>
   simp only [hlt,if_false] at hs
   exact hs j y hy
theorem bA.nilA {s1:St} {ps qs:List CP} (hn:lS ps qs) (h1:bA P E n o s (s1.put n o.dst (.b (.agg ps)))):bA P E n o s (s1.put n o.dst (.b (.agg qs))) :=
 h1.weak fun _ _ _ ⟨cs,e,hr⟩=>⟨cs,e,hn.rel hr⟩
end
section
variable {P:Program} {TB:a6} {E:Env TB} {n:Sh} {s:St} {Q:bX} {cd:Code} {ops:Array Oper} {l:List Oper}
end
abbrev MapB:=List (Int × Bool)
def mB (m:MapB):List (Int × BV):=m.map fun p=>(p.1,.one (.bool p.2))
section
variable {P:Program} {TB:a6} {E:Env TB} {n:Sh} {s:St} {dst:Option Nat} {t ty yt:TypeId} {pos:String} {after:Array Edge} {g:Option (Nat × Bool)} {x y c:Operand}
end
def oU (zs:List Int):Option (List Int):=if zs.length < 1000000000 then some (sorted zs) else none
section
open Go Go.BigFrame Go.RowKit Go.Proofs Go.Shelf
variable {P:Program} {TB:a6} {ρ:Ren}
theorem ss (L:Lays.n189 P ρ) (hnil:av P TB (ρ.f 189) [] [.one .nil] (Is [] (.dF []))) {T:TypeId} {zs r:List Int} (hr:oU zs = some r):av P TB (ρ.f 189) [(1,.ew T 1 (zs.map eI))] [.row 1] (Is [(1,.ew T 1 (r.map eI))] (.dF [])):=by
 unfold oU at hr
 split at hr
 ·next hl=>
  cases hr
  intro w h ρ' vals tb hag hlent hargs
  obtain ⟨v,rfl,hv⟩:=wK hargs
  have hv':v = ρ' 1:=hv
  subst hv'
  have hw:=jC tb hag hlent
  obtain ⟨_,_,hf⟩:=nN hw (k:=1) rfl
  rcases hf with ⟨hn,h0⟩ | ⟨b,cap,cur,h1,h2,h3,h4,h5,h6⟩
  ·have hz:zs = []:=List.map_eq_nil_iff.1 h0
   subst hz
   refine (hnil w h ρ' _ tb hag (fun k c hk=>by simp at hk) (.cons (by rw [hn]; exact ⟨rfl,rfl⟩) .nil)).mono ?_
   rintro e w' ⟨v,own',res,h',ρ'',rfl,⟨rfl,rfl⟩,hc,vs,rfl,hvs⟩
   have e0:sorted [] = []:=by simp [sorted]
   exact ⟨_,_,_,h',ρ',rfl,⟨rfl,rfl⟩,by rw [e0]; exact hw.none hc,vs,rfl,by
    generalize vs.toList = l at hvs
    cases hvs
    exact .nil⟩
  rw [List.length_map] at h1 h3 h6
  rw [Nat.mul_one] at h5 h6
  obtain ⟨e1,e2⟩:=r4 h6
  have hlen:(sorted zs).length = zs.length:=List.length_mergeSort zs
  have hbl:b < w.heap.size:=(Array.getElem?_eq_some_iff.1 h2).1
  rw [h1]
  refine (Any.slices_Sort_int L b 0 cap zs w (tE h2 e1) hbl (by omega)).mono ?_
  rintro e w' ⟨rfl,q,os,rfl⟩
  have hsz:(Sort.putRow (Value.int .i64) (Sort.ahead w q) b 0 (sorted zs).toArray).heap.size = w.heap.size:=by simp [Sort.putRow,Sort.mapBlock,Sort.ahead]
  have hst:=hw.step (w':=Sort.grow (Sort.putRow (Value.int .i64) (Sort.ahead w q) b 0 (sorted zs).toArray) os) 1 (ρ' 1) (.ew T 1 ((sorted zs).map eI)) (some b) (fun b' e=>by cases e; exact ⟨.ew T 1 (zs.map eI),List.mem_cons_self,by rw [h1]; rfl⟩)
   (by rw [Sort.size_grow,hsz]; omega) rfl rfl (fun c hc hne=>by
    rw [Sort.heap_grow_old _ _ (by rw [hsz]; exact hc)]
    exact ik (w:=Sort.ahead w q) (fun e=>hne (by rw [e]))) ?_ (fun b' hb'=>by rw [h1] at hb'; simp [aV] at hb'; exact .inl (by rw [hb'])) (.inl rfl) (.inl rfl)
  ·have:lM ρ' 1 (ρ' 1) = ρ':=by funext j; simp only [lM]; split <;> simp_all
   rw [this] at hst
   exact ⟨.tuple #[],_,_,h,ρ',rfl,⟨rfl,rfl⟩,hst,_,rfl,.nil⟩
  ·refine ⟨uni_I _,by decide,(sorted zs).map (Value.int .i64),⟨by simp [hlen],.inr ⟨b,cap,Sort.putCells (Value.int .i64) 0 (sorted zs).toArray cur,by rw [h1,List.length_map,hlen],Nat.zero_le _,?_,by rw [List.length_map,hlen]; exact h3,h4,?_,?_⟩⟩,rO fun z hz=>e2 z (List.mem_mergeSort.1 hz)⟩
   ·rw [Sort.heap_grow_old _ _ (by rw [hsz]; exact hbl)]
    exact l7 (w:=Sort.ahead w q) h2
   ·simp [Sort.putCells,h5]
   ·rw [List.length_map,Nat.mul_one]
    exact p8 (by rw [h5,hlen]; exact h3)
 ·simp at hr
end
end Go.Sk
namespace Go.Sk
set_option linter.unusedSimpArgs false
set_option linter.unusedVariables false
open Go Go.ChangeShapes Go.WideShapes Go.ChangeAt Go.RowKit Go.Deep
theorem dt.sl {P:Program} {t el:TypeId} {α:Type} {e:α → List CP} {size:Nat} (ht:P.underlying t = some (.slice el)) (hc:P.cellsOf t = 1) (hr:dt P el e) (hs:P.cellsOf el = size) (hpos:0 < size):dt P t (eL size e) where
 len _:=by simp [hc,eL]
 op {H enc W sp held fuel cs x} hsp hf:=by
  subst hs
  have hu:∀ l:List α,cm (P.cellsOf el) (l.map e):=fun l=>bP fun x=>hr.len x
  rcases open_slice ht hf with ⟨h1,hx0⟩ | ⟨a,len,cap,m,n,D,Pl,h1,hb,hl,hm,hmm,hx,hi⟩
  ·subst h1
   exact ⟨[],.cons ⟨hu [],hpos,.inl ⟨rfl,rfl⟩⟩ .nil⟩
  ·subst h1
   rw [hsp,if_pos rfl] at hmm
   subst hmm
   by_cases hm0:m = 0
   ·subst hm0
    have:len = 0:=by omega
    subst this
    exact ⟨[],.cons ⟨hu [],hpos,.inr (.inr ⟨a,rfl,rfl⟩)⟩ .nil⟩
   ·obtain ⟨l,hll,hp⟩:=fG (p:=fun i a'=>aG (full W) (e a') ((W.cells? 0 (a.add (i * P.cellsOf el)) (P.cellsOf el)).getD [])) len fun i hil=>by
     obtain ⟨cs',h2,h3⟩:=hi i (by omega)
     obtain ⟨a',ha'⟩:=hr.op hsp h3
     exact ⟨a',by rw [h2]; exact ha'⟩
    have hspot:a.spot = none:=by
     obtain ⟨cs',h2,_⟩:=hi 0 (by omega)
     obtain ⟨_,hcl,hcell⟩:=World.cells?_some h2
     have h3:=hcell 0 hpos
     rw [Nat.zero_mul] at h3
     have e0:(a.add 0).add 0 = a:=by simp [Addr.add]
     rw [e0] at h3
     have hlt:0 < cs'.length:=by omega
     rw [List.getElem?_eq_getElem hlt] at h3
     unfold World.cell? at h3
     split at h3
     ·split at h3
      ·cases h3
      ·next hns=>simpa using hns
     ·cases h3
    obtain ⟨b,o,s⟩:=a
    simp only at hspot
    subst hspot
    refine ⟨l,.cons ⟨hu l,hpos,.inr (.inl ⟨b,o,m,by simp [hll],by simp [hll]; omega,hm,?_⟩)⟩ .nil⟩
    intro j c hj
    have hjl:j < (l.map e).flatten.length:=(List.getElem?_eq_some_iff.1 hj).1
    rw [ep (hu l),List.length_map,hll] at hjl
    have hi':j / P.cellsOf el < len:=by
     rw [Nat.div_lt_iff_lt_mul hpos]; exact hjl
    have hj':j % P.cellsOf el < P.cellsOf el:=Nat.mod_lt _ hpos
    have hdm:=Nat.div_add_mod j (P.cellsOf el)
    obtain ⟨cs',h2,h3⟩:=hi (j / P.cellsOf el) (by omega)
    have hli:l[j / P.cellsOf el]? = some (l[j / P.cellsOf el]'(by omega)):=List.getElem?_eq_getElem (by omega)
    have hrel:=hp _ _ hli
    rw [h2] at hrel
    have hget:=ff (hu l) (j / P.cellsOf el) (e (l[j / P.cellsOf el]'(by omega))) (by rw [List.getElem?_map,hli]; rfl) (j % P.cellsOf el) hj'
    have ej:j / P.cellsOf el * P.cellsOf el + j % P.cellsOf el = j:=by rw [Nat.mul_comm]; omega
    rw [ej,hj] at hget
    obtain ⟨u,hu1,hu2⟩:=aU.get hrel _ _ hget.symm
    refine ⟨u,?_,hu2⟩
    obtain ⟨_,hcl,hcell⟩:=World.cells?_some h2
    have:=hcell _ hj'
    simp only [Option.getD_some] at hu1
    have ea:((⟨b,o,none⟩:Addr).add (j / P.cellsOf el * P.cellsOf el)).add (j % P.cellsOf el) = ⟨b,o + j,none⟩:=by
     rw [iP,iP,Nat.add_assoc,ej]
    rw [hu1,ea] at this
    exact gv this (CP.one _ hu2)
end Go.Sk
namespace Go.Sk
set_option linter.unusedSimpArgs false
set_option linter.unusedVariables false
open Go
end Go.Sk
namespace Go.Sk
set_option linter.unusedSimpArgs false
set_option linter.unusedVariables false
open Go Go.ChangeShapes Go.WideShapes Go.ChangeAt Go.RowKit Go.Deep
structure BkOk {H:Type} (bk:DataW H → Nat):Prop where
 len:∀ els sp,els.length ≤ bk (.slice els sp)
 sl:∀ els sp d,d ∈ els → bk d ≤ bk (.slice els sp)
 agg:∀ ps d,d ∈ ps → bk d ≤ bk (.agg ps)
structure lD (P:Program) (t:TypeId) {α:Type} (e:α → List CP) (B:α → Nat → Prop):Prop where
 len:∀ a,(e a).length = P.cellsOf t
 mono:∀ a n m,B a n → n ≤ m → B a m
 op:∀ {H:Type} {enc:TypeId × Value → H} {W:World} {sp:Nat → Bool} {held:Bool} {fuel:Nat} {cs:List Value} {x:DataW H × List MemPlace},(∀ b,sp b = true) → DataW.trod enc P W 0 sp held fuel t cs = some x → ∃ a,aG (full W) (e a) cs ∧ ∀ bk:DataW H → Nat,BkOk bk → B a (bk x.1)
theorem lD.sl {P:Program} {t el:TypeId} {α:Type} {e:α → List CP} {B:α → Nat → Prop} {size:Nat} (ht:P.underlying t = some (.slice el)) (hc:P.cellsOf t = 1) (hr:lD P el e B) (hs:P.cellsOf el = size) (hpos:0 < size):lD P t (eL size e) (fun l n=>l.length ≤ n ∧ ∀ a ∈ l,B a n) where
 len _:=by simp [hc,eL]
 mono l n m h hnm:=⟨by have:=h.1; omega,fun a ha=>hr.mono a n m (h.2 a ha) hnm⟩
 op {H enc W sp held fuel cs x} hsp hf:=by
  subst hs
  have hu:∀ l:List α,cm (P.cellsOf el) (l.map e):=fun l=>bP fun x=>hr.len x
  rcases open_slice ht hf with ⟨h1,hx0⟩ | ⟨a,len,cap,m,n,D,Pl,h1,hb,hl,hm,hmm,hx,hi⟩
  ·subst h1
   exact ⟨[],.cons ⟨hu [],hpos,.inl ⟨rfl,rfl⟩⟩ .nil,fun bk hbk=>⟨Nat.zero_le _,by simp⟩⟩
  ·subst h1
   rw [hsp,if_pos rfl] at hmm
   subst hmm
   by_cases hm0:m = 0
   ·subst hm0
    have:len = 0:=by omega
    subst this
    exact ⟨[],.cons ⟨hu [],hpos,.inr (.inr ⟨a,rfl,rfl⟩)⟩ .nil,fun bk hbk=>⟨Nat.zero_le _,by simp⟩⟩
   ·obtain ⟨l,hll,hp⟩:=fG (p:=fun i a'=>aG (full W) (e a') ((W.cells? 0 (a.add (i * P.cellsOf el)) (P.cellsOf el)).getD []) ∧ ∀ bk:DataW H → Nat,BkOk bk → B a' (bk (D i))) len fun i hil=>by
     obtain ⟨cs',h2,h3⟩:=hi i (by omega)
     obtain ⟨a',ha',hB⟩:=hr.op hsp h3
     exact ⟨a',by rw [h2]; exact ha',hB⟩
    have hspot:a.spot = none:=by
     obtain ⟨cs',h2,_⟩:=hi 0 (by omega)
     obtain ⟨_,hcl,hcell⟩:=World.cells?_some h2
     have h3:=hcell 0 hpos
     rw [Nat.zero_mul] at h3
     have e0:(a.add 0).add 0 = a:=by simp [Addr.add]
     rw [e0] at h3
     have hlt:0 < cs'.length:=by omega
     rw [List.getElem?_eq_getElem hlt] at h3
     unfold World.cell? at h3
     split at h3
     ·split at h3
      ·cases h3
      ·next hns=>simpa using hns
     ·cases h3
    obtain ⟨b,o,s⟩:=a
    simp only at hspot
    subst hspot
    refine ⟨l,.cons ⟨hu l,hpos,.inr (.inl ⟨b,o,m,by simp [hll],by simp [hll]; omega,hm,?_⟩)⟩ .nil,fun bk hbk=>?_⟩
    ·intro j c hj
     have hjl:j < (l.map e).flatten.length:=(List.getElem?_eq_some_iff.1 hj).1
     rw [ep (hu l),List.length_map,hll] at hjl
     have hi':j / P.cellsOf el < len:=by
      rw [Nat.div_lt_iff_lt_mul hpos]; exact hjl
     have hj':j % P.cellsOf el < P.cellsOf el:=Nat.mod_lt _ hpos
     have hdm:=Nat.div_add_mod j (P.cellsOf el)
     obtain ⟨cs',h2,h3⟩:=hi (j / P.cellsOf el) (by omega)
     have hli:l[j / P.cellsOf el]? = some (l[j / P.cellsOf el]'(by omega)):=List.getElem?_eq_getElem (by omega)
     have hrel:=(hp _ _ hli).1
     rw [h2] at hrel
     have hget:=ff (hu l) (j / P.cellsOf el) (e (l[j / P.cellsOf el]'(by omega))) (by rw [List.getElem?_map,hli]; rfl) (j % P.cellsOf el) hj'
     have ej:j / P.cellsOf el * P.cellsOf el + j % P.cellsOf el = j:=by rw [Nat.mul_comm]; omega
     rw [ej,hj] at hget
     obtain ⟨u,hu1,hu2⟩:=aU.get hrel _ _ hget.symm
     refine ⟨u,?_,hu2⟩
     obtain ⟨_,hcl,hcell⟩:=World.cells?_some h2
     have:=hcell _ hj'
     simp only [Option.getD_some] at hu1
     have ea:((⟨b,o,none⟩:Addr).add (j / P.cellsOf el * P.cellsOf el)).add (j % P.cellsOf el) = ⟨b,o + j,none⟩:=by
      rw [iP,iP,Nat.add_assoc,ej]
     rw [hu1,ea] at this
     exact gv this (CP.one _ hu2)
    ·subst hx
     refine ⟨?_,fun a' ha'=>?_⟩
     ·show l.length ≤ bk (.slice ((List.range len).map D) ((List.range (m - len)).map fun j=>D (len + j)))
      have:=hbk.len ((List.range len).map D) ((List.range (m - len)).map fun j=>D (len + j))
      simp only [List.length_map,List.length_range] at this
      omega
     ·obtain ⟨i,hil,rfl⟩:=List.getElem_of_mem ha'
      have h6:=(hp i _ (List.getElem?_eq_getElem hil)).2 bk hbk
      exact hr.mono _ _ _ h6 (hbk.sl _ _ _ (List.mem_map.2 ⟨i,List.mem_range.2 (by omega),rfl⟩))
inductive lE (P:Program) (fs:Array Field) (T:Nat):Nat → Nat → {β:Type} → (β → List CP) → (β → Nat → Prop) → Prop where
 | nil {i:Nat} (hi:fs.size ≤ i):lE P fs T i T (fun _:Unit=>[]) (fun _ _=>True)
 | cons {i o:Nat} {α β:Type} {e:α → List CP} {B:α → Nat → Prop} {es:β → List CP} {Bs:β → Nat → Prop} {f:Field} (hf:fs[i]? = some f) (ho:f.offset = o) (hr:lD P f.type e B) (h:lE P fs T (i + 1) (o + P.cellsOf f.type) es Bs):lE P fs T i o (fun x:α × β=>e x.1 ++ es x.2) (fun x n=>B x.1 n ∧ Bs x.2 n)
theorem lE.op {P:Program} {fs:Array Field} {T i o:Nat} {β:Type} {es:β → List CP} {Bs:β → Nat → Prop} (h:lE P fs T i o es Bs) {H:Type} {enc:TypeId × Value → H} {W:World} {sp:Nat → Bool} {held:Bool} {n:Nat} {cs:List Value} {xs:List (DataW H × List MemPlace)} (hsp:∀ b,sp b = true) (hl:cs.length = T)
  (hx:xs.length = fs.size) (hv:∀ (j:Nat) (f:Field),fs[j]? = some f → DataW.trod enc P W 0 sp held n f.type ((cs.drop f.offset).take (P.cellsOf f.type)) = xs[j]?):∃ b,aG (full W) (es b) (cs.drop o) ∧ ∀ bk:DataW H → Nat,BkOk bk → Bs b (bk (.agg (xs.map (·.1)))):=by
 induction h with
 | nil hi=>exact ⟨(),by rw [List.drop_of_length_le (by omega)]; exact .nil,fun _ _=>trivial⟩
 | @cons i o α β e B es Bs f hf ho hr h ih=>
  obtain ⟨b,hb,hB⟩:=ih
  have hi:i < xs.length:=by
   rw [hx]
   exact (Array.getElem?_eq_some_iff.1 hf).1
  have h1:=hv i f hf
  rw [List.getElem?_eq_getElem hi] at h1
  obtain ⟨a,ha,hA⟩:=hr.op hsp h1
  refine ⟨(a,b),?_,fun bk hbk=>⟨hr.mono _ _ _ (hA bk hbk) (hbk.agg _ _ (List.mem_map.2 ⟨xs[i],List.getElem_mem hi,rfl⟩)),hB bk hbk⟩⟩
  have e1:cs.drop o = (cs.drop o).take (P.cellsOf f.type) ++ cs.drop (o + P.cellsOf f.type):=by
   rw [← List.drop_drop,List.take_append_drop]
  rw [e1]
  subst ho
  exact aU.append ha hb
theorem lD.struct {P:Program} {t:TypeId} {fs:Array Field} {α β:Type} {e:α → List CP} {es:β → List CP} {B:α → Nat → Prop} {Bs:β → Nat → Prop} (g:β → α) (ht:P.underlying t = some (.struct fs)) (h:lE P fs (P.cellsOf t) 0 0 es Bs) (hl:∀ a,(e a).length = P.cellsOf t) (he:∀ b,e (g b) = es b) (hB:∀ b n,Bs b n → B (g b) n) (hm:∀ a n m,B a n → n ≤ m → B a m):lD P t e B where
 len:=hl
 mono:=hm
 op hsp hh:=by
  obtain ⟨xs,n,_,hx,hcl,hxl,hv⟩:=DataW.trod_struct ht hh
  obtain ⟨b,hb,hB'⟩:=h.op hsp hcl hxl hv
  refine ⟨g b,by rw [he]; exact hb,fun bk hbk=>?_⟩
  rw [hx]
  exact hB _ _ (hB' bk hbk)
section
variable {P:Program} {TB:a6} {E:Env TB} {n:Sh} {s s':St}
inductive oZ (P:Program) (s:St):ResultVar → BV → Prop
 | u4 {rv:ResultVar} {z:BV} (h:k4 P s rv z):oZ P s rv z
 | xa {t k off m:Nat} {T T':TypeId} {cs zs:List BV} {qs:List CV} (ht:eX P T m) (h:s.get t = some (.b (.ptr k off))) (hk:lk s.own k = some (.bM T' cs)) (hp:(cs.drop off).take m = zs) (hq:zs.length = m) (hc:xcv zs = some qs):oZ P s (.cell t T) (.xa qs)
 | x1 {t k off:Nat} {T T':TypeId} {cs:List BV} {z:BV} (ht:c9 P T) (h:s.get t = some (.b (.ptr k off))) (hk:lk s.own k = some (.bM T' cs)) (hp:cs[off]? = some z):oZ P s (.cell t T) z
theorem oZ.run {rv:ResultVar} {z:BV} (hr:oZ P s rv z) {a:Act} {w:World} {h:PH} {ρ:RM} (hw:WR E n s.own h ρ w) (hs:aW h ρ s.slots a.tmps) :
  ∃ v,(∀ w₂,cD w w₂ → (gl a.tmps rv).run P w₂ = .ok v w₂) ∧ z.rel h ρ v:=by
 cases hr with
 | u4 h=>exact h.run hw hs
 | @xa t' k off m T T' cs zs qs ht h' hk hp hq hc=>
  obtain ⟨v,hv,b,he,hv'⟩:=hs _ _ (bw (show lk s.slots _ = some _ from h'))
  obtain ⟨b',cur,hb1,hb2,hb3⟩:=fJ hw hk
  have:b' = b:=by rw [hb1] at he; simpa using he
  subst this
  have hcr:aU (CR h ρ) zs ((cur.toList.drop off).take m):=by rw [← hp]; exact aU.take (aU.drop hb3 off) m
  have hrun:=fun w₂ (hle:cD w w₂)=>gu ht (w:=w₂) (b:=b') (o:=off) (cs:=(cur.toList.drop off).take m) (by rw [← hcr.length,hq]) (fun j v hv=>by
   refine hle _ _ _ ?_
   rw [dV hb2]
   rw [List.getElem?_take] at hv
   split at hv
   ·simpa using hv
   ·simp at hv)
  have hg:a.tmps.getD t' undef = .pointer (some ⟨b',off,none⟩):=by simp [Array.getD_eq_getD_getElem?,hv,hv']
  refine ⟨.agg ((cur.toList.drop off).take m).toArray,fun w₂ hle=>?_,_,rfl,tV hc (by rw [show (List.take m (List.drop off cur.toList)).toArray.toList = _ from rfl]; exact hcr)⟩
  simp only [gl,hg]
  simp [asAddr,hrun w₂ hle]
 | @x1 t' k off T T' cs z ht h' hk hp=>
  obtain ⟨v,hv,b,he,hv'⟩:=hs _ _ (bw (show lk s.slots _ = some _ from h'))
  obtain ⟨b',cur,hb1,hb2,hb3⟩:=fJ hw hk
  have:b' = b:=by rw [hb1] at he; simpa using he
  subst this
  obtain ⟨u,hu,hpu⟩:=hb3.get off z hp
  have hrun:=fun w₂ (hle:cD w w₂)=>fo ht (w:=w₂) (b:=b') (o:=off) (v:=u) (hle _ _ _ (by rw [dV hb2]; simpa using hu))
  have hg:a.tmps.getD t' undef = .pointer (some ⟨b',off,none⟩):=by simp [Array.getD_eq_getD_getElem?,hv,hv']
  refine ⟨u,fun w₂ hle=>?_,hpu.1⟩
  simp only [gl,hg]
  simp [asAddr,hrun w₂ hle]
end
end Go.Sk
namespace Go.Sk
set_option linter.unusedSimpArgs false
set_option linter.unusedVariables false
open Go Go.ChangeShapes Go.WideShapes Go.ChangeAt Go.RowKit Go.Deep Go.BigFrame
section
variable {P:Program} {TB:a6} {E:Env TB} {n:Sh} {s s':St} {dst:Option Nat} {t ty yt:TypeId} {pos:String} {after:Array Edge} {g:Option (Nat × Bool)} {x y c:Operand} {ops:Array Oper} {l:List Oper} {Q:bX} {cd:Code}
end
section
variable {P:Program} {TB:a6} {E:Env TB} {n:Sh} {s s':St} {dst:Option Nat} {t ty yt:TypeId} {pos:String} {after:Array Edge} {g:Option (Nat × Bool)} {x y c:Operand} {ops:Array Oper} {l:List Oper} {Q:bX} {cd:Code}
variable {own:List (Nat × OC)} {h:PH} {ρ:RM} {w:World} {k kp i size bytes:Nat} {T e:TypeId} {ess:List (List (List CP))} {us:List Value} {v:Value}
end
end Go.Sk
namespace Go.Sk
set_option linter.unusedSimpArgs false
set_option linter.unusedVariables false
open Go Go.ChangeShapes Go.WideShapes Go.ChangeAt Go.RowKit Go.Deep Go.BigFrame
section
variable {P:Program} {TB:a6} {E:Env TB} {n:Sh} {s s':St} {dst:Option Nat} {t ty yt:TypeId} {pos:String} {after:Array Edge} {g:Option (Nat × Bool)} {x y c:Operand} {ops:Array Oper} {l:List Oper} {Q:bX} {cd:Code}
theorem av.cast {f:FuncId} {own own2 own' own2':List (Nat × OC)} {args args2:List BV} {res res2:SV} (h:av P TB f own args (Is own' res)) (h1:own = own2) (h2:args = args2) (h3:own' = own2') (h4:res = res2):av P TB f own2 args2 (Is own2' res2):=by
 subst h1 h2 h3 h4; exact h
end
end Go.Sk
namespace Go.Sk
set_option linter.unusedSimpArgs false
set_option linter.unusedVariables false
open Go Go.BigFrame
inductive dh (α:Type) where
 | leaf
 | node (a:α) (l r:dh α)
 deriving DecidableEq
instance {α:Type}:Inhabited (dh α):=⟨.leaf⟩
def dh.dG {α:Type}:dh α → Bool
 | .leaf=>true
 | .node _ _ _=>false
def jz {α:Type}:dh α → Option (α × dh α × dh α)
 | .leaf=>none
 | .node a l r=>some (a,l,r)
theorem nd?_eq {α:Type} {t:dh α} {z:α × dh α × dh α} (h:jz t = some z):t = .node z.1 z.2.1 z.2.2:=by
 cases t with
 | leaf=>cases h
 | node a l r=>cases h; rfl
def CP.tr {α:Type} (enc:α → List CP):dh α → CP
 | .leaf=>CP.raw (.pointer none)
 | .node a l r=>CP.rp (enc a ++ [CP.tr enc l,CP.tr enc r])
abbrev n1 {α:Type} (enc:α → List CP) (t:dh α):List CP:=[CP.tr enc t]
def CP.de:Nat → CP
 | 0=>CP.raw .nilFunc
 | n + 1=>CP.raw (.func (.func (n + 1)) #[] #[])
theorem R.sL {TB:a6} {E:Env TB} {n:Sh} {s:St} {a:Act} {w:World} (hr:R E n s a w) (t:Nat) {x y:SV} (hx:lk s.slots t = some x) (hxy:∀ h ρ v,x.rel h ρ v → y.rel h ρ v):R E n ⟨(t,y) :: del t s.slots,s.own⟩ a w:=by
 obtain ⟨h1,h2,h,ρ,hw,hs⟩:=hr
 refine ⟨h1,h2,h,ρ,hw,fun j z hz=>?_⟩
 rcases List.mem_cons.1 hz with e | hz
 ·obtain ⟨rfl,rfl⟩:=Prod.mk.inj e
  obtain ⟨v,hv,hr⟩:=hs _ _ (bw hx)
  exact ⟨v,hv,hxy h ρ v hr⟩
 ·exact hs _ _ (cK hz).1
section
variable {α:Type} {P:Program} {TB:a6} {E:Env TB} {n:Sh} {s s':St} {ops:Array Oper} {l:List Oper} {Q:bX} {cd:Code} {enc:α → List CP} {dst:Option Nat} {t ty yt:TypeId} {pos:String} {after:Array Edge} {g:Option (Nat × Bool)} {x y:Operand}
theorem ra {a:α} {l r:dh α} (h:PH) (ρ:RM) (v:Value) (hx:(SV.b (.aO (enc a ++ [CP.tr enc l,CP.tr enc r]))).rel h ρ v):(SV.b (.one (CP.tr enc (.node a l r)))).rel h ρ v:=hx
theorem ab.toTr (k:Nat) {ps:List CP} (a:α) (l r:dh α) (hx:lk s.slots k = some (.b (.aO ps))) (hp:ps = enc a ++ [CP.tr enc l,CP.tr enc r]) (h:ab P E n cd ⟨(k,.b (.one (CP.tr enc (.node a l r)))) :: del k s.slots,s.own⟩ Q):ab P E n cd s Q:=fun ac w hr=>h ac w (hr.sL k hx (by subst hp; exact ra))
theorem ae.toTr (k:Nat) {ps:List CP} (a:α) (l' r:dh α) (hx:lk s.slots k = some (.b (.aO ps))) (hp:ps = enc a ++ [CP.tr enc l',CP.tr enc r]) (h:ae P E n ops l ⟨(k,.b (.one (CP.tr enc (.node a l' r)))) :: del k s.slots,s.own⟩ Q):ae P E n ops l s Q:=fun ac w hr=>h ac w (hr.sL k hx (by subst hp; exact ra))
theorem Fin.toTr {e:Exit} (k:Nat) {ps:List CP} (a:α) (l r:dh α) (hx:lk s.slots k = some (.b (.aO ps))) (hp:ps = enc a ++ [CP.tr enc l,CP.tr enc r]) (h:Fin E n e ⟨(k,.b (.one (CP.tr enc (.node a l r)))) :: del k s.slots,s.own⟩ Q):Fin E n e s Q:=fun ac w hr=>h ac w (hr.sL k hx (by subst hp; exact ra))
theorem tY {h:PH} {tr:dh α} {v:Value} (hv:(CP.tr enc tr).rel h v):∃ p,v = .pointer p ∧ p.isNone = tr.dG:=by
 cases tr with
 | leaf=>exact ⟨none,hv.1,rfl⟩
 | node a l r=>obtain ⟨b,o,he,_⟩:=hv; exact ⟨_,he,rfl⟩
theorem fW {tr:dh α} (hu:P.underlying t = some (.pointer (P.pointee t))) (hx:s.ev x = some (.b (.one (CP.tr enc tr)))) :
  bA P E n ⟨dst,.binOp .eql t x (.const (.pointer none)) yt,ty,pos,after,g⟩ s (s.put n dst (B tr.dG)) :=
 bA.val (o:=⟨dst,.binOp .eql t x (.const (.pointer none)) yt,ty,pos,after,g⟩) fun ac w h ρ hw hs=>by
  obtain ⟨p,hv,hl⟩:=tY (aR hs hx:BV.rel h ρ (.one (CP.tr enc tr)) _)
  refine ⟨.bool tr.dG,?_,rfl⟩
  have:=run_eql_pointer_nil w t p hu
  simp only [execOp,hv,show ac.eval (.const (.pointer none)) = .pointer none from rfl]
  simp [eqGuard,this,hl]
theorem sq {tr:dh α} (hu:P.underlying t = some (.pointer (P.pointee t))) (hx:s.ev x = some (.b (.one (CP.tr enc tr)))) :
  bA P E n ⟨dst,.binOp .neq t x (.const (.pointer none)) yt,ty,pos,after,g⟩ s (s.put n dst (B (!tr.dG))) :=
 bA.val (o:=⟨dst,.binOp .neq t x (.const (.pointer none)) yt,ty,pos,after,g⟩) fun ac w h ρ hw hs=>by
  obtain ⟨p,hv,hl⟩:=tY (aR hs hx:BV.rel h ρ (.one (CP.tr enc tr)) _)
  refine ⟨.bool (!tr.dG),?_,rfl⟩
  have:=run_neq_pointer_nil w t p hu
  simp only [execOp,hv,show ac.eval (.const (.pointer none)) = .pointer none from rfl]
  simp [eqGuard,this,hl]
theorem aK {tr:dh α} {z:α × dh α × dh α} {qs:List CP} (hz:jz tr = some z) (hx:s.ev x = some (.b (.one (CP.tr enc tr)))) (hq:enc z.1 ++ [CP.tr enc z.2.1,CP.tr enc z.2.2] = qs) :
  bA P E n ⟨dst,.nilCheck x,ty,pos,after,g⟩ s (s.put n dst (.b (.aO qs))) :=
 bA.val (o:=⟨dst,.nilCheck x,ty,pos,after,g⟩) fun ac w h ρ hw hs=>by
  have hv:BV.rel h ρ (.one (CP.tr enc tr)) _:=aR hs hx
  rw [nd?_eq hz] at hv
  obtain ⟨b,o,he,hr⟩:=hv
  refine ⟨.pointer (some ⟨b,o,none⟩),?_,b,o,rfl,hq ▸ hr⟩
  simp only [execOp,he]; rfl
theorem op_boxT {T:TypeId} {ps:List CP} (a:α) (l' r:dh α) (hx:s.ev x = some (.b (.agg ps))) (hp:ps = enc a ++ [CP.tr enc l',CP.tr enc r]):bA P E n ⟨dst,.box T x,ty,pos,after,g⟩ s (s.put n dst (.b (.one (CP.tr enc (.node a l' r))))):=by
 subst hp
 intro ac w ⟨hdf,hn,h,ρ,hw,hs⟩ next Q hnext
 obtain ⟨cs,he,hc⟩:=(aR hs hx:BV.rel h ρ (.agg _) _)
 have hcells:(ac.eval x).cells = cs:=by rw [he]; rfl
 obtain ⟨hw',hle⟩:=hw.tm (cs:=cs.toList) (T:=T) (by simpa using hc.one)
 unfold Oper.wp
 have hrun:(execOp ac.eval ⟨dst,.box T x,ty,pos,after,g⟩).run P w = .ok (.value (.pointer (some ⟨w.heap.size,0,none⟩))) (w.alloc (.cells cs T)):=by
  simp only [execOp]
  simp [Instr.box,newVar,newRow,hcells]
 rw [hrun]
 refine hnext _ _ (R.put hdf hn (by simpa using hw') (hs.mono hle) ⟨w.heap.size,0,rfl,fun j c hj=>?_⟩)
 obtain ⟨u,hu,hr⟩:=hc.get j c hj
 exact ⟨u,by simp only [ck,if_true,Nat.zero_add]; simpa using hu,c.mono hle hr⟩
theorem mX {T:TypeId} {ps:List CP} (hx:s.ev x = some (.b (.agg ps))):bA P E n ⟨dst,.box T x,ty,pos,after,g⟩ s (s.put n dst (.b (.aO ps))):=by
 intro ac w ⟨hdf,hn,h,ρ,hw,hs⟩ next Q hnext
 obtain ⟨cs,he,hc⟩:=(aR hs hx:BV.rel h ρ (.agg _) _)
 have hcells:(ac.eval x).cells = cs:=by rw [he]; rfl
 obtain ⟨hw',hle⟩:=hw.tm (cs:=cs.toList) (T:=T) (by simpa using hc.one)
 unfold Oper.wp
 have hrun:(execOp ac.eval ⟨dst,.box T x,ty,pos,after,g⟩).run P w = .ok (.value (.pointer (some ⟨w.heap.size,0,none⟩))) (w.alloc (.cells cs T)):=by
  simp only [execOp]
  simp [Instr.box,newVar,newRow,hcells]
 rw [hrun]
 refine hnext _ _ (R.put hdf hn (by simpa using hw') (hs.mono hle) ⟨w.heap.size,0,rfl,fun j c hj=>?_⟩)
 obtain ⟨u,hu,hr⟩:=hc.get j c hj
 exact ⟨u,by simp only [ck,if_true,Nat.zero_add]; simpa using hu,c.mono hle hr⟩
theorem lG {f:FuncId} {args:List BV} {xs:Array Operand} {ats:Array TypeId} {res:SV} (hspec:av P TB f [] args (Is [] res)) (hf:bp P f) (hne:f ≠ 0) (hx:s.ev x = some (.b (.one (CP.de f)))) (ha:gj s xs.toList = some args) (hki:res.b6 [] = true) :
  bA P E n ⟨dst,.call ⟨.value x,xs,ats⟩,ty,pos,after,g⟩ s (s.put n dst res):=by
 cases f with
 | zero=>exact absurd rfl hne
 | succ f=>exact jM hspec hf hx ha hki
end
end Go.Sk
namespace Go.Sk
set_option linter.unusedSimpArgs false
set_option linter.unusedVariables false
open Go Go.BigFrame
section
variable {P:Program} {TB:a6} {E:Env TB} {n:Sh} {s s':St} {ops:Array Oper} {l:List Oper} {Q:bX} {cd:Code} {dst:Option Nat} {t ty yt:TypeId} {pos:String} {after:Array Edge} {g:Option (Nat × Bool)} {x y:Operand}
theorem p6 {e:TypeId} {i:TypeInfo} {zv zc:Value} (hu:P.underlying t = some (.slice e)) (hi:P.info? e = some i) (hz:i.zero = some zv) (hc:zv.cells = #[zc]) (h1:zc.oneCell' = true) (w:World) (b o m c:Nat) {T:TypeId} {cur:Array Value} (hb:w.heap[b]? = some (.cells cur T (0,0))) (hfit:o + m ≤ cur.size) :
  (Builtin.clear_ #[t] ty #[.slice (some ⟨b,o,none⟩) m c]).run P w = .ok (.tuple #[]) (w.setRow b (cur.toList.take o ++ List.replicate m zc ++ cur.toList.drop (o + m)).toArray):=by
 cases m with
 | zero=>
  have:cur.toList.take o ++ List.replicate 0 zc ++ cur.toList.drop (o + 0) = cur.toList:=by simp
  rw [this]
  have h2:=setRow_self w b cur T (0,0) hb
  simp [Builtin.clear_,run_underlying hu]
  simpa using h2.symm
 | succ m=>
  have hzc:(Builtin.zeroCells #[zc] (m + 1)).toList = List.replicate (m + 1) zc:=by
   simp [Builtin.zeroCells]
   apply List.ext_getElem
   ·simp
   ·intro i h1 h2
    simp [Nat.mod_one]
  have hst:=run_storeCells_at P b o T (List.replicate (m + 1) zc) 0 cur w hb (by simpa using hfit) (by intro v hv'; rw [List.eq_of_mem_replicate hv']; exact h1)
  simp only [Nat.add_zero,List.length_replicate] at hst
  have hzv:(zeroValue e).run P w = .ok zv w:=by simp [zeroValue,typeInfo,hi,hz]
  simp [Builtin.clear_,run_underlying hu,hzv,hc,hzc,hst]
def clr? {α:Type} (z:α) (xs:List α) (i:Int):Option (List α):=if 0 ≤ i ∧ i ≤ xs.length then some (xs.take i.toNat ++ List.replicate (xs.length - i.toNat) z) else none
theorem ae.clr {α:Type} {xs zz:List α} {z:α} {enc:α → List CP} {zp:CP} {d k bytes:Nat} {e T ty1 ty2:TypeId} {pos1 pos2:String} {af1 af2:Array Edge} {kk:IntKind} {i:Int} {yo:Operand} (ht:jX P t e 1 bytes [zp]) (hzp:enc z = [zp]) (hi:clr? z xs i = some zz) (hx:s.ev x = some (.b (.row k))) (hk:lk s.own k = some (.row T 1 (xs.map enc))) (hy:s.ev yo = some (.b (.one (.int kk i)))) (hd:d < n.n) (hnu:eK k s.own = true)
  (h:ae P E n ops l ⟨del d s.slots,ins k (.row T 1 (zz.map enc)) s.own⟩ Q) :
  ae P E n ops (⟨some d,.slice t x (some yo) none none,ty1,pos1,af1,none⟩ :: ⟨none,.call ⟨.builtin .clear,#[.tmp d],#[t]⟩,ty2,pos2,af2,none⟩ :: l) s Q:=by
 intro a w hr
 obtain ⟨hdf,hn,hh,ρ,hw,hs⟩:=id hr
 have hv:a.eval x = ρ k:=(aR hs hx:BV.rel hh ρ (.row k) _)
 obtain ⟨hu,hsz,hf⟩:=gS hw hk
 unfold clr? at hi
 split at hi
 rotate_left
 ·cases hi
 next hc=>
 cases hi
 obtain ⟨h0,h1⟩:=hc
 have hml:(xs.map enc).length = xs.length:=List.length_map _
 obtain ⟨inf,zv,hinf,hsize,_,hzo,hzs,_,hcv⟩:=ht.info
 obtain ⟨zc,hzc⟩:∃ zc,zv.cells = #[zc]:=by
  have:zv.cells.toList.length = 1:=by simpa using hzs
  obtain ⟨zc,e1⟩:=List.length_eq_one_iff.1 this
  exact ⟨zc,by rw [← Array.toArray_toList (xs:=zv.cells),e1]⟩
 have hzr:zp.rel hh zc:=by
  have:=iq hh hcv
  rw [hzc] at this
  cases this with | cons h _=>exact h
 have hel:P.elem t = e:=by simp [Program.elem,ht.und]
 have hund:P.underlying t = some (.slice (P.elem t)):=by rw [hel]; exact ht.und
 have hrun1:∀ (ad:Option Addr) (cap:Nat),ρ k = .slice ad xs.length cap → (execOp a.eval ⟨some d,.slice t x (some yo) none none,ty1,pos1,af1,none⟩).run P w = .ok (.value (sliced ad i.toNat xs.length cap 1)) w:=fun ad cap hρ=>by
  have hb:=run_slice_l (P:=P) (w:=w) (t:=t) (a:=ad) (len:=xs.length) (cap:=cap) hund kk i h0 (by omega)
  simp only [execOp,hv,hρ,Option.map_some,Option.map_none,(dx hs hy).1]
  rw [Sem.run_bind,run_sliceAt_slice w t _ _ _ _ hund,hb,run_sizeOf (i:=inf) (by rw [hel]; exact hinf),hsize]
  rfl
 have fin:∀ (v:Value) (w':World),(execOp a.eval ⟨some d,.slice t x (some yo) none none,ty1,pos1,af1,none⟩).run P w = .ok (.value v) w → (Builtin.clear_ #[t] ty2 #[v]).run P w = .ok (.tuple #[]) w' →
   WR E n (ins k (.row T 1 ((xs.take i.toNat ++ List.replicate (xs.length - i.toNat) z).map enc)) s.own) hh ρ w' → uv P ops Q (⟨some d,.slice t x (some yo) none none,ty1,pos1,af1,none⟩ :: ⟨none,.call ⟨.builtin .clear,#[.tmp d],#[t]⟩,ty2,pos2,af2,none⟩ :: l) a w:=by
  intro v w' r1 r2 hw'
  unfold uv
  have hwant:Region.wanted (⟨some d,.slice t x (some yo) none none,ty1,pos1,af1,none⟩:Oper) (yielded ops a.tmps) = true:=by simp [Region.wanted]
  simp only [hwant,if_true]
  unfold Oper.wp
  rw [r1]
  show uv P ops Q _ _ _
  unfold uv
  have hwant2:∀ z,Region.wanted (⟨none,.call ⟨.builtin .clear,#[.tmp d],#[t]⟩,ty2,pos2,af2,none⟩:Oper) z = true:=fun z=>by simp [Region.wanted]
  simp only [hwant2,if_true]
  unfold Oper.wp
  have hev:(a.put (some d) v).eval (.tmp d) = v:=by simp [Act.eval,Act.put,hn,hd]
  have hrun':(execOp (a.put (some d) v).eval (⟨none,.call ⟨.builtin .clear,#[.tmp d],#[t]⟩,ty2,pos2,af2,none⟩:Oper)).run P w = .ok (.value (.tuple #[])) w':=by
   rw [execOp_builtin]
   show Sem.run _ _ _ = _
   simp only [builtin,List.map_toArray,List.map_cons,List.map_nil,hev]
   rw [Sem.run_bind,r2]
   rfl
  rw [hrun']
  refine h _ _ ⟨by simp [Act.put,hdf],by simp [Act.put,hn],hh,ρ,hw',fun j y hy=>?_⟩
  obtain ⟨hj1,hj2⟩:=cK hy
  obtain ⟨u,hu1,hu2⟩:=hs j y hj1
  refine ⟨u,?_,hu2⟩
  simp only [Act.put]
  rw [Array.getElem?_setIfInBounds_ne (fun e=>hj2 e.symm)]
  exact hu1
 have keepw:xs.length = i.toNat → WR E n (ins k (.row T 1 ((xs.take i.toNat ++ List.replicate (xs.length - i.toNat) z).map enc)) s.own) hh ρ w:=fun e=>by
  have e1:xs.take i.toNat ++ List.replicate (xs.length - i.toNat) z = xs:=by rw [← e,List.take_length]; simp
  rw [e1]
  have hst:=hw.step (w':=w) k (ρ k) (.row T 1 (xs.map enc)) (aV (ρ k)) (fun b hb=>⟨_,bw hk,hb⟩) (Nat.le_refl _) rfl rfl (fun _ _ _=>rfl) (by rw [gp]; exact (hw.owned k _ (bw hk)).1) (fun b hb=>.inl hb) (.inl rfl) (.inl rfl)
  rw [gp] at hst
  exact hst
 rcases hf with ⟨hρ,he⟩ | ⟨b,cap,cur,hρ,hb,hc1,hc2,hc3,hc4⟩
 ·have hx0:xs = []:=by simpa using he
  subst hx0
  have hi0:i.toNat = 0:=by simp at h1; omega
  have hs0:sliced none i.toNat 0 0 1 = .slice none 0 0:=by simp [sliced,hi0]
  refine fin (.slice none 0 0) w (by have:=hrun1 none 0 (by simpa using hρ); rw [show ([]:List α).length = 0 from rfl,hs0] at this; exact this) ?_ (keepw (by simp [hi0]))
  simp [Builtin.clear_,run_underlying ht.und]
 ·rw [hml] at hρ hc1
  have hr1:=hrun1 _ _ hρ
  by_cases hlast:cap = i.toNat
  ·have hxi:xs.length = i.toNat:=by omega
   refine fin _ w hr1 ?_ (keepw hxi)
   unfold sliced
   rw [if_pos hlast,hxi,Nat.sub_self]
   simp [Builtin.clear_,run_underlying ht.und]
  ·have hsl:sliced (some ⟨b,0,none⟩) i.toNat xs.length cap 1 = .slice (some ⟨b,i.toNat,none⟩) (xs.length - i.toNat) (cap - i.toNat):=by
    unfold sliced; rw [if_neg hlast,Option.map_some,Addr.add_lit,Nat.zero_add,Nat.mul_one]
   rw [hsl] at hr1
   have hrun:=p6 (P:=P) (t:=t) (ty:=ty2) ht.und hinf hzo hzc (zp.one hzr) w b i.toNat (xs.length - i.toNat) (cap - i.toNat) hb (by omega)
   refine fin _ _ hr1 hrun ?_
   obtain ⟨cur',hcur'⟩:∃ cur',(cur.toList.take i.toNat ++ List.replicate (xs.length - i.toNat) zc ++ cur.toList.drop (i.toNat + (xs.length - i.toNat))) = cur':=⟨_,rfl⟩
   rw [hcur']
   have hcl:cur'.length = cur.size:=by rw [← hcur']; simp; omega
   obtain ⟨es',hes'⟩:∃ es',(xs.take i.toNat ++ List.replicate (xs.length - i.toNat) z).map enc = es':=⟨_,rfl⟩
   have hl':es'.length = xs.length:=by rw [← hes']; simp; omega
   rw [hes']
   have he':es' = (xs.map enc).take i.toNat ++ List.replicate (xs.length - i.toNat) [zp]:=by rw [← hes',List.map_append,List.map_take,List.map_replicate,hzp]
   have hok:(OC.row T 1 es').ok hh ρ (.slice (some ⟨b,0,none⟩) es'.length cap) (w.setRow b cur'.toArray):=by
    refine ⟨fun ps hp=>?_,hsz,cur'.take (es'.length * 1),⟨?_,.inr ⟨b,cap,_,rfl,Nat.zero_le _,setRow_heap _ _ _ _ _ _ hb,?_,hc2,?_,?_⟩⟩,?_⟩
    ·rw [he'] at hp
     rcases List.mem_append.1 hp with hp | hp
     ·exact hu ps (List.mem_of_mem_take hp)
     ·rw [List.eq_of_mem_replicate hp]; rfl
    ·rw [List.length_take,hcl,hc3]; omega
    ·omega
    ·rw [List.size_toArray,hcl,hc3]
    ·rfl
    ·have all:∀ m,aU (fun (c:CP) v=>c.rel hh v) (List.replicate m zp) (List.replicate m zc):=fun m=>by
      induction m with
      | zero=>exact .nil
      | succ m ih=>exact .cons hzr ih
     have hrf:∀ m,(List.replicate m [zp]).flatten = List.replicate m zp:=fun m=>by
      induction m with
      | zero=>rfl
      | succ m ih=>rw [List.replicate_succ,List.replicate_succ,List.flatten_cons,ih]; rfl
     rw [he',List.flatten_append,kq hu,Nat.mul_one,hrf,← hcur']
     have h7:(cur.toList.take i.toNat ++ List.replicate (xs.length - i.toNat) zc ++ cur.toList.drop (i.toNat + (xs.length - i.toNat))).take ((List.take i.toNat (List.map enc xs) ++ List.replicate (xs.length - i.toNat) [zp]).length * 1) = (cur.toList.take ((xs.map enc).length * 1)).take i.toNat ++ List.replicate (xs.length - i.toNat) zc:=by
      rw [List.take_take,Nat.min_eq_left (by rw [hml]; omega),List.take_append_of_le_length (by simp; omega),List.take_of_length_le (by simp; omega)]
     rw [h7]
     exact aU.append (aU.take hc4 _) (all _)
   have hst:=hw.step (w':=w.setRow b cur'.toArray) k (.slice (some ⟨b,0,none⟩) es'.length cap) (.row T 1 es') (some b) (fun b' e=>by cases e; exact ⟨_,bw hk,by rw [hρ]; rfl⟩) (by simp) rfl rfl
    (fun b' _ hne=>setRow_other _ _ _ _ (fun e=>hne (by rw [e]))) hok (fun b' hb'=>by simp [aV] at hb'; exact .inl (by rw [hb'])) (.inl (by rw [hρ,hl'])) (.inr hnu)
   have:lM ρ k (.slice (some ⟨b,0,none⟩) es'.length cap) = ρ:=by
    have e1:Value.slice (some ⟨b,0,none⟩) es'.length cap = ρ k:=by rw [hρ,hl']
    rw [e1,gp]
   rw [this] at hst
   exact hst
theorem lY {α:Type} {xs z:List α} {enc:α → List CP} {k size bytes:Nat} {e T:TypeId} {zs:List CP} {yo:Operand} {kk:IntKind} {i:Int} (ht:jX P t e size bytes zs) (hi:oQ xs i = some z) (hx:s.ev x = some (.b (.row k))) (hk:lk s.own k = some (.row T size (xs.map enc))) (hy:s.ev yo = some (.b (.one (.int kk i)))) (hfx:n.fix.contains k = false) (hnu:eK k s.own = true:=by rfl) :
  bA P E n ⟨dst,.slice t x none (some yo) none,ty,pos,after,g⟩ s ((⟨cw k s.slots,ins k (.row T size (z.map enc)) s.own⟩:St).put n dst (.b (.row k))) :=
 bA.make (hfx:=hfx) (hnu:=hnu) (o:=⟨dst,.slice t x none (some yo) none,ty,pos,after,g⟩) fun ac w h ρ hw hs=>by
  have hv:ac.eval x = ρ k:=(aR hs hx:BV.rel h ρ (.row k) _)
  obtain ⟨hu,hz,hf⟩:=gS hw hk
  obtain ⟨inf,z0,hinf,hsz,_⟩:=ht.info
  have hel:P.elem t = e:=by simp [Program.elem,ht.und]
  have hund:P.underlying t = some (.slice (P.elem t)):=by rw [hel]; exact ht.und
  obtain ⟨h0,h1,rfl⟩:=take_ok hi
  have hml:(xs.map enc).length = xs.length:=List.length_map _
  have hu':cm size ((xs.take i.toNat).map enc):=fun ps hp=>hu ps (by rw [List.map_take] at hp; exact List.mem_of_mem_take hp)
  have hrun:∀ (ad:Option Addr) (cap:Nat),xs.length ≤ cap → ρ k = .slice ad xs.length cap → (execOp ac.eval ⟨dst,.slice t x none (some yo) none,ty,pos,after,g⟩).run P w = .ok (.value (sliced ad 0 i.toNat cap size)) w:=fun ad cap hcap hρ=>by
   have hb:=run_slice_h (P:=P) (w:=w) (t:=t) (a:=ad) (len:=xs.length) (cap:=cap) hund kk i h0 (by omega)
   simp only [execOp,hv,hρ,Option.map_some,Option.map_none,(dx hs hy).1]
   rw [Sem.run_bind,run_sliceAt_slice w t _ _ _ _ hund,hb,run_sizeOf (i:=inf) (by rw [hel]; exact hinf),hsz]
   rfl
  rcases hf with ⟨hρ,he⟩ | ⟨b,cap,cur,hρ,hh,hc1,hc2,hc3,hc4⟩
  ·have hx0:xs = []:=by simpa using he
   subst hx0
   have hi0:i.toNat = 0:=by simp at h1; omega
   have hs0:sliced none 0 i.toNat 0 size = .slice none 0 0:=by simp [sliced,hi0]
   refine ⟨.slice none 0 0,.slice none 0 0,w,none,?_,fun b e=>(by cases e),Nat.le_refl _,rfl,rfl,fun _ _ _=>rfl,⟨hu',hz,[],⟨by simp,.inl ⟨rfl,by simp⟩⟩,by simp; exact .nil⟩,fun b hb=>by simp [aV] at hb,(c4 _ _ _).symm⟩
   have:=hrun none 0 (by simp) (by simpa using hρ)
   rw [hs0] at this
   exact this
  ·rw [hml] at hρ hc1
   have hr:=hrun _ _ hc1 hρ
   have hs0:sliced (some ⟨b,0,none⟩) 0 i.toNat cap size = .slice (some ⟨b,0,none⟩) i.toNat cap:=by
    unfold sliced
    split
    ·rfl
    ·rw [Option.map_some,Addr.add_lit,Nat.zero_mul]; rfl
   rw [hs0] at hr
   have hlen:((xs.take i.toNat).map enc).length = i.toNat:=by simp; omega
   refine ⟨_,.slice (some ⟨b,0,none⟩) ((xs.take i.toNat).map enc).length cap,w,some b,hr,fun b' e=>by cases e; exact ⟨_,bw hk,by rw [hρ]; rfl⟩,Nat.le_refl _,rfl,rfl,fun _ _ _=>rfl,⟨hu',hz,(cur.toList.take ((xs.map enc).length * size)).take (i.toNat * size),⟨?_,.inr ⟨b,cap,cur,rfl,Nat.zero_le _,hh,by rw [hlen]; omega,hc2,hc3,?_⟩⟩,?_⟩,fun b' hb=>by simp [aV] at hb; exact .inl (by rw [hb]),?_⟩
   ·have h2:(xs.map enc).length * size ≤ cap * size:=Nat.mul_le_mul_right _ (by rw [hml]; exact hc1)
    have h3:i.toNat * size ≤ (xs.map enc).length * size:=Nat.mul_le_mul_right _ (by rw [hml]; omega)
    have h4:cur.toList.length = cap * size:=hc3
    rw [hlen,List.length_take,List.length_take,h4]
    omega
   ·have h3:i.toNat * size ≤ (xs.map enc).length * size:=Nat.mul_le_mul_right _ (by rw [hml]; omega)
    rw [List.take_take,Nat.min_eq_left h3,hlen]
   ·rw [List.map_take,kq hu]
    exact aU.take hc4 _
   ·rw [hlen]; exact (c4 _ _ _).symm
end
end Go.Sk
namespace Go.Sk
set_option linter.unusedSimpArgs false
set_option linter.unusedVariables false
open Go Go.BigFrame
section
variable {P:Program} {TB:a6} {E:Env TB} {n:Sh} {s s':St} {ops:Array Oper} {l:List Oper} {Q:bX} {cd:Code} {dst:Option Nat} {t ty yt:TypeId} {pos:String} {after:Array Edge} {g:Option (Nat × Bool)} {x y:Operand}
theorem oh {α:Type} {e:TypeId} {m:Nat} {ps:List CP} {xs:List α} {enc:α → List CP} (ht:tR P t e m 1) (hx:s.ev x = some (.b (.aO ps))) (hp:ps.take m = (xs.map enc).flatten) (hl:xs.length = m) (he:∀ z,(enc z).length = 1) (hm:m ≤ maxLen) :
  bA P E n ⟨dst,.slice t x none none none,ty,pos,after,g⟩ s (s.put n dst (.b (.one (.sl 1 (xs.map enc))))) :=
 bA.val (o:=⟨dst,.slice t x none none none,ty,pos,after,g⟩) fun ac w h ρ hw hs=>by
  obtain ⟨b,o,hv,hr⟩:=(aR hs hx:BV.rel h ρ (.aO ps) _)
  obtain ⟨i,hi,hsz⟩:=ht.info
  have e1:P.arrayLen t = m:=by simp [Program.arrayLen,ht.und]
  have e2:P.elem t = e:=by simp [Program.elem,ht.und]
  have hu:P.underlying t = some (.array (P.arrayLen t) (P.elem t)):=by rw [e1,e2]; exact ht.und
  refine ⟨.slice (some ⟨b,o,none⟩) m m,?_,?_⟩
  ·simp only [execOp,hv,Option.map_none]
   rw [Sem.run_bind,run_sliceAt_array_all w t _ hu,e2,run_sizeOf hi,Result.andThen]
   simp [slicedAt,e1,iP]
  ·refine ⟨fun qs hq=>?_,Nat.one_pos,.inr (.inl ⟨b,o,m,?_,?_,hm,hp ▸ (fun j c hj=>hr j c (by rw [List.getElem?_take] at hj; split at hj; exact hj; cases hj))⟩)⟩
   ·obtain ⟨z,_,rfl⟩:=List.mem_map.1 hq
    exact he z
   ·rw [List.length_map,hl]
   ·rw [List.length_map,hl]; exact Nat.le_refl _
end
end Go.Sk
namespace Go.Sk
open Go Go.BigFrame Go.RowKit
section
variable {P:Program} {TB:a6} {E:Env TB} {n:Sh} {F:Fence} {s s':St} {Q:bX} {x y c:Code}
theorem a7.c6 {σ τ:Type} {v:τ} (S:σ → St) (al:σ → τ) (h1:a7 P E n F x s (Exit.then (fun a w=>∃ z,v = al z ∧ R E n (S z) a w) Q)) (h2:∀ z,v = al z → a7 P E n F y (S z) Q):a7 P E n F (.seq x y) s Q:=by
 refine a7.seq fun hq a w hr=>?_
 have hq':¬ LetsOut Q:=fun ⟨a,w,h⟩=>hq ⟨a,w,h⟩
 refine wpIn_mono (h1 (iM hq') a w hr) ?_
 intro e a' w' he
 cases e with
 | normal=>obtain ⟨z,hz,hr'⟩:=he; exact h2 z hz hq' a' w' hr'
 | _=>exact he
theorem a7.cN {σ τ:Type} {fuel:Nat} {body:σ → Option (σ ⊕ τ)} {s0:σ} {v:τ} (h:iter fuel body s0 = some v) (S:σ → St) (ks kos:List Nat) (hs:s.keep ks kos = S s0)
  (round:∀ z o,body z = some o → (∀ y,o = .inr y → y = v) → a7 P E n F c (S z) (Exit.then (fun a w=>∃ z',o = .inl z' ∧ R E n (S z') a w) Q)):a7 P E n F (.loop c) s Q:=by
 refine a7.keep ks kos hs ?_
 intro hq a w hr
 refine wpIn_loop_rounds fuel ?_
 clear hs
 induction fuel generalizing s0 a w with
 | zero=>simp [qy] at h
 | succ m ih=>
 rw [eb] at h
 obtain ⟨o,ho,hj⟩:=aL h
 rw [roundsIn_succ]
 refine wpIn_mono (round s0 o ho (fun y hy=>by subst hy; exact Option.some.inj hj) (iM hq) a w hr) ?_
 intro e a' w' he
 cases e with
 | normal=>
  obtain ⟨z',hz',hr'⟩:=he
  subst hz'
  exact ih hj a' w' hr'
 | _=>exact he
end
end Go.Sk
