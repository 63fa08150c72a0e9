/- part of the proof: the framework -/
import Derived.Test.YtnpddoaeoefcnaaF2
import Derived.Maps.RangeRun
namespace Go.Sk
set_option linter.unusedSimpArgs false
set_option linter.unusedVariables false
open Go Go.BigFrame
theorem All2.unapp {α β : Type} {r : α → β → Prop} : ∀ {xs xs' : List α} {bs : List β}, All2 r (xs ++ xs') bs → ∃ b1 b2, bs = b1 ++ b2 ∧ All2 r xs b1 ∧ All2 r xs' b2
 | [], _, bs, h => ⟨[], bs, rfl, .nil, h⟩
 | a :: l, _, _, .cons h t => by
  obtain ⟨b1, b2, rfl, h1, h2⟩ := All2.unapp (xs := l) t
  exact ⟨_ :: b1, b2, rfl, .cons h h1, h2⟩
theorem flat1 {size : Nat} : ∀ ess : List (List (List CP)), (ess.map fun es => [CP.sl size es]).flatten = ess.map fun es => CP.sl size es
 | [] => rfl
 | a :: l => by simp only [List.map_cons, List.flatten_cons, flat1 l]; rfl
theorem raws_rel {h : PH} : ∀ {us : List Value}, (∀ u ∈ us, u.oneCell' = true) → cellsRel h (us.map fun u => [CP.raw u]).flatten us
 | [], _ => .nil
 | u :: us, h1 => .cons ⟨rfl, h1 u List.mem_cons_self⟩ (raws_rel fun x hx => h1 x (List.mem_cons_of_mem _ hx))
theorem raws_eq {h : PH} : ∀ {us xs : List Value}, cellsRel h (us.map fun u => [CP.raw u]).flatten xs → xs = us
 | [], _, .nil => rfl
 | u :: us, _, .cons h1 t => by rw [h1.1, raws_eq t]
section
variable {P : Program} {TB : Tabs} {E : Env TB} {n : Sh} {s : St} {dst : Option Nat} {t ty yt : TypeId} {pos : String} {after : Array Edge} {g : Option (Nat × Bool)} {x y c : Operand} {Q : Post} {cd : Code} {ops : Array Oper} {l : List Oper}
variable {own : List (Nat × OC)} {h : PH} {ρ : RM} {w : World} {k kp i size bytes : Nat} {T e : TypeId} {hole : Option Nat} {ess : List (List (List CP))} {us : List Value} {v : Value}
theorem RrOk.len (x : RrOk h v w T e size hole ess us) : us.length = ess.length := by have := x.out.1; omega
theorem RrOk.at (x : RrOk h v w T e size hole ess us) {i : Nat} {u : Value} (hi : us[i]? = some u) : ∃ es, ess[i]? = some es := by
 have h4 : i < us.length := (List.getElem?_eq_some_iff.1 hi).1
 exact ⟨_, List.getElem?_eq_getElem (by rw [← x.len]; exact h4)⟩
theorem RrOk.foot (x : RrOk h v w T e size hole ess us) {b : Nat} : (OC.rr T e size hole ess).foot v w b ↔ blkOf v = some b ∨ ∃ (i : Nat) (u : Value), us[i]? = some u ∧ some i ≠ hole ∧ blkOf u = some b := or_congr Iff.rfl x.inner
theorem RrOk.lt (x : RrOk h v w T e size hole ess us) {i b : Nat} {u : Value} (h1 : us[i]? = some u) (h2 : some i ≠ hole) (h3 : blkOf u = some b) : b < w.heap.size := by
 obtain ⟨es, hes⟩ := x.at h1
 obtain ⟨xs, h6, _⟩ := (x.rows i u es h1 hes h2).row
 exact ownsRow_lt h6 h3
theorem rowOk_nil (hz : 0 < size) : RowOk h w e size (.slice none 0 0) [] := ⟨fun ps hps => by simp at hps, [], ⟨by simp, .inl ⟨rfl, rfl⟩⟩, .nil⟩
theorem R.nilrr {a : Act} (hr : R E n s a w) {i k size : Nat} {T e : TypeId} (hi : s.get i = some (.b (.one .nil))) (hz : 0 < size) (hfx : n.fix.contains k = false) (hnu : noUse k s.own = true) : R E n ⟨(i, .b (.row k)) :: del i (dropU k s.slots), ins k (.rr T e size none []) s.own⟩ a w := by
 obtain ⟨h1, h2, h, ρ, hw, hs⟩ := hr
 have hok : RrOk h (.slice none 0 0) w T e size none [] [] := ⟨hz, ⟨rfl, .inl ⟨rfl, rfl⟩⟩, by simp, by simp, by simp, by simp⟩
 refine ⟨h1, h2, h, upd ρ k (.slice none 0 0), hw.stepF (w' := w) k (.slice none 0 0) (.rr T e size none []) none (fun b e => by simp at e) (Nat.le_refl _) rfl rfl (fun _ _ _ => rfl) ⟨[], hok⟩ (fun b hb => by
  rcases hok.foot.1 hb with h1 | ⟨i, u, h1, _, h3⟩
  ·simp [blkOf] at h1
  ·simp at h1) (.inr fun e => by simp at hfx; exact hfx e) (.inr hnu), ?_⟩
 intro j z hz'
 cases List.mem_cons.1 hz' with
 | inl e =>
  obtain ⟨rfl, rfl⟩ := Prod.mk.inj e
  obtain ⟨u, hu, hrel⟩ := hs _ _ (lk_mem (show lk s.slots _ = some _ from hi))
  exact ⟨u, hu, by
   have : u = .slice none 0 0 := hrel.1
   show u = upd ρ k _ k
   rw [upd_same, this]⟩
 | inr e => exact hs.dropU k _ j z (mem_del e).1
theorem append_rr_core (hw : WR E n own h ρ w) {zs : List CP} {e2 : TypeId} (ht : TySl P t e 1 bytes zs) (hk : lk own k = some (.rr e e2 size none ess)) (hsrc : Src w v h 1 [[.nil]])
  (hb : (ess.length + 1) * bytes ≤ 140737488355328) (hm : ess.length + 1 ≤ maxLen) :
  ∃ v' w', (Builtin.append_ #[t, t] ty #[ρ k, v]).run P w = .ok v' w' ∧ w.heap.size ≤ w'.heap.size ∧ w'.os = w.os ∧ w'.output = w.output ∧ (∀ b, b < w.heap.size → some b ≠ blkOf (ρ k) → w'.heap[b]? = w.heap[b]?) ∧
   (OC.rr e e2 size none (ess ++ [[]])).ok h ρ v' w' ∧ (∀ b, (OC.rr e e2 size none (ess ++ [[]])).foot v' w' b → (∃ c, (k, c) ∈ own ∧ c.foot (ρ k) w b) ∨ w.heap.size ≤ b) := by
 obtain ⟨us, x⟩ := (hw.owned k _ (lk_mem hk)).1
 have hlen := x.len
 have hok0 : (OC.row e 1 (us.map fun u => [CP.raw u])).ok h ρ (ρ k) w := ⟨fun ps hps => by obtain ⟨u, _, rfl⟩ := List.mem_map.1 hps; rfl, by decide, us, by rw [List.length_map, hlen]; exact x.out, raws_rel x.one⟩
 obtain ⟨v', w', hrun, h1, h2, h3, h4, ⟨_, _, xs, ho, hr⟩, h6⟩ := append_coreV (ty := ty) ht hok0 rfl hsrc (by simpa [hlen] using hb) (by simpa [hlen] using hm)
 rw [List.flatten_append] at hr
 obtain ⟨b1, b2, rfl, hr1, hr2⟩ := hr.unapp
 cases raws_eq hr1
 obtain ⟨u0, rfl, hu0⟩ : ∃ u0, b2 = [u0] ∧ u0 = Value.slice none 0 0 := by
  cases hr2 with
  | cons a b => cases b; exact ⟨_, rfl, a.1⟩
 subst hu0
 have hsm : ∀ i u b, us[i]? = some u → blkOf u = some b → w'.heap[b]? = w.heap[b]? := fun i u b hi hb => h4 b (x.lt hi (by simp) hb) fun e => x.self i u b hi (by simp) hb e.symm
 have hget : ∀ i u, (us ++ [Value.slice none 0 0])[i]? = some u → (us[i]? = some u ∧ i < us.length) ∨ (u = .slice none 0 0 ∧ i = us.length) := fun i u hi => by
  rw [List.getElem?_append] at hi
  split at hi
  ·next hlt => exact .inl ⟨hi, hlt⟩
  ·next hge =>
   have : i - us.length = 0 := by
    have := (List.getElem?_eq_some_iff.1 hi).1
    simp at this; omega
   rw [this] at hi
   simp at hi
   exact .inr ⟨hi.symm, by omega⟩
 have hok : RrOk h v' w' e e2 size none (ess ++ [[]]) (us ++ [.slice none 0 0]) := by
  refine ⟨x.pos, by simpa [hlen] using ho, fun u hm => ?_, fun i u es hi hes hn => ?_, fun i j u u' b hi hj _ _ hij hb hb' => ?_, fun i u b hi _ hb hb' => ?_⟩
  ·rcases List.mem_append.1 hm with hm | hm
   ·exact x.one u hm
   ·cases List.mem_singleton.1 hm; rfl
  ·rcases hget i u hi with ⟨hi, hlt⟩ | ⟨rfl, rfl⟩
   ·rw [List.getElem?_append_left (by omega)] at hes
    exact (x.rows i u es hi hes hn).congr fun b hb => hsm i u b hi hb
   ·rw [hlen, List.getElem?_append_right (Nat.le_refl _)] at hes
    simp at hes
    subst hes
    exact rowOk_nil x.pos
  ·rcases hget i u hi with ⟨hi, _⟩ | ⟨rfl, _⟩
   ·rcases hget j u' hj with ⟨hj, _⟩ | ⟨rfl, _⟩
    ·exact x.sep i j u u' b hi hj (by simp) (by simp) hij hb hb'
    ·simp [blkOf] at hb'
   ·simp [blkOf] at hb
  ·rcases hget i u hi with ⟨hi, _⟩ | ⟨rfl, _⟩
   ·rcases h6 b hb' with h7 | h7
    ·exact x.self i u b hi (by simp) hb h7
    ·have := x.lt hi (by simp) hb; omega
   ·simp [blkOf] at hb
 refine ⟨v', w', hrun, h1, h2, h3, h4, ⟨_, hok⟩, fun b hb => ?_⟩
 rcases hok.foot.1 hb with h7 | ⟨i, u, hi, _, h8⟩
 ·rcases h6 b h7 with h7 | h7
  ·exact .inl ⟨_, lk_mem hk, .inl h7⟩
  ·exact .inr h7
 ·rcases hget i u hi with ⟨hi, _⟩ | ⟨rfl, _⟩
  ·exact .inl ⟨_, lk_mem hk, x.foot.2 (.inr ⟨i, u, hi, by simp, h8⟩)⟩
  ·simp [blkOf] at h8
theorem Op1.makeF {o : Oper} {k : Nat} {c' : OC} {res : SV} (H : ∀ (a : Act) (w : World) (h : PH) (ρ : RM), WR E n s.own h ρ w → SlotsRel h ρ s.slots a.tmps →
      ∃ v' vk w' row, (execOp a.eval o).run P w = .ok (.value v') w' ∧ (∀ b, row = some b → ∃ c, (k, c) ∈ s.own ∧ c.foot (ρ k) w b) ∧ w.heap.size ≤ w'.heap.size ∧ w'.os = w.os ∧ w'.output = w.output ∧
        (∀ b, b < w.heap.size → some b ≠ row → w'.heap[b]? = w.heap[b]?) ∧ c'.ok h (upd ρ k vk) vk w' ∧ (∀ b, c'.foot vk w' b → (∃ c, (k, c) ∈ s.own ∧ c.foot (ρ k) w b) ∨ w.heap.size ≤ b) ∧ res.rel h (upd ρ k vk) v') (hfx : n.fix.contains k = false) (hnu : noUse k s.own = true := by rfl) :
    Op1 P E n o s ((⟨dropU k s.slots, ins k c' s.own⟩ : St).put n o.dst res) := by
  intro a w ⟨hdf, hn, h, ρ, hw, hs⟩ next Q hnext
  obtain ⟨v', vk, w', row, hv, h1, h2, h3, h4, h5, h6, h7, h8⟩ := H a w h ρ hw hs
  unfold Oper.wp
  rw [hv]
  exact hnext _ _ (R.put (s := ⟨dropU k s.slots, ins k c' s.own⟩) hdf hn (hw.stepF k vk c' row h1 h2 h3 h4 h5 h6 h7 (.inr fun e => by simp at hfx; exact hfx e) (.inr hnu)) (hs.dropU k vk) h8)
theorem op_append_rr_r {j : Nat} {zs : List CP} {e2 : TypeId} {ess' : List (List (List CP))} (ht : TySl P t e 1 bytes zs) (hb : (ess.length + 1) * bytes ≤ 140737488355328) (hm : ess.length + 1 ≤ 9223372036854775807)
  (hx : s.ev x = some (.b (.row k))) (hk : lk s.own k = some (.rr e e2 size none ess)) (hy : s.ev y = some (.b (.row j))) (hj : lk s.own j = some (.row e 1 [[.nil]])) (he : ess ++ [[]] = ess') (hfx : n.fix.contains k = false) (hnu : noUse k s.own = true := by rfl) :
  Op1 P E n ⟨dst, .call ⟨.builtin .append, #[x, y], #[t, t]⟩, ty, pos, after, g⟩ s ((⟨dropU k s.slots, ins k (.rr e e2 size none ess') s.own⟩ : St).put n dst (.b (.row k))) :=
 Op1.makeF (hfx := hfx) (hnu := hnu) (o := ⟨dst, .call ⟨.builtin .append, #[x, y], #[t, t]⟩, ty, pos, after, g⟩) fun ac w h ρ hw hs => by
  have hv : ac.eval x = ρ k := (ev_rel hs hx : BV.rel h ρ (.row k) _)
  have hu : ac.eval y = ρ j := (ev_rel hs hy : BV.rel h ρ (.row j) _)
  obtain ⟨v', w', hrun, h1, h2, h3, h4, h5, h6⟩ := append_rr_core (ty := ty) hw ht hk (Src.of_row hw hj) hb (by rw [maxLen_eq]; exact hm)
  subst he
  refine ⟨v', v', w', blkOf (ρ k), ?_, fun b hb => ⟨_, lk_mem hk, .inl hb⟩, h1, h2, h3, h4, h5, h6, (upd_same _ _ _).symm⟩
  rw [execOp_builtin, builtin_append]
  simp [hv, hu, hrun]
theorem op_len_rr (ht : P.underlying t = some (.slice yt)) (hx : s.ev x = some (.b (.row k))) (hk : lk s.own k = some (.rr T e size hole ess)) :
  Op1 P E n ⟨dst, .call ⟨.builtin .len, #[x], #[t]⟩, ty, pos, after, g⟩ s (s.put n dst (I (ess.length : Int))) :=
 Op1.val (o := ⟨dst, .call ⟨.builtin .len, #[x], #[t]⟩, ty, pos, after, g⟩) fun ac w h ρ hw hs => by
  have hv : ac.eval x = ρ k := (ev_rel hs hx : BV.rel h ρ (.row k) _)
  obtain ⟨us, x⟩ := (hw.owned k _ (lk_mem hk)).1
  rw [execOp_builtin, builtin_len]
  rcases x.out.2 with ⟨h1, h2⟩ | ⟨b, cap, cur, h1, _, _, h2, h3, _⟩
  ·exact ⟨.int .i64 0, by simp [hv, h1, Builtin.len_, run_underlying ht, goInt], by rw [h2]; rfl, by rw [h2]; exact inR_len (m := 0) (Nat.zero_le _)⟩
  ·exact ⟨.int .i64 ess.length, by simp [hv, h1, Builtin.len_, run_underlying ht, goInt], rfl, inR_len (by omega)⟩
theorem op_index_rr {bytes o : Nat} {zs : List CP} {kd : IntKind} {i : Int} {e2 : TypeId} (ht : TySl P t e 1 bytes zs) (h0 : 0 ≤ i) (h1 : i < ess.length)
  (hx : s.ev x = some (.b (.row k))) (hk : lk s.own k = some (.rr T e2 size hole ess)) (hy : s.ev y = some (.b (.one (.int kd i)))) (ho : i.toNat = o) :
  Op1 P E n ⟨dst, .indexAddr t x y, ty, pos, after, g⟩ s (s.put n dst (.b (.rptr k o))) :=
 Op1.val (o := ⟨dst, .indexAddr t x y, ty, pos, after, g⟩) fun ac w h ρ hw hs => by
  have hv : ac.eval x = ρ k := (ev_rel hs hx : BV.rel h ρ (.row k) _)
  obtain ⟨us, q⟩ := (hw.owned k _ (lk_mem hk)).1
  rcases q.out.2 with ⟨_, he⟩ | ⟨b, cap, cur, hρ, _, hb, hc1, hc2, hc3, hc4⟩
  ·omega
  ·refine ⟨.pointer (some ⟨b, i.toNat * 1, none⟩), ?_, b, ess.length, cap, hρ, by rw [← ho, Nat.mul_one]⟩
   simp only [execOp, hv, hρ, (ev_int hs hy).1]
   simp [run_indexAt_sl ht w b 0 ess.length cap kd i h0 (by omega)]
theorem wr_rrOut (hw : WR E n own h ρ w) {es : List (List CP)} {u : Value} (hk : lk own k = some (.rr T e size none ess)) (x : RrOk h (ρ k) w T e size none ess us) (hu : us[i]? = some u) (hi : ess[i]? = some es) (hne : kp ≠ k) (hfx : kp ∉ n.fix) (hnu : noUse kp own = true) :
  WR E n (ins kp (.row e size es) (ins k (.rr T e size (some i) ess) own)) h (upd ρ kp u) w := by
 have hkm := lk_mem hk
 obtain ⟨e1, e2, e3⟩ := hw.owned k _ hkm
 have hro := x.rows i u es hu hi (by simp)
 have x' : RrOk h (ρ k) w T e size (some i) ess us := ⟨x.pos, x.out, x.one, fun j u' es' h1 h2 _ => x.rows j u' es' h1 h2 (by simp), fun a b u1 u2 bb h1 h2 _ _ => x.sep a b u1 u2 bb h1 h2 (by simp) (by simp), fun j u' b h1 _ => x.self j u' b h1 (by simp)⟩
 have fu : ∀ b, blkOf u = some b → (OC.rr T e size none ess).foot (ρ k) w b := fun b hb => x.foot.2 (.inr ⟨i, u, hu, by simp, hb⟩)
 have fk : ∀ b, (OC.rr T e size (some i) ess).foot (ρ k) w b → (OC.rr T e size none ess).foot (ρ k) w b := fun b hb => by
  rcases x'.foot.1 hb with h1 | ⟨j, u', h1, _, h3⟩
  ·exact .inl h1
  ·exact x.foot.2 (.inr ⟨j, u', h1, by simp, h3⟩)
 have sep : ∀ b, blkOf u = some b → ¬ (OC.rr T e size (some i) ess).foot (ρ k) w b := fun b hb hf => by
  rcases x'.foot.1 hf with h1 | ⟨j, u', h1, h2, h3⟩
  ·exact x.self i u b hu (by simp) hb h1
  ·exact x.sep j i u' u b h1 hu (by simp) (by simp) (fun e => h2 (by rw [e])) h3 hb
 have old : ∀ j z, (j, z) ∈ ins kp (OC.row e size es) (ins k (OC.rr T e size (some i) ess) own) → (j = kp ∧ z = .row e size es) ∨ (j = k ∧ z = .rr T e size (some i) ess) ∨ (j ≠ kp ∧ j ≠ k ∧ (j, z) ∈ own) := fun j z hj => by
  rcases mem_ins hj with ⟨rfl, rfl⟩ | ⟨h1, hj⟩
  ·exact .inl ⟨rfl, rfl⟩
  ·rcases mem_ins hj with ⟨rfl, rfl⟩ | ⟨h2, hj⟩
   ·exact .inr (.inl ⟨rfl, rfl⟩)
   ·exact .inr (.inr ⟨h1, h2, hj⟩)
 have hρk : upd ρ kp u k = ρ k := upd_other _ _ fun e => hne e.symm
 refine ⟨hw.agree, hw.le, hw.fresh, hw.size, hw.same, fun j hj => ?_, hw.os, hw.out, hw.nl, fun j z hj => ?_⟩
 ·rw [upd_other _ _ fun e => hfx (by rw [← e]; exact hj)]; exact hw.fixed j hj
 ·rcases old j z hj with ⟨rfl, rfl⟩ | ⟨rfl, rfl⟩ | ⟨j1, j2, j3⟩
  ·rw [upd_same]
   obtain ⟨xs, hx1, hx2⟩ := hro.row
   refine ⟨⟨hro.uni, x.pos, xs, hx1, hx2⟩, fun b hb => e2 b (fu b (hb.of_plain rfl)), fun j' z' hj' hne' b hb hb' => ?_⟩
   have hb := hb.of_plain rfl
   rcases old j' z' hj' with ⟨rfl, rfl⟩ | ⟨rfl, rfl⟩ | ⟨i1, i2, i3⟩
   ·exact hne' rfl
   ·rw [hρk] at hb'; exact sep b hb hb'
   ·rw [upd_other _ _ i1] at hb'; exact e3 j' z' i3 i2 b (fu b hb) hb'
  ·rw [hρk]
   refine ⟨⟨us, x'⟩, fun b hb => e2 b (fk b hb), fun j' z' hj' hne' b hb hb' => ?_⟩
   rcases old j' z' hj' with ⟨rfl, rfl⟩ | ⟨rfl, rfl⟩ | ⟨i1, i2, i3⟩
   ·rw [upd_same] at hb'; exact sep b (hb'.of_plain rfl) hb
   ·exact hne' rfl
   ·rw [upd_other _ _ i1] at hb'; exact e3 j' z' i3 i2 b (fk b hb) hb'
  ·rw [upd_other _ _ j1]
   obtain ⟨g1, g2, g3⟩ := hw.owned j z j3
   refine ⟨g1.ren fun q hq => upd_other _ _ fun e => ?_, g2, fun j' z' hj' hne' b hb hb' => ?_⟩
   ·subst e; rw [noUse_mem hnu j3] at hq; simp at hq
   rcases old j' z' hj' with ⟨rfl, rfl⟩ | ⟨rfl, rfl⟩ | ⟨i1, i2, i3⟩
   ·rw [upd_same] at hb'; exact g3 k _ hkm (fun e => j2 e.symm) b hb (fu b (hb'.of_plain rfl))
   ·rw [hρk] at hb'; exact g3 _ _ hkm (fun e => j2 e.symm) b hb (fk b hb')
   ·rw [upd_other _ _ i1] at hb'; exact g3 j' z' i3 hne' b hb hb'
theorem op_load_rr {o : Nat} {es : List (List CP)} (kp : Nat) (ht : TyOne P t) (hx : s.ev x = some (.b (.rptr k o))) (hk : lk s.own k = some (.rr T e size none ess)) (ho : o = i) (hi : ess[i]? = some es)
  (hne : kp ≠ k) (hfx : n.fix.contains kp = false) (hnu : noUse kp s.own = true) :
  Op1 P E n ⟨dst, .load t x, ty, pos, after, g⟩ s ((⟨dropU kp s.slots, ins kp (.row e size es) (ins k (.rr T e size (some i) ess) s.own)⟩ : St).put n dst (.b (.row kp))) := by
 intro a w ⟨hdf, hn, h, ρ, hw, hs⟩ next Q hnext
 subst ho
 obtain ⟨b, mm, q, he, hv⟩ := (ev_rel hs hx : BV.rel h ρ (.rptr k o) _)
 obtain ⟨us, z⟩ := (hw.owned k _ (lk_mem hk)).1
 have hlt : o < us.length := by rw [z.len]; exact (List.getElem?_eq_some_iff.1 hi).1
 have hlen := z.len
 obtain ⟨u, hu⟩ : ∃ u, us[o]? = some u := ⟨_, List.getElem?_eq_getElem hlt⟩
 rcases z.out.2 with ⟨h1, _⟩ | ⟨b', cap, cur, h1, _, h2, h3, h4, h5, h6⟩
 ·rw [h1] at he; cases he
 rw [h1] at he
 cases he
 have hcell : w.cell? ⟨b, o, none⟩ = some u := by
  rw [cell_row h2]
  rw [← h6, List.getElem?_take, if_pos (by omega)] at hu
  simpa using hu
 have hrun := run_load_one ht (w := w) hcell
 have hrun' : (execOp a.eval ⟨dst, .load t x, ty, pos, after, g⟩).run P w = .ok (.value u) w := by
  simp only [execOp, hv, Instr.loadAt, Instr.sureAddr]
  simp [hrun]
 unfold Oper.wp
 rw [hrun']
 refine hnext _ _ (R.put (s := ⟨dropU kp s.slots, ins kp (.row e size es) (ins k (.rr T e size (some o) ess) s.own)⟩) hdf hn (wr_rrOut hw hk z hu hi hne (fun e => by simp at hfx; exact hfx e) hnu) (hs.dropU kp u) ?_)
 exact (upd_same _ _ _).symm
theorem wr_rrIn (hw : WR E n own h ρ w) {es : List (List CP)} (hkm : (k, OC.rr T e size (some i) ess) ∈ own) (x : RrOk h (ρ k) w T e size (some i) ess us) (hu : us[i]? = some (ρ kp)) (hpm : (kp, OC.row e size es) ∈ own) (hne : kp ≠ k) :
  WR E n (del kp (ins k (.rr T e size none (ess.set i es)) own)) h ρ w := by
 obtain ⟨e1, e2, e3⟩ := hw.owned k _ hkm
 obtain ⟨p1, p2, p3⟩ := hw.owned kp _ hpm
 obtain ⟨q1, q2, xs, q3, q4⟩ := p1
 have hinner : ∀ j u b, us[j]? = some u → j ≠ i → blkOf u = some b → (OC.rr T e size (some i) ess).foot (ρ k) w b := fun j u b h1 h2 h3 => x.foot.2 (.inr ⟨j, u, h1, by simpa using h2, h3⟩)
 have x' : RrOk h (ρ k) w T e size none (ess.set i es) us := by
  refine ⟨x.pos, by rw [List.length_set]; exact x.out, x.one, fun j u es' h1 h2 _ => ?_, fun a b u1 u2 bb h1 h2 _ _ hab hb hb' => ?_, fun j u b h1 _ hb hb' => ?_⟩
  ·by_cases e0 : j = i
   ·subst e0
    rw [hu] at h1
    cases h1
    rw [List.getElem?_set] at h2
    simp only [if_true] at h2
    split at h2
    ·cases h2; exact ⟨q1, xs, q3, q4⟩
    ·cases h2
   ·rw [List.getElem?_set_ne (fun e => e0 e.symm)] at h2
    exact x.rows j u es' h1 h2 (by simpa using e0)
  ·by_cases a0 : a = i
   ·subst a0
    rw [hu] at h1; cases h1
    exact e3 kp _ hpm hne bb (hinner b u2 bb h2 (fun e => hab e.symm) hb') (.inl hb)
   ·by_cases b0 : b = i
    ·subst b0
     rw [hu] at h2; cases h2
     exact e3 kp _ hpm hne bb (hinner a u1 bb h1 a0 hb) (.inl hb')
    ·exact x.sep a b u1 u2 bb h1 h2 (by simpa using a0) (by simpa using b0) hab hb hb'
  ·by_cases j0 : j = i
   ·subst j0
    rw [hu] at h1; cases h1
    exact e3 kp _ hpm hne b (.inl hb') (.inl hb)
   ·exact x.self j u b h1 (by simpa using j0) hb hb'
 have fk : ∀ b, (OC.rr T e size none (ess.set i es)).foot (ρ k) w b → (OC.rr T e size (some i) ess).foot (ρ k) w b ∨ blkOf (ρ kp) = some b := fun b hb => by
  rcases x'.foot.1 hb with h1 | ⟨j, u', h1, _, h3⟩
  ·exact .inl (.inl h1)
  ·by_cases j0 : j = i
   ·subst j0
    rw [hu] at h1; cases h1
    exact .inr h3
   ·exact .inl (hinner j u' b h1 j0 h3)
 have old : ∀ j z, (j, z) ∈ del kp (ins k (OC.rr T e size none (ess.set i es)) own) → (j = k ∧ z = .rr T e size none (ess.set i es)) ∨ (j ≠ kp ∧ j ≠ k ∧ (j, z) ∈ own) := fun j z hj => by
  obtain ⟨h1, h2⟩ := mem_del hj
  rcases mem_ins h1 with ⟨rfl, rfl⟩ | ⟨h3, hj⟩
  ·exact .inl ⟨rfl, rfl⟩
  ·exact .inr ⟨h2, h3, hj⟩
 refine ⟨hw.agree, hw.le, hw.fresh, hw.size, hw.same, hw.fixed, hw.os, hw.out, hw.nl, fun j z hj => ?_⟩
 rcases old j z hj with ⟨rfl, rfl⟩ | ⟨j1, j2, j3⟩
 ·refine ⟨⟨us, x'⟩, fun b hb => (fk b hb).elim (e2 b) fun hb => p2 b (.inl hb), fun j' z' hj' hne' b hb hb' => ?_⟩
  rcases old j' z' hj' with ⟨rfl, rfl⟩ | ⟨i1, i2, i3⟩
  ·exact hne' rfl
  ·rcases fk b hb with hb | hb
   ·exact e3 j' z' i3 i2 b hb hb'
   ·exact p3 j' z' i3 i1 b (.inl hb) hb'
 ·obtain ⟨g1, g2, g3⟩ := hw.owned j z j3
  refine ⟨g1, g2, fun j' z' hj' hne' b hb hb' => ?_⟩
  rcases old j' z' hj' with ⟨rfl, rfl⟩ | ⟨i1, i2, i3⟩
  ·rcases fk b hb' with hb' | hb'
   ·exact g3 _ _ hkm (fun e => j2 e.symm) b hb hb'
   ·exact g3 _ _ hpm (fun e => j1 e.symm) b hb (.inl hb')
  ·exact g3 j' z' i3 hne' b hb hb'
theorem op_store_rr {o : Nat} {es : List (List CP)} {ess' : List (List (List CP))} (ht : TyOne P t) (hx : s.ev x = some (.b (.rptr k o))) (hk : lk s.own k = some (.rr T e size (some i) ess)) (hy : s.ev y = some (.b (.row kp))) (hkp : lk s.own kp = some (.row e size es))
  (ho : o = i) (hi : i < ess.length) (hne : kp ≠ k) (he : ess.set i es = ess') :
  Op1 P E n ⟨none, .store t x y, ty, pos, after, g⟩ s ⟨dropU kp s.slots, del kp (ins k (.rr T e size none ess') s.own)⟩ := by
 intro a w ⟨hdf, hn, h, ρ, hw, hs⟩ next Q hnext
 subst ho
 subst he
 obtain ⟨b, mm, q, hρ, hv⟩ := (ev_rel hs hx : BV.rel h ρ (.rptr k o) _)
 have hy' : a.eval y = ρ kp := (ev_rel hs hy : BV.rel h ρ (.row kp) _)
 obtain ⟨us, z⟩ := (hw.owned k _ (lk_mem hk)).1
 have hlen := z.len
 have hone : (ρ kp).oneCell' = true := by
  obtain ⟨_, _, hf⟩ := row_form hw hkp
  rcases hf with ⟨h1, _⟩ | ⟨b, cap, cur, h1, _⟩ <;> rw [h1] <;> rfl
 obtain ⟨i', hi', hm⟩ := ht.size
 rcases z.out.2 with ⟨h1, _⟩ | ⟨b', cap, cur, h1, _, h2, h3, h4, h5, h6⟩
 ·rw [h1] at hρ; cases hρ
 rw [h1] at hρ
 cases hρ
 have hcells : (ρ kp).cells = #[ρ kp] := by cases hq : ρ kp <;> first | rfl | (rw [hq] at hone; simp [Value.oneCell'] at hone)
 have hrun := run_store_at (P := P) (t := t) hi' hm h2 (v := ρ kp) (o := o) (by rw [hcells]; rfl) (by omega) (by rw [hcells]; simpa using hone)
 have hrun' : (execOp a.eval ⟨none, .store t x y, ty, pos, after, g⟩).run P w = .ok .skip (w.setRow b (Sk.splice cur.toList o (ρ kp).cells.toList).toArray) := by
  simp only [execOp, hv, hy', Instr.storeAt, Instr.sureAddr]
  simp [hrun]
 have hset : Sk.splice cur.toList o (ρ kp).cells.toList = cur.toList.set o (ρ kp) := by
  rw [hcells]
  have : o < cur.toList.length := by simp; omega
  simp only [Sk.splice, List.length_cons, List.length_nil]
  rw [List.set_eq_take_append_cons_drop, if_pos this]
  simp
 rw [hset] at hrun'
 unfold Oper.wp
 rw [hrun']
 have hz' : RrOk h (ρ k) (w.setRow b (cur.toList.set o (ρ kp)).toArray) T e size (some o) ess (us.set o (ρ kp)) := by
  refine ⟨z.pos, ⟨by rw [List.length_set]; exact z.out.1, .inr ⟨b, q, _, h1, Nat.zero_le _, setRow_heap _ _ _ _ _ _ h2, h3, h4, by simp [h5], ?_⟩⟩, fun u hu => ?_, fun j u es' g1 g2 g3 => ?_, fun c d u1 u2 bb g1 g2 g3 g4 => ?_, fun j u bb g1 g2 => ?_⟩
  ·rw [← h6]
   show (cur.toList.set o (ρ kp)).take _ = _
   rw [List.take_set]
  ·rcases List.mem_or_eq_of_mem_set hu with hu | rfl
   ·exact z.one u hu
   ·exact hone
  ·have j0 : o ≠ j := fun e => g3 (by rw [e])
   rw [List.getElem?_set_ne j0] at g1
   exact (z.rows j u es' g1 g2 g3).congr fun bb hb => setRow_other _ _ _ _ fun e => z.self j u bb g1 g3 hb (by rw [h1, ← e]; rfl)
  ·have c0 : o ≠ c := fun e => g3 (by rw [e])
   have d0 : o ≠ d := fun e => g4 (by rw [e])
   rw [List.getElem?_set_ne c0] at g1
   rw [List.getElem?_set_ne d0] at g2
   exact z.sep c d u1 u2 bb g1 g2 g3 g4
  ·have j0 : o ≠ j := fun e => g2 (by rw [e])
   rw [List.getElem?_set_ne j0] at g1
   exact z.self j u bb g1 g2
 have hst := hw.stepF (w' := w.setRow b (cur.toList.set o (ρ kp)).toArray) k (ρ k) (.rr T e size (some o) ess) (some b) (fun b' e => by cases e; exact ⟨_, lk_mem hk, .inl (by rw [h1]; rfl)⟩) (by simp) rfl rfl
  (fun b' _ hne => setRow_other _ _ _ _ (fun e => hne (by rw [e]))) ⟨_, hz'⟩ (fun bb hb => .inl ⟨_, lk_mem hk, by
   rcases hz'.foot.1 hb with g1 | ⟨j, u, g1, g2, g3⟩
   ·exact .inl g1
   ·have j0 : o ≠ j := fun e => g2 (by rw [e])
    rw [List.getElem?_set_ne j0] at g1
    exact z.foot.2 (.inr ⟨j, u, g1, g2, g3⟩)⟩) (.inl rfl) (.inl rfl)
 rw [upd_self] at hst
 have hself : ∀ {c : OC} {l : List (Nat × OC)}, (k, c) ∈ ins k c l := fun {c l} => by
  induction l with
  | nil => simp [ins]
  | cons p l ih =>
   obtain ⟨j, d⟩ := p
   unfold ins
   split
   ·exact List.mem_cons_self
   ·exact List.mem_cons_of_mem _ ih
 have hin := (wr_rrIn (kp := kp) hst hself hz' (by rw [List.getElem?_set, if_pos rfl, if_pos (by omega)]) (ins_of_mem (lk_mem hkp) hne) hne).sub (own' := del kp (ins k (.rr T e size none (ess.set o es)) s.own)) fun p hp => by
  obtain ⟨j, z⟩ := p
  obtain ⟨g1, g2⟩ := mem_del hp
  refine del_of_mem ?_ g2
  rcases mem_ins g1 with ⟨rfl, rfl⟩ | ⟨g3, g4⟩
  ·exact hself
  ·exact ins_of_mem (ins_of_mem g4 g3) g3
 exact hnext _ _ ⟨hdf, hn, h, ρ, hin, fun j q hq => hs j q (mem_dropU hq).1⟩
theorem R.persistRR {a : Act} (hr : R E n s a w) (hk : lk s.own k = some (.rr T e size none ess)) : R E n ⟨persS k (.sl 1 (ess.map fun es => [.sl size es])) s.slots, persO k (.sl 1 (ess.map fun es => [.sl size es])) (del k s.own)⟩ a w := by
 obtain ⟨h1, h2, h, ρ, hw, hs⟩ := hr
 obtain ⟨e1, e2, e3⟩ := hw.owned k _ (lk_mem hk)
 obtain ⟨us, x⟩ := id e1
 classical
 obtain ⟨h', hh'⟩ : ∃ h' : PH, ∀ b o, h' b o = if (OC.rr T e size none ess).foot (ρ k) w b then look w b o else h b o := ⟨fun b o => if (OC.rr T e size none ess).foot (ρ k) w b then look w b o else h b o, fun _ _ => rfl⟩
 have hle : h.le h' := fun b o v hv => by
  rw [hh']
  split
  ·next hf => rw [(e2 b hf).2 o] at hv; cases hv
  ·exact hv
 have hrows : ∀ (i : Nat) u es, us[i]? = some u → ess[i]? = some es → (CP.sl size es).rel h' u := fun i u es hu hes => by
  obtain ⟨q1, xs, q2, q3⟩ := x.rows i u es hu hes (by simp)
  refine ⟨q1, x.pos, ?_⟩
  rcases q2.2 with ⟨rfl, h4⟩ | ⟨g, cap, cur, rfl, _, h5, h6, h7, h8, h9⟩
  ·exact .inl ⟨rfl, List.length_eq_zero_iff.1 h4⟩
  ·refine .inr (.inl ⟨g, 0, cap, rfl, h6, h7, fun j c hc => ?_⟩)
   obtain ⟨z, hz, hcz⟩ := q3.get j c hc
   refine ⟨z, ?_, c.mono hle hcz⟩
   rw [hh', if_pos (x.foot.2 (.inr ⟨i, _, hu, by simp, rfl⟩)), Nat.zero_add]
   refine look_cells h5 ?_ (c.one hcz)
   rw [← h9, List.getElem?_take] at hz
   split at hz
   ·simpa using hz
   ·cases hz
 have hsl : (CP.sl 1 (ess.map fun es => [.sl size es])).rel h' (ρ k) := by
  refine ⟨fun ps hps => by obtain ⟨_, _, rfl⟩ := List.mem_map.1 hps; rfl, by decide, ?_⟩
  have hlen := x.len
  rcases x.out.2 with ⟨hv, h4⟩ | ⟨g, cap, cur, hv, _, h5, h6, h7, h8, h9⟩
  ·exact .inl ⟨hv, by rw [List.length_eq_zero_iff.1 h4]; rfl⟩
  ·refine .inr (.inl ⟨g, 0, cap, by rw [List.length_map]; exact hv, by simpa using h6, h7, fun j c hc => ?_⟩)
   have hfl : (ess.map fun es => [CP.sl size es]).flatten = ess.map fun es => CP.sl size es := by
    exact flat1 ess
   rw [hfl, List.getElem?_map] at hc
   obtain ⟨es, hes, rfl⟩ := Option.map_eq_some_iff.1 hc
   have hj : j < us.length := by rw [hlen]; exact (List.getElem?_eq_some_iff.1 hes).1
   obtain ⟨u, hu⟩ : ∃ u, us[j]? = some u := ⟨_, List.getElem?_eq_getElem hj⟩
   refine ⟨u, ?_, hrows j u es hu hes⟩
   rw [hh', if_pos (x.foot.2 (.inl (by rw [hv]; rfl))), Nat.zero_add]
   refine look_cells h5 ?_ (x.one u (List.mem_of_getElem? hu))
   rw [← h9, List.getElem?_take] at hu
   split at hu
   ·simpa using hu
   ·cases hu
 refine ⟨h1, h2, h', ρ, WR.persO (k := k) (p := .sl 1 (ess.map fun es => [.sl size es])) (own := del k s.own) ⟨fun b o v hv => ?_, PH.le_trans hw.le hle, fun b hb hnl => ?_, hw.size, hw.same, hw.fixed, hw.os, hw.out, hw.nl, fun j c hj => ?_⟩ hsl, ?_⟩
 ·rw [hh'] at hv
  split at hv
  ·exact hv
  ·exact hw.agree b o v hv
 ·rw [← hw.fresh b hb hnl]
  funext o
  rw [hh', if_neg fun hf => by
   rcases (e2 b hf).1 with h | h
   ·omega
   ·exact hnl h]
 ·obtain ⟨hj1, hj2⟩ := mem_del hj
  obtain ⟨g1, g2, g3⟩ := hw.owned j c hj1
  refine ⟨g1.mono hle, fun b hb => ⟨(g2 b hb).1, fun o => ?_⟩, fun j' c' hj' => g3 j' c' (mem_del hj').1⟩
  rw [hh', if_neg fun hf => g3 k _ (lk_mem hk) (fun e => hj2 e.symm) b hb hf]
  exact (g2 b hb).2 o
 ·intro j q hq
  obtain ⟨y, hy, rfl⟩ := mem_persS hq
  obtain ⟨v, hv, hrel⟩ := hs j y hy
  exact ⟨v, hv, SV.pers_rel hsl (SV.mono hle (fun _ _ => rfl) hrel)⟩
end
end Go.Sk

namespace Go.Sk
set_option linter.unusedSimpArgs false
set_option linter.unusedVariables false
open Go Go.BigFrame
theorem All2.unapp' {α β : Type} {r : α → β → Prop} : ∀ {xs : List α} {bs bs' : List β}, All2 r xs (bs ++ bs') → ∃ a1 a2, xs = a1 ++ a2 ∧ All2 r a1 bs ∧ All2 r a2 bs'
 | xs, [], _, h => ⟨[], xs, rfl, .nil, h⟩
 | _ :: _, _ :: _, _, .cons h t => by
  obtain ⟨a1, a2, rfl, h1, h2⟩ := All2.unapp' t
  exact ⟨_ :: a1, a2, rfl, .cons h h1, h2⟩
section
variable {P : Program} {TB : Tabs} {E : Env TB} {n : Sh} {s : St} {dst : Option Nat} {t ty yt : TypeId} {pos : String} {after : Array Edge} {g : Option (Nat × Bool)} {x y c : Operand} {Q : Post} {cd : Code} {ops : Array Oper} {l : List Oper} {o : Oper}
variable {own : List (Nat × OC)} {h : PH} {ρ : RM} {w : World} {k kp i size bytes : Nat} {T e : TypeId} {hole : Option Nat} {ess : List (List (List CP))} {us : List Value} {v : Value}
variable {j ki : Nat} {m rest : MapI} {cur : Option (Int × Int)}
theorem Tri.nilrr (i k size : Nat) (T e : TypeId) (hi : s.get i = some (.b (.one .nil))) (hz : 0 < size) (hfx : n.fix.contains k = false) (hc : Tri P E n cd ⟨(i, .b (.row k)) :: del i (dropU k s.slots), ins k (.rr T e size none []) s.own⟩ Q) (hnu : noUse k s.own = true := by rfl) : Tri P E n cd s Q := fun a w hr => hc a w (hr.nilrr hi hz hfx hnu)
theorem OpsL.nilrr (i k size : Nat) (T e : TypeId) (hi : s.get i = some (.b (.one .nil))) (hz : 0 < size) (hfx : n.fix.contains k = false) (hc : OpsL P E n ops l ⟨(i, .b (.row k)) :: del i (dropU k s.slots), ins k (.rr T e size none []) s.own⟩ Q) (hnu : noUse k s.own = true := by rfl) : OpsL P E n ops l s Q := fun a w hr => hc a w (hr.nilrr hi hz hfx hnu)
theorem Fin.nilrr {ex : Exit} (i k size : Nat) (T e : TypeId) (hi : s.get i = some (.b (.one .nil))) (hz : 0 < size) (hfx : n.fix.contains k = false) (hc : Fin E n ex ⟨(i, .b (.row k)) :: del i (dropU k s.slots), ins k (.rr T e size none []) s.own⟩ Q) (hnu : noUse k s.own = true := by rfl) : Fin E n ex s Q := fun a w hr => hc a w (hr.nilrr hi hz hfx hnu)
theorem Tri.persistRR (k : Nat) (hk : lk s.own k = some (.rr T e size none ess)) (hc : Tri P E n cd ⟨persS k (.sl 1 (ess.map fun es => [.sl size es])) s.slots, persO k (.sl 1 (ess.map fun es => [.sl size es])) (del k s.own)⟩ Q) : Tri P E n cd s Q := fun a w hr => hc a w (hr.persistRR hk)
theorem OpsL.persistRR (k : Nat) (hk : lk s.own k = some (.rr T e size none ess)) (hc : OpsL P E n ops l ⟨persS k (.sl 1 (ess.map fun es => [.sl size es])) s.slots, persO k (.sl 1 (ess.map fun es => [.sl size es])) (del k s.own)⟩ Q) : OpsL P E n ops l s Q := fun a w hr => hc a w (hr.persistRR hk)
theorem Fin.persistRR {ex : Exit} (k : Nat) (hk : lk s.own k = some (.rr T e size none ess)) (hc : Fin E n ex ⟨persS k (.sl 1 (ess.map fun es => [.sl size es])) s.slots, persO k (.sl 1 (ess.map fun es => [.sl size es])) (del k s.own)⟩ Q) : Fin E n ex s Q := fun a w hr => hc a w (hr.persistRR hk)
def xcv : List BV → Option (List CV)
 | [] => some []
 | z :: l => (BV.cv z).bind fun q => (xcv l).map fun r => q :: r
theorem xcv_rel : ∀ {zs : List BV} {cs : List CV} {vs : List Value}, xcv zs = some cs → All2 (fun (x : BV) u => x.rel h ρ u ∧ u.oneCell' = true) zs vs → All2 (fun (x : CV) u => x.rel h ρ u ∧ u.oneCell' = true) cs vs
 | [], cs, _, hc, .nil => by cases hc; exact .nil
 | z :: zs, cs, _, hc, .cons h1 t => by
  unfold xcv at hc
  simp only [Option.bind_eq_some_iff, Option.map_eq_some_iff] at hc
  obtain ⟨q, hq, r, hr, rfl⟩ := hc
  exact .cons ⟨BV.cv_rel hq h1.1, h1.2⟩ (xcv_rel hr t)
theorem Op1.res {s1 : St} {d : Option Nat} {z z' : SV} (h1 : Op1 P E n o s (s1.put n d z)) (hz : ∀ h ρ v, z.rel h ρ v → z'.rel h ρ v) : Op1 P E n o s (s1.put n d z') := fun a w hr next Q hn => h1 a w hr next Q fun a' w' hr' => hn a' w' (by
 cases d with
 | none => exact hr'
 | some d =>
  simp only [St.put, St.set] at hr' ⊢
  split at hr'
  ·next hd =>
   rw [if_pos hd]
   obtain ⟨h1, h2, h, ρ, hw, hs⟩ := hr'
   refine ⟨h1, h2, h, ρ, hw, fun j q hq => ?_⟩
   cases List.mem_cons.1 hq with
   | inl e =>
    obtain ⟨rfl, rfl⟩ := Prod.mk.inj e
    obtain ⟨u, hu, hrel⟩ := hs j z List.mem_cons_self
    exact ⟨u, hu, hz _ _ _ hrel⟩
   | inr e => exact hs j q (List.mem_cons_of_mem _ e)
  ·next hd => rw [if_neg hd]; exact hr')
theorem Op1.toXa {s1 : St} {d : Option Nat} {zs : List BV} {cs : List CV} (h1 : Op1 P E n o s (s1.put n d (.xagg zs))) (hc : xcv zs = some cs) : Op1 P E n o s (s1.put n d (.b (.xa cs))) :=
 h1.res fun h ρ v ⟨vs, e, ha⟩ => ⟨vs, e, xcv_rel hc ha⟩
theorem op_box_xa {T k : Nat} {cs : List CV} {zs : List BV} (hx : s.ev x = some (.b (.xa cs))) (hz : cs.map CV.bv = zs) (hfx : n.fix.contains k = false) (hself : (zs.any (·.uses k)) = false) (hnu : noUse k s.own = true := by rfl) : Op1 P E n ⟨dst, .box T x, ty, pos, after, g⟩ s ((⟨dropU k s.slots, ins k (.xbox T zs) s.own⟩ : St).put n dst (.b (.ptr k 0))) :=
 Op1.make (hfx := hfx) (hnu := hnu) (o := ⟨dst, .box T x, ty, pos, after, g⟩) fun ac w h ρ hw hs => by
  obtain ⟨vs, hv, hr⟩ := (ev_rel hs hx : BV.rel h ρ (.xa cs) _)
  have hr := CV.bvX hr
  rw [hz] at hr
  refine ⟨.pointer (some ⟨w.heap.size, 0, none⟩), .pointer (some ⟨w.heap.size, 0, none⟩), w.alloc (.cells vs T), none, ?_, fun b e => by simp at e, by simp, rfl, rfl, fun b hb _ => heap_alloc_old w _ hb, OC.ok.ren (c := .xbox T zs) ⟨w.heap.size, vs, rfl, heap_alloc_new w _, hr⟩ fun j hj => upd_other _ _ fun e => by subst e; simp only [OC.uses] at hj; rw [hself] at hj; simp at hj,
   fun b e => by simp [blkOf] at e; subst e; exact .inr (Nat.le_refl _), w.heap.size, upd_same _ _ _, rfl⟩
  simp only [execOp, hv]
  simp [Instr.box, newVar, newRow, Value.cells]
theorem op_store_xx {k off m : Nat} {T : TypeId} {cs cs' : List BV} {z : SV} {qs : List BV} (ht : TyAgg P t m) (hx : s.ev x = some (.b (.ptr k off))) (hk : lk s.own k = some (.xbox T cs)) (hy : s.ev y = some z) (hz : z.xcells s.own = some qs) (hq : qs.length = m) (hlt : off + m ≤ cs.length) (hps : Sk.splice cs off qs = cs') :
  Op1 P E n ⟨none, .store t x y, ty, pos, after, g⟩ s ⟨s.slots, ins k (.xbox T cs') s.own⟩ :=
 Op1.store (o := ⟨none, .store t x y, ty, pos, after, g⟩) rfl fun ac w h ρ hw hs => by
  obtain ⟨b, he, hv⟩ := (ev_rel hs hx : BV.rel h ρ (.ptr k off) _)
  obtain ⟨b', cur, hb1, hb2, hb3⟩ := xbox_cells hw hk
  have : b' = b := by rw [hb1] at he; simpa using he
  subst this
  have hcr := SV.xcells_rel hw hz (ev_rel hs hy)
  obtain ⟨i, hi, hm⟩ := ht.size
  have hlen := hb3.length
  have hlen2 := hcr.length
  have hone : ∀ u ∈ (ac.eval y).cells.toList, u.oneCell' = true := fun u hu => by
   obtain ⟨q, _, hq⟩ := All2.mem_right hcr hu
   exact hq.2
  have hrun := run_store_at (P := P) (t := t) hi hm hb2 (v := ac.eval y) (o := off) (by simp at hlen2; omega) (by simp at hlen; omega) hone
  refine ⟨_, by simp only [execOp, hv, Instr.storeAt, Instr.sureAddr]; simp [hrun]; rfl, ?_⟩
  refine hw.setX hk hb1 hb2 ?_
  rw [← hps]
  exact All2.splice hb3 hcr off
theorem wr_range (hw : WR E n own h ρ w) (hk : lk own j = some (.mq m)) {b clk : Nat} {ms : Array MapEntry} (hρ : ρ j = .map (some b)) (hb : w.heap[b]? = some (.map ms clk)) (he : entsI m ms.toList) (ho : bornOk clk ms.toList) (hne : ki ≠ j) (hfx : ki ∉ n.fix) (hnu : noUse ki own = true) :
  WR E n (ins ki (.mit j m m none) (del j own)) h (upd ρ ki (.pointer (some ⟨w.heap.size, 0, none⟩))) (w.alloc (.mapIter (some b) clk #[] clk)) := by
 have hjm := lk_mem hk
 obtain ⟨e1, e2, e3⟩ := hw.owned j _ hjm
 have hold : ∀ b, b < w.heap.size → (w.alloc (.mapIter (some b) clk #[] clk)).heap[b]? = w.heap[b]? := fun b hb => heap_alloc_old w _ hb
 have holdg : ∀ b0 b, b < w.heap.size → (w.alloc (.mapIter (some b0) clk #[] clk)).heap[b]? = w.heap[b]? := fun b0 b hb => heap_alloc_old w _ hb
 have hnew : (w.alloc (.mapIter (some b) clk #[] clk)).heap[w.heap.size]? = some (.mapIter (some b) clk #[] clk) := heap_alloc_new w _
 have hρj : upd ρ ki (.pointer (some ⟨w.heap.size, 0, none⟩)) j = ρ j := upd_other _ _ fun e => hne e.symm
 have hblt : b < w.heap.size := e1.lt (.inl (by rw [hρ]; rfl))
 have hx : MitOk (upd ρ ki (.pointer (some ⟨w.heap.size, 0, none⟩))) (.pointer (some ⟨w.heap.size, 0, none⟩)) (w.alloc (.mapIter (some b) clk #[] clk)) j m m none b ms clk w.heap.size #[] :=
  ⟨rfl, hnew, hρj.trans hρ, by rw [holdg b b hblt]; exact hb, he, ho, by
   have : (ms.toList.filter fun e => !(#[] : Array Nat).contains e.born) = ms.toList := List.filter_eq_self.2 fun e _ => by simp
   rw [this]; exact he, fun p hp => by cases hp⟩
 have hfoot : ∀ b', (OC.mit j m m none).foot (.pointer (some ⟨w.heap.size, 0, none⟩)) (w.alloc (.mapIter (some b) clk #[] clk)) b' → b' = w.heap.size ∨ b' = b := fun b' hf => by
  rcases hf with h1 | ⟨D, s1, s2, s3, h1, h2⟩
  ·cases h1; exact .inl rfl
  ·cases h1
   rw [hnew] at h2
   cases h2
   exact .inr rfl
 have hnone : ∀ o, h w.heap.size o = none := fun o => by
  cases e : h w.heap.size o with
  | none => rfl
  | some u => have := lt_of_look (hw.agree _ o u e); omega
 have old : ∀ q z, (q, z) ∈ ins ki (OC.mit j m m none) (del j own) → (q = ki ∧ z = .mit j m m none) ∨ (q ≠ ki ∧ q ≠ j ∧ (q, z) ∈ own) := fun q z hq => by
  rcases mem_ins hq with ⟨rfl, rfl⟩ | ⟨h1, hq⟩
  ·exact .inl ⟨rfl, rfl⟩
  ·exact .inr ⟨h1, (mem_del hq).2, (mem_del hq).1⟩
 have hft : ∀ q z, (q, z) ∈ own → ∀ b', z.foot (ρ q) (w.alloc (.mapIter (some b) clk #[] clk)) b' → z.foot (ρ q) w b' := fun q z hq b' => OC.foot.congr fun b2 hb2 => holdg b b2 ((hw.owned q z hq).1.lt (.inl hb2))
 refine ⟨fun b' o u hu => ?_, hw.le, hw.fresh, Nat.le_trans hw.size (by simp), fun b' hb' hl => ?_, fun q hq => ?_, hw.os, hw.out, hw.nl, fun q z hq => ?_⟩
 ·have := hw.agree b' o u hu
  rw [look_congr (holdg b b' (lt_of_look this))]; exact this
 ·rw [holdg b b' (Nat.lt_of_lt_of_le hb' hw.size)]; exact hw.same b' hb' hl
 ·rw [upd_other _ _ fun e => hfx (by rw [← e]; exact hq)]; exact hw.fixed q hq
 ·rcases old q z hq with ⟨rfl, rfl⟩ | ⟨q1, q2, q3⟩
  ·rw [upd_same]
   refine ⟨⟨b, ms, clk, w.heap.size, #[], hx⟩, fun b' hb' => ?_, fun q' z' hq' hne' b' hb' hb2 => ?_⟩
   ·rcases hfoot b' hb' with e0 | e0
    ·rw [e0]; exact ⟨.inl hw.size, hnone⟩
    ·exact e2 b' (.inl (by rw [hρ, e0]; rfl))
   ·rcases old q' z' hq' with ⟨rfl, rfl⟩ | ⟨i1, i2, i3⟩
    ·exact hne' rfl
    ·rw [upd_other _ _ i1] at hb2
     have hb3 := hft q' z' i3 b' hb2
     rcases hfoot b' hb' with e0 | e0
     ·have := (hw.owned q' z' i3).1.lt hb3; omega
     ·exact e3 q' z' i3 i2 b' (.inl (by rw [hρ, e0]; rfl)) hb3
  ·rw [upd_other _ _ q1]
   obtain ⟨g1, g2, g3⟩ := hw.owned q z q3
   refine ⟨(g1.congr fun b' hb' => holdg b b' (g1.lt hb')).ren fun r hr => upd_other _ _ fun e => ?_, fun b' hb' => g2 b' (hft q z q3 b' hb'), fun q' z' hq' hne' b' hb' hb2 => ?_⟩
   ·subst e; rw [noUse_mem hnu q3] at hr; simp at hr
   have hb3 := hft q z q3 b' hb'
   rcases old q' z' hq' with ⟨rfl, rfl⟩ | ⟨i1, i2, i3⟩
   ·rw [upd_same] at hb2
    rcases hfoot b' hb2 with e0 | e0
    ·have := g1.lt hb3; omega
    ·exact g3 j _ hjm (fun e => q2 e.symm) b' hb3 (.inl (by rw [hρ, e0]; rfl))
   ·rw [upd_other _ _ i1] at hb2
    exact g3 q' z' i3 hne' b' hb3 (hft q' z' i3 b' hb2)
theorem op_range_map {kt et : TypeId} (ki : Nat) (hu : P.underlying t = some (.map kt et)) (hx : s.ev x = some (.b (.row j))) (hk : lk s.own j = some (.mq m)) (hne : ki ≠ j) (hfx : n.fix.contains ki = false) (hnu : noUse ki s.own = true) :
  Op1 P E n ⟨dst, .range t x, ty, pos, after, g⟩ s ((⟨dropU ki s.slots, ins ki (.mit j m m none) (del j s.own)⟩ : St).put n dst (.b (.ptr ki 0))) := by
 intro a w ⟨hdf, hn, h, ρ, hw, hs⟩ next Q hnext
 have hv : a.eval x = ρ j := (ev_rel hs hx : BV.rel h ρ (.row j) _)
 obtain ⟨b, ms, clk, h1, h2, h3, h4⟩ := (hw.owned j _ (lk_mem hk)).1
 have hrun : (execOp a.eval ⟨dst, .range t x, ty, pos, after, g⟩).run P w = .ok (.value (.pointer (some ⟨w.heap.size, 0, none⟩))) (w.alloc (.mapIter (some b) clk #[] clk)) := by
  simp only [execOp, hv, h1]
  simp [Instr.range, run_underlying hu, newObj, getObj, Sem.run, Result.andThen, h2]
 unfold Oper.wp
 rw [hrun]
 exact hnext _ _ (R.put (s := ⟨dropU ki s.slots, ins ki (.mit j m m none) (del j s.own)⟩) hdf hn (wr_range hw hk h1 h2 h3 h4 hne (fun e => by simp at hfx; exact hfx e) hnu) (hs.dropU ki _) ⟨w.heap.size, upd_same _ _ _, rfl⟩)
theorem filter_push {ms : List MapEntry} {seen : Array Nat} {x : Nat} : (ms.filter fun e => !(seen.push x).contains e.born) = (ms.filter fun e => !seen.contains e.born).filter fun e => decide (e.born ≠ x) := by
 rw [List.filter_filter]
 refine List.filter_congr fun e _ => ?_
 by_cases h : e.born = x
 ·subst h; simp
 ·simp [h]
theorem filter_out {l1 l2 : List MapEntry} {e : MapEntry} (hn : ((l1 ++ e :: l2).map (·.born)).Nodup) : ((l1 ++ e :: l2).filter fun x => decide (x.born ≠ e.born)) = l1 ++ l2 := by
 rw [List.map_append, List.map_cons, List.nodup_append] at hn
 obtain ⟨h1, h2, h3⟩ := hn
 rw [List.nodup_cons] at h2
 rw [List.filter_append, List.filter_cons]
 have e1 : l1.filter (fun x => decide (x.born ≠ e.born)) = l1 := List.filter_eq_self.2 fun x hx => decide_eq_true fun he => h3 x.born (List.mem_map.2 ⟨x, hx, rfl⟩) e.born List.mem_cons_self he
 have e2 : l2.filter (fun x => decide (x.born ≠ e.born)) = l2 := List.filter_eq_self.2 fun x hx => decide_eq_true fun he => h2.1 (List.mem_map.2 ⟨x, hx, he⟩)
 rw [e1, e2]
 simp
theorem OpsL.nextM (hx : s.ev x = some (.b (.ptr ki 0))) (hk : lk s.own ki = some (.mit j m rest cur)) (hnj : (ki == j) = false)
  (h1 : rest = [] → OpsL P E n ops l (s.put n dst (.tup [.one (.bool false)])) Q)
  (h2 : ∀ p r1 r2, rest = r1 ++ p :: r2 → OpsL P E n ops l ((⟨s.slots, ins ki (.mit j m (r1 ++ r2) (some p)) s.own⟩ : St).put n dst (.tup [.one (.bool true), .one (.i p.1), .one (.i p.2)])) Q) :
  OpsL P E n ops (⟨dst, .next x false, ty, pos, after, none⟩ :: l) s Q := by
 intro a w hr
 unfold wpL
 have : ∀ tmps, Region.wanted ⟨dst, .next x false, ty, pos, after, none⟩ (yielded ops tmps) = true := fun _ => rfl
 simp only [this, if_true]
 obtain ⟨hdf, hn, h, ρ, hw, hs⟩ := id hr
 obtain ⟨D', he, hv⟩ := (ev_rel hs hx : BV.rel h ρ (.ptr ki 0) _)
 obtain ⟨b, ms, clk, D, seen, q⟩ := (hw.owned ki _ (lk_mem hk)).1
 have : D' = D := by have := q.ptr; rw [this] at he; cases he; rfl
 subst this
 rcases run_next_at (P := P) w ty D' b clk clk seen ms clk q.it q.obj (fun e he => q.born.1 e he) (Nat.le_refl _) with ⟨g1, g2⟩ | ⟨e, hm, w1, hw1, g2⟩
 ·have hr0 : rest = [] := by
   have hlen := q.left.length
   have : (ms.toList.filter fun e => !seen.contains e.born).length = 0 := by
    have : (leftOf ms seen).toList = ms.toList.filter fun e => !seen.contains e.born := by unfold leftOf; rw [Array.toList_filter]
    rw [← this]
    simpa using g1
   rw [this] at hlen
   exact List.length_eq_zero_iff.1 hlen
  unfold Oper.wp
  have hrun : (execOp a.eval ⟨dst, .next x false, ty, pos, after, none⟩).run P w = .ok (.value (.tuple #[.bool false])) w := by
   simp only [execOp, hv]
   rw [Sem.run_bind, g2]
   rfl
  rw [hrun]
  exact h1 hr0 _ _ (R.put (s := s) hdf hn hw hs ⟨_, rfl, .cons rfl .nil⟩)
 ·have hm' : e ∈ ms.toList.filter fun e => !seen.contains e.born := by
   have : (leftOf ms seen).toList = ms.toList.filter fun e => !seen.contains e.born := by unfold leftOf; rw [Array.toList_filter]
   rw [← this]; exact hm
  obtain ⟨l1, l2, hl⟩ := List.append_of_mem hm'
  have hleft := q.left
  rw [hl] at hleft
  obtain ⟨r1, r2', rfl, hr1, hr2⟩ := All2.unapp' hleft
  cases hr2 with
  | @cons p _ r2 _ hp hr2 =>
  have hnd : ((ms.toList.filter fun e => !seen.contains e.born).map (·.born)).Nodup := List.Pairwise.sublist (List.Sublist.map _ List.filter_sublist) q.born.2
  have hem : e ∈ ms.toList := (List.mem_filter.1 hm').1
  have hheap : w1.heap = w.heap := by rcases hw1 with rfl | rfl <;> rfl
  have hos : w1.os = w.os := by rcases hw1 with rfl | rfl <;> rfl
  have hout : w1.output = w.output := by rcases hw1 with rfl | rfl <;> rfl
  have hDlt : D' < w.heap.size := by
   rcases Nat.lt_or_ge D' w.heap.size with h | h
   ·exact h
   ·have := q.it; simp [Array.getElem?_eq_none h] at this
  have hsame : ∀ b', b' ≠ D' → (ChangeMaps.setBlock w1 D' (.mapIter (some b) clk (seen.push e.born) clk)).heap[b']? = w.heap[b']? := fun b' hb' => by
   show (w1.heap.setIfInBounds D' _)[b']? = _
   rw [hheap, Array.getElem?_setIfInBounds_ne (fun e => hb' e.symm)]
  have hnew : (ChangeMaps.setBlock w1 D' (.mapIter (some b) clk (seen.push e.born) clk)).heap[D']? = some (.mapIter (some b) clk (seen.push e.born) clk) := by
   show (w1.heap.setIfInBounds D' _)[D']? = _
   rw [hheap]; simp [hDlt]
  have hbD : b ≠ D' := fun e => by have h1 := q.obj; have h2 := q.it; rw [e, h2] at h1; cases h1
  have hq : MitOk ρ (ρ ki) (ChangeMaps.setBlock w1 D' (.mapIter (some b) clk (seen.push e.born) clk)) j m (r1 ++ r2) (some p) b ms clk D' (seen.push e.born) := by
   refine ⟨q.ptr, hnew, q.map, by rw [hsame b hbD]; exact q.obj, q.ents, q.born, ?_, fun p' hp' => ?_⟩
   ·rw [filter_push, hl, filter_out (hl ▸ hnd)]
    exact All2.append hr1 hr2
   ·cases hp'
    exact ⟨e, seen, hem, rfl, hp.1, hp.2⟩
  have hupd : upd ρ ki (ρ ki) = ρ := upd_self ρ ki
  have hst := hw.stepF (w' := ChangeMaps.setBlock w1 D' (.mapIter (some b) clk (seen.push e.born) clk)) ki (ρ ki) (.mit j m (r1 ++ r2) (some p)) (some D') (fun b' eb => by cases eb; exact ⟨_, lk_mem hk, .inl (by rw [q.ptr]; rfl)⟩)
   (by show _ ≤ (w1.heap.setIfInBounds D' _).size; rw [hheap]; simp) hos hout (fun b' _ hne => hsame b' fun eb => hne (by rw [eb])) (by rw [hupd]; exact ⟨b, ms, clk, D', _, hq⟩)
   (fun b' hb' => .inl ⟨_, lk_mem hk, by
    rcases hb' with h1 | ⟨D2, s1, s2, s3, h1, h2⟩
    ·exact .inl h1
    ·rw [q.ptr] at h1
     cases h1
     rw [hnew] at h2
     cases h2
     exact .inr ⟨D', clk, seen, clk, by rw [q.ptr]; rfl, q.it⟩⟩) (.inl rfl) (.inl rfl)
  rw [hupd] at hst
  have hrun : (execOp a.eval ⟨dst, .next x false, ty, pos, after, none⟩).run P w = .ok (.value (.tuple #[.bool true, e.key, e.val])) (ChangeMaps.setBlock w1 D' (.mapIter (some b) clk (seen.push e.born) clk)) := by
   simp only [execOp, hv]
   rw [Sem.run_bind, g2]
   rfl
  unfold Oper.wp
  rw [hrun]
  exact h2 p r1 r2 rfl _ _ (R.put (s := ⟨s.slots, ins ki (.mit j m (r1 ++ r2) (some p)) s.own⟩) hdf hn hst hs ⟨_, rfl, .cons rfl (.cons hp.1 (.cons hp.2 .nil))⟩)
theorem op_entry_map {p : Int × Int} (hx : s.ev x = some (.b (.ptr ki 0))) (hk : lk s.own ki = some (.mit j m rest (some p))) :
  Op1 P E n ⟨dst, .entry x, ty, pos, after, g⟩ s (s.put n dst (.tup [.one (.i p.1), .one (.i p.2)])) :=
 Op1.val (o := ⟨dst, .entry x, ty, pos, after, g⟩) fun ac w h ρ hw hs => by
  obtain ⟨D', he, hv⟩ := (ev_rel hs hx : BV.rel h ρ (.ptr ki 0) _)
  obtain ⟨b, ms, clk, D, seen, q⟩ := (hw.owned ki _ (lk_mem hk)).1
  have : D' = D := by have := q.ptr; rw [this] at he; cases he; rfl
  subst this
  obtain ⟨e, seen', h1, rfl, h3, h4⟩ := q.at_ p rfl
  have hrun := run_entry_at (P := P) w D' b clk seen' ms clk e q.it q.obj h1 q.born.2
  refine ⟨.tuple #[e.key, e.val], ?_, _, rfl, .cons h3 (.cons h4 .nil)⟩
  simp only [execOp, hv]
  rw [Sem.run_bind, hrun]
  rfl
theorem R.mitOff {a : Act} (hr : R E n s a w) (hk : lk s.own ki = some (.mit j m rest cur)) : R E n ⟨s.slots, ins ki (.mit j m rest none) s.own⟩ a w := by
 obtain ⟨h1, h2, h, ρ, hw, hs⟩ := hr
 obtain ⟨b, ms, clk, D, seen, q⟩ := (hw.owned ki _ (lk_mem hk)).1
 have hst := hw.stepF (w' := w) ki (ρ ki) (.mit j m rest none) none (fun b e => by cases e) (Nat.le_refl _) rfl rfl (fun _ _ _ => rfl) (by rw [upd_self]; exact ⟨b, ms, clk, D, seen, q.ptr, q.it, q.map, q.obj, q.ents, q.born, q.left, fun p hp => by cases hp⟩)
  (fun b' hb' => .inl ⟨_, lk_mem hk, hb'⟩) (.inl rfl) (.inl rfl)
 rw [upd_self] at hst
 exact ⟨h1, h2, h, ρ, hst, hs⟩
theorem Fin.mitOff {ex : Exit} (ki : Nat) (hk : lk s.own ki = some (.mit j m rest cur)) (hc : Fin E n ex ⟨s.slots, ins ki (.mit j m rest none) s.own⟩ Q) : Fin E n ex s Q := fun a w hr => hc a w (hr.mitOff hk)
theorem R.mitEnd {a : Act} (hr : R E n s a w) (hk : lk s.own ki = some (.mit j m rest cur)) (hne : (ki == j) = false) : R E n ⟨dropU ki s.slots, ins j (.mq m) (del ki s.own)⟩ a w := by
 obtain ⟨h1, h2, h, ρ, hw, hs⟩ := hr
 have hkm := lk_mem hk
 obtain ⟨e1, e2, e3⟩ := hw.owned ki _ hkm
 obtain ⟨b, ms, clk, D, seen, q⟩ := id e1
 have hnk : ki ≠ j := by simpa using hne
 have hfj : ∀ b', (OC.mq m).foot (ρ j) w b' → (OC.mit j m rest cur).foot (ρ ki) w b' := fun b' hb' => by
  have := hb'.of_plain rfl
  rw [q.map] at this
  cases this
  exact .inr ⟨D, clk, seen, clk, by rw [q.ptr]; rfl, q.it⟩
 have old : ∀ r z, (r, z) ∈ ins j (OC.mq m) (del ki s.own) → (r = j ∧ z = .mq m) ∨ (r ≠ j ∧ r ≠ ki ∧ (r, z) ∈ s.own) := fun r z hq => by
  rcases mem_ins hq with ⟨rfl, rfl⟩ | ⟨h1, hq⟩
  ·exact .inl ⟨rfl, rfl⟩
  ·exact .inr ⟨h1, (mem_del hq).2, (mem_del hq).1⟩
 refine ⟨h1, h2, h, ρ, ⟨hw.agree, hw.le, hw.fresh, hw.size, hw.same, hw.fixed, hw.os, hw.out, hw.nl, fun r z hq => ?_⟩, fun r z hz => hs r z (mem_dropU hz).1⟩
 rcases old r z hq with ⟨rfl, rfl⟩ | ⟨q1, q2, q3⟩
 ·refine ⟨⟨b, ms, clk, q.map, q.obj, q.ents, q.born⟩, fun b' hb' => e2 b' (hfj b' hb'), fun r' z' hq' hne' b' hb' hb2 => ?_⟩
  rcases old r' z' hq' with ⟨rfl, rfl⟩ | ⟨i1, i2, i3⟩
  ·exact hne' rfl
  ·exact e3 r' z' i3 i2 b' (hfj b' hb') hb2
 ·obtain ⟨g1, g2, g3⟩ := hw.owned r z q3
  refine ⟨g1, g2, fun r' z' hq' hne' b' hb' hb2 => ?_⟩
  rcases old r' z' hq' with ⟨rfl, rfl⟩ | ⟨i1, i2, i3⟩
  ·exact g3 ki _ hkm (fun e => q2 e.symm) b' hb' (hfj b' hb2)
  ·exact g3 r' z' i3 hne' b' hb' hb2
theorem Fin.mitEnd {ex : Exit} (ki : Nat) (hk : lk s.own ki = some (.mit j m rest cur)) (hne : (ki == j) = false) (hc : Fin E n ex ⟨dropU ki s.slots, ins j (.mq m) (del ki s.own)⟩ Q) : Fin E n ex s Q := fun a w hr => hc a w (hr.mitEnd hk hne)
def mkeys? (m : MapI) : Option (List Int) := if m.length ≤ 1000000000 then some (m.map (·.1)) else none
theorem mkeys_ok {m : MapI} {ks : List Int} (h : mkeys? m = some ks) : m.length ≤ 1000000000 ∧ ks = m.map (·.1) := by
 unfold mkeys? at h
 split at h
 ·next hh => exact ⟨hh, (Option.some.inj h).symm⟩
 ·cases h
end
end Go.Sk

namespace Go.Sk
set_option linter.unusedSimpArgs false
set_option linter.unusedVariables false
open Go
def Yld {α : Type} (m : Option α) (Q : α → Prop) : Prop := ∃ x, m = some x ∧ Q x
section
variable {α β γ δ ε : Type} {m : Option α} {Q : β → Prop} {P : α → Prop}
theorem Yld.some {x : β} (h : Q x) : Yld (some x) Q := ⟨x, rfl, h⟩
theorem Yld.bind {k : α → Option β} (h : Yld m P) (h2 : ∀ x, P x → Yld (k x) Q) : Yld (m.bind k) Q := by
 obtain ⟨x, rfl, hp⟩ := h
 exact h2 x hp
theorem Yld.bindE {k : α → Option β} {x : α} (h : m = Option.some x) (h2 : Yld (k x) Q) : Yld (m.bind k) Q := by
 subst h; exact h2
theorem Yld.ite {c : Bool} {A B : Option β} (h1 : c = true → Yld A Q) (h2 : c = false → Yld B Q) : Yld (if c = true then A else B) Q := by
 cases c
 ·exact h2 rfl
 ·exact h1 rfl
theorem Yld.ift {c : Bool} {A B : Option β} (h : c = true) (h1 : Yld A Q) : Yld (if c = true then A else B) Q := by rw [if_pos h]; exact h1
theorem Yld.iff {c : Bool} {A B : Option β} (h : c = false) (h1 : Yld B Q) : Yld (if c = true then A else B) Q := by rw [h]; exact h1
theorem Yld.ln {a : γ} {k : γ → Option β} (h : Yld (k a) Q) : Yld (letN a k) Q := h
theorem Yld.lnE {a : γ} {k : γ → Option β} (b : γ) (e : a = b) (h : Yld (k b) Q) : Yld (letN a k) Q := by subst e; exact h
theorem Yld.eq {x : α} (h : Yld m (· = x)) : m = Option.some x := by obtain ⟨y, h1, h2⟩ := h; rw [h1, h2]
theorem Yld.of {x : α} (h : m = Option.some x) : Yld m (· = x) := ⟨x, h, rfl⟩
theorem Yld.mono {P' : α → Prop} (h : Yld m P) (h2 : ∀ x, P x → P' x) : Yld m P' := by obtain ⟨x, h1, h3⟩ := h; exact ⟨x, h1, h2 x h3⟩
theorem Yld.idx [Inhabited α] {l : List α} {i : Int} {k : α → Option β} (h0 : 0 ≤ i) (h1 : i < l.length) (h : Yld (k (idx l i)) Q) : Yld ((idx? l i).bind k) Q := by
 rw [idx?_eq h0 h1]; exact h
theorem Yld.g1 [Inhabited α] {g : Bool} {k : α → Option β} (hg : g = true) (h : Yld (m.bind k) Q) : Yld ((gcall g m).bind k) Q := by subst hg; exact h
theorem Yld.g0 [Inhabited α] {g : Bool} {k : α → Option β} (hg : g = false) (h : Yld (k default) Q) : Yld ((gcall g m).bind k) Q := by subst hg; exact h
theorem Yld.app {xs ys : List α} {k : List α → Option β} (h0 : xs.length + ys.length ≤ 1000000000) (h : Yld (k (xs ++ ys)) Q) : Yld ((app? xs ys).bind k) Q := by
 rw [app?_eq h0]; exact h
theorem Yld.take {xs : List α} {i : Int} {k : List α → Option β} (h0 : 0 ≤ i) (h1 : i ≤ xs.length) (h : Yld (k (xs.take i.toNat)) Q) : Yld ((take? xs i).bind k) Q := by
 simp only [take?, h0, h1, and_self, if_true]; exact h
theorem Yld.drop {xs : List α} {i : Int} {k : List α → Option β} (h0 : 0 ≤ i) (h1 : i ≤ xs.length) (h : Yld (k (xs.drop i.toNat)) Q) : Yld ((drop? xs i).bind k) Q := by
 simp only [drop?, h0, h1, and_self, if_true]; exact h
theorem Yld.rounds {σ τ : Type} {body : σ → Option (σ ⊕ τ)} {Q : τ → Prop} (n : Nat) (I : Nat → σ → Prop) {s : σ} {F : Nat} (hF : n < F) (h0 : I 0 s)
  (step : ∀ k s, k ≤ n → I k s → Yld (body s) fun o => (∃ s', o = .inl s' ∧ I (k + 1) s' ∧ k < n) ∨ ∃ t, o = .inr t ∧ Q t) : Yld (iter F body s) Q := by
 have key : ∀ d F k s, k + d = n → d < F → I k s → Yld (iter F body s) Q := by
  intro d
  induction d with
  | zero =>
   intro F k s hk hF hI
   obtain ⟨F, rfl⟩ : ∃ f, F = f + 1 := ⟨F - 1, by omega⟩
   obtain ⟨o, ho, h⟩ := step k s (by omega) hI
   rw [iter_succ, ho]
   rcases h with ⟨s', rfl, _, hlt⟩ | ⟨t, rfl, hq⟩
   ·omega
   ·exact ⟨t, rfl, hq⟩
  | succ d ih =>
   intro F k s hk hF hI
   obtain ⟨F, rfl⟩ : ∃ f, F = f + 1 := ⟨F - 1, by omega⟩
   obtain ⟨o, ho, h⟩ := step k s (by omega) hI
   rw [iter_succ, ho]
   rcases h with ⟨s', rfl, hI', _⟩ | ⟨t, rfl, hq⟩
   ·exact ih F (k + 1) s' (by omega) (by omega) hI'
   ·exact ⟨t, rfl, hq⟩
 exact key n F 0 s (by omega) hF h0
theorem Yld.loop {σ τ : Type} {body : σ → Option (σ ⊕ τ)} {Q : τ → Prop} (I : σ → Prop) (μ : σ → Nat) {s : σ} {F : Nat} (h0 : I s) (hF : μ s < F)
  (step : ∀ s, I s → Yld (body s) fun o => (∃ s', o = .inl s' ∧ I s' ∧ μ s' < μ s) ∨ ∃ t, o = .inr t ∧ Q t) : Yld (iter F body s) Q := by
 refine iter_spec I μ Q (fun s hI => ?_) F s h0 hF
 obtain ⟨o, ho, h⟩ := step s hI
 refine ⟨o, ho, fun s' e => ?_, fun t e => ?_⟩
 ·subst e
  rcases h with ⟨s'', e, h1, h2⟩ | ⟨t, e, _⟩
  ·cases e; exact ⟨h1, h2⟩
  ·cases e
 ·subst e
  rcases h with ⟨s'', e, _⟩ | ⟨t', e, h1⟩
  ·cases e
  ·cases e; exact h1
end
theorem wi64 (z : Int) : IntKind.i64.wrap z = (z + 9223372036854775808) % 18446744073709551616 - 9223372036854775808 := by
 simp [IntKind.wrap, IntKind.signed, IntKind.bits]; split <;> omega
theorem wi64' {z : Int} (h1 : -9223372036854775808 ≤ z) (h2 : z ≤ 9223372036854775807) : IntKind.i64.wrap z = z := by rw [wi64]; omega
def ds (b : Int) (f : Nat → Int) : Nat → Int
 | 0 => 0
 | n + 1 => ds b f n + f n * b ^ n
def nd (b z : Int) (i : Nat) : Int := z / b ^ i % b
end Go.Sk

namespace Go.Sk
set_option linter.unusedSimpArgs false
set_option linter.unusedVariables false
open Go Go.BigFrame
@[reducible] def un9 {A1 A2 A3 A4 A5 A6 A7 A8 A9 γ : Type} (f : A1 → A2 → A3 → A4 → A5 → A6 → A7 → A8 → A9 → γ) (z : A1 × A2 × A3 × A4 × A5 × A6 × A7 × A8 × A9) : γ := f z.1 z.2.1 z.2.2.1 z.2.2.2.1 z.2.2.2.2.1 z.2.2.2.2.2.1 z.2.2.2.2.2.2.1 z.2.2.2.2.2.2.2.1 z.2.2.2.2.2.2.2.2
@[reducible] def un10 {A1 A2 A3 A4 A5 A6 A7 A8 A9 A10 γ : Type} (f : A1 → A2 → A3 → A4 → A5 → A6 → A7 → A8 → A9 → A10 → γ) (z : A1 × A2 × A3 × A4 × A5 × A6 × A7 × A8 × A9 × A10) : γ := f z.1 z.2.1 z.2.2.1 z.2.2.2.1 z.2.2.2.2.1 z.2.2.2.2.2.1 z.2.2.2.2.2.2.1 z.2.2.2.2.2.2.2.1 z.2.2.2.2.2.2.2.2.1 z.2.2.2.2.2.2.2.2.2
@[reducible] def un11 {A1 A2 A3 A4 A5 A6 A7 A8 A9 A10 A11 γ : Type} (f : A1 → A2 → A3 → A4 → A5 → A6 → A7 → A8 → A9 → A10 → A11 → γ) (z : A1 × A2 × A3 × A4 × A5 × A6 × A7 × A8 × A9 × A10 × A11) : γ := f z.1 z.2.1 z.2.2.1 z.2.2.2.1 z.2.2.2.2.1 z.2.2.2.2.2.1 z.2.2.2.2.2.2.1 z.2.2.2.2.2.2.2.1 z.2.2.2.2.2.2.2.2.1 z.2.2.2.2.2.2.2.2.2.1 z.2.2.2.2.2.2.2.2.2.2
@[reducible] def un12 {A1 A2 A3 A4 A5 A6 A7 A8 A9 A10 A11 A12 γ : Type} (f : A1 → A2 → A3 → A4 → A5 → A6 → A7 → A8 → A9 → A10 → A11 → A12 → γ) (z : A1 × A2 × A3 × A4 × A5 × A6 × A7 × A8 × A9 × A10 × A11 × A12) : γ := f z.1 z.2.1 z.2.2.1 z.2.2.2.1 z.2.2.2.2.1 z.2.2.2.2.2.1 z.2.2.2.2.2.2.1 z.2.2.2.2.2.2.2.1 z.2.2.2.2.2.2.2.2.1 z.2.2.2.2.2.2.2.2.2.1 z.2.2.2.2.2.2.2.2.2.2.1 z.2.2.2.2.2.2.2.2.2.2.2
@[reducible] def un13 {A1 A2 A3 A4 A5 A6 A7 A8 A9 A10 A11 A12 A13 γ : Type} (f : A1 → A2 → A3 → A4 → A5 → A6 → A7 → A8 → A9 → A10 → A11 → A12 → A13 → γ) (z : A1 × A2 × A3 × A4 × A5 × A6 × A7 × A8 × A9 × A10 × A11 × A12 × A13) : γ := f z.1 z.2.1 z.2.2.1 z.2.2.2.1 z.2.2.2.2.1 z.2.2.2.2.2.1 z.2.2.2.2.2.2.1 z.2.2.2.2.2.2.2.1 z.2.2.2.2.2.2.2.2.1 z.2.2.2.2.2.2.2.2.2.1 z.2.2.2.2.2.2.2.2.2.2.1 z.2.2.2.2.2.2.2.2.2.2.2.1 z.2.2.2.2.2.2.2.2.2.2.2.2
@[reducible] def un14 {A1 A2 A3 A4 A5 A6 A7 A8 A9 A10 A11 A12 A13 A14 γ : Type} (f : A1 → A2 → A3 → A4 → A5 → A6 → A7 → A8 → A9 → A10 → A11 → A12 → A13 → A14 → γ) (z : A1 × A2 × A3 × A4 × A5 × A6 × A7 × A8 × A9 × A10 × A11 × A12 × A13 × A14) : γ := f z.1 z.2.1 z.2.2.1 z.2.2.2.1 z.2.2.2.2.1 z.2.2.2.2.2.1 z.2.2.2.2.2.2.1 z.2.2.2.2.2.2.2.1 z.2.2.2.2.2.2.2.2.1 z.2.2.2.2.2.2.2.2.2.1 z.2.2.2.2.2.2.2.2.2.2.1 z.2.2.2.2.2.2.2.2.2.2.2.1 z.2.2.2.2.2.2.2.2.2.2.2.2.1 z.2.2.2.2.2.2.2.2.2.2.2.2.2
@[reducible] def un15 {A1 A2 A3 A4 A5 A6 A7 A8 A9 A10 A11 A12 A13 A14 A15 γ : Type} (f : A1 → A2 → A3 → A4 → A5 → A6 → A7 → A8 → A9 → A10 → A11 → A12 → A13 → A14 → A15 → γ) (z : A1 × A2 × A3 × A4 × A5 × A6 × A7 × A8 × A9 × A10 × A11 × A12 × A13 × A14 × A15) : γ := f z.1 z.2.1 z.2.2.1 z.2.2.2.1 z.2.2.2.2.1 z.2.2.2.2.2.1 z.2.2.2.2.2.2.1 z.2.2.2.2.2.2.2.1 z.2.2.2.2.2.2.2.2.1 z.2.2.2.2.2.2.2.2.2.1 z.2.2.2.2.2.2.2.2.2.2.1 z.2.2.2.2.2.2.2.2.2.2.2.1 z.2.2.2.2.2.2.2.2.2.2.2.2.1 z.2.2.2.2.2.2.2.2.2.2.2.2.2.1 z.2.2.2.2.2.2.2.2.2.2.2.2.2.2
@[reducible] def un16 {A1 A2 A3 A4 A5 A6 A7 A8 A9 A10 A11 A12 A13 A14 A15 A16 γ : Type} (f : A1 → A2 → A3 → A4 → A5 → A6 → A7 → A8 → A9 → A10 → A11 → A12 → A13 → A14 → A15 → A16 → γ) (z : A1 × A2 × A3 × A4 × A5 × A6 × A7 × A8 × A9 × A10 × A11 × A12 × A13 × A14 × A15 × A16) : γ := f z.1 z.2.1 z.2.2.1 z.2.2.2.1 z.2.2.2.2.1 z.2.2.2.2.2.1 z.2.2.2.2.2.2.1 z.2.2.2.2.2.2.2.1 z.2.2.2.2.2.2.2.2.1 z.2.2.2.2.2.2.2.2.2.1 z.2.2.2.2.2.2.2.2.2.2.1 z.2.2.2.2.2.2.2.2.2.2.2.1 z.2.2.2.2.2.2.2.2.2.2.2.2.1 z.2.2.2.2.2.2.2.2.2.2.2.2.2.1 z.2.2.2.2.2.2.2.2.2.2.2.2.2.2.1 z.2.2.2.2.2.2.2.2.2.2.2.2.2.2.2
def eR {α : Type} (e : α → List CP) (r : List α) : List (List CP) := r.map e
theorem rr_sl {α : Type} {e : α → List CP} {size : Nat} (xs : List (List α)) : ((xs.map (eR e)).map fun es => [CP.sl size es]) = xs.map (eL size e) := by
 rw [List.map_map]; rfl
theorem set_map {α β : Type} (xs : List α) (e : α → β) (i : Nat) (x : α) : (xs.map e).set i (e x) = (xs.set i x).map e := by rw [List.map_set]
theorem rr_app {α : Type} {e : α → List CP} {xs z : List (List α)} (h : app? xs [[]] = some z) : (xs.map (eR e)) ++ [[]] = z.map (eR e) := by rw [← app_eq h, List.map_append]; rfl
theorem rr_b {α β : Type} {xs z : List α} {x : α} {e : α → β} (h : app? xs [x] = some z) {bytes : Nat} (hb : bytes ≤ 140737 := by decide) : ((xs.map e).length + 1) * bytes ≤ 140737488355328 := by
 have := app_b (e := e) h hb
 simpa using this
theorem rr_m {α β : Type} {xs z : List α} {x : α} {e : α → β} (h : app? xs [x] = some z) : (xs.map e).length + 1 ≤ 9223372036854775807 := by
 have := app_m (e := e) h
 simpa using this
section
variable {P : Program} {TB : Tabs} {E : Env TB} {n : Sh} {s : St} {dst : Option Nat} {t ty yt : TypeId} {pos : String} {after : Array Edge} {g : Option (Nat × Bool)} {x y c : Operand} {Q : Post} {cd : Code} {ops : Array Oper} {l : List Oper} {o : Oper}
variable {k kp i size bytes : Nat} {T e : TypeId} {hole : Option Nat} {ess : List (List (List CP))} {q : List (List CP)}
theorem Tri.persistRL (k : Nat) (hk : lk s.own k = some (.rr T e size none ess)) (hq : (ess.map fun es => [CP.sl size es]) = q) (hc : Tri P E n cd ⟨persS k (.sl 1 q) s.slots, persO k (.sl 1 q) (del k s.own)⟩ Q) : Tri P E n cd s Q := by subst hq; exact Tri.persistRR k hk hc
theorem OpsL.persistRL (k : Nat) (hk : lk s.own k = some (.rr T e size none ess)) (hq : (ess.map fun es => [CP.sl size es]) = q) (hc : OpsL P E n ops l ⟨persS k (.sl 1 q) s.slots, persO k (.sl 1 q) (del k s.own)⟩ Q) : OpsL P E n ops l s Q := by subst hq; exact OpsL.persistRR k hk hc
theorem Fin.persistRL {ex : Exit} (k : Nat) (hk : lk s.own k = some (.rr T e size none ess)) (hq : (ess.map fun es => [CP.sl size es]) = q) (hc : Fin E n ex ⟨persS k (.sl 1 q) s.slots, persO k (.sl 1 q) (del k s.own)⟩ Q) : Fin E n ex s Q := by subst hq; exact Fin.persistRR k hk hc
theorem op_len_rr' {m : Nat} (ht : P.underlying t = some (.slice yt)) (hx : s.ev x = some (.b (.row k))) (hk : lk s.own k = some (.rr T e size hole ess)) (hm : ess.length = m) :
  Op1 P E n ⟨dst, .call ⟨.builtin .len, #[x], #[t]⟩, ty, pos, after, g⟩ s (s.put n dst (I (m : Int))) := hm ▸ op_len_rr ht hx hk
theorem Meets.persL {P : Program} {TB : Tabs} {f : FuncId} {args : List BV} {own_a own' : List (Nat × OC)} {T : TypeId} {size : Nat} {es : List (List CP)} {res : SV} (h : Meets P TB f own_a args (Is own' res)) (k0 : Nat) (hk : lk own' k0 = some (.row T size es)) : Meets P TB f own_a args (Is (persO k0 (.sl size es) (del k0 own')) (res.pers k0 (.sl size es))) := by
 intro w hh ρ vals tb hag hl hargs
 refine (h w hh ρ vals tb hag hl hargs).mono ?_
 rintro e w' ⟨v, own', res, h', ρ', rfl, ⟨rfl, rfl⟩, hw, hres⟩
 have hR : R ⟨w, hh, ρ, tb⟩ ⟨1, boxKeys own_a, keysOf own_a, []⟩ ⟨[(0, res)], own'⟩ ⟨#[v], []⟩ w' := ⟨rfl, rfl, h', ρ', WR.sh (n := ⟨0, boxKeys own_a, keysOf own_a, []⟩) (n' := ⟨1, boxKeys own_a, keysOf own_a, []⟩) rfl rfl hw, fun k x hx => by
  simp only [List.mem_singleton, Prod.mk.injEq] at hx
  obtain ⟨rfl, rfl⟩ := hx
  exact ⟨v, by simp, hres⟩⟩
 obtain ⟨_, _, h'', ρ'', hw'', hs''⟩ := hR.persist (k := k0) hk
 obtain ⟨u, hu, hur⟩ := hs'' 0 (res.pers k0 (.sl size es)) (by simp [persS])
 have huv : u = v := by simpa using hu.symm
 subst huv
 exact ⟨u, _, _, h'', ρ'', rfl, ⟨rfl, rfl⟩, WR.sh (n := ⟨1, boxKeys own_a, keysOf own_a, []⟩) (n' := ⟨0, boxKeys own_a, keysOf own_a, []⟩) rfl rfl hw'', hur⟩
theorem Op1.then' {s1 s2 : St} (h1 : Op1 P E n o s s1) (h : ∀ a w, R E n s1 a w → R E n s2 a w) : Op1 P E n o s s2 := fun a w hr next Q hn => h1 a w hr next Q fun a' w' hr' => hn a' w' (h a' w' hr')
theorem Op1.toO (kos : List Nat) {s1 s2 : St} (h1 : Op1 P E n o s s1) (e : (⟨s1.slots, keepL kos s1.own⟩ : St) = s2) : Op1 P E n o s s2 := h1.then' fun a w hr => e ▸ (by
 obtain ⟨hd, hn, h, ρ, hw, hs⟩ := hr
 exact ⟨hd, hn, h, ρ, hw.sub fun _ hp => mem_keepL hp, hs⟩)
theorem Op1.pers (k : Nat) {s1 : St} {es : List (List CP)} (h1 : Op1 P E n o s s1) (hk : lk s1.own k = some (.row T size es)) : Op1 P E n o s ⟨persS k (.sl size es) s1.slots, persO k (.sl size es) (del k s1.own)⟩ := h1.then' fun a w hr => hr.persist hk
theorem wr_rekey {own : List (Nat × OC)} {h : PH} {ρ : RM} {w : World} {k k2 : Nat} {es : List (List CP)} (hw : WR E n own h ρ w) (hk : lk own k = some (.row T size es)) (hfx : n.fix.contains k2 = false) (hnk : noUse k own = true) (hnu : noUse k2 own = true) (hne : (k2 == k) = false) (hf2 : lk own k2 = none) :
  WR E n (ins k2 (.row T size es) (del k own)) h (upd ρ k2 (ρ k)) w := by
 have hkm := lk_mem hk
 have hne : k2 ≠ k := by simpa using hne
 have hfx : k2 ∉ n.fix := by simpa using hfx
 have old : ∀ j z, (j, z) ∈ ins k2 (OC.row T size es) (del k own) → (j = k2 ∧ z = .row T size es) ∨ (j ≠ k2 ∧ j ≠ k ∧ (j, z) ∈ own) := fun j z hj => by
  rcases mem_ins hj with ⟨rfl, rfl⟩ | ⟨h1, hj⟩
  ·exact .inl ⟨rfl, rfl⟩
  ·exact .inr ⟨h1, (mem_del hj).2, (mem_del hj).1⟩
 refine ⟨hw.agree, hw.le, hw.fresh, hw.size, hw.same, fun j hj => ?_, hw.os, hw.out, hw.nl, fun j z hj => ?_⟩
 ·rw [upd_other _ _ fun e => hfx (by rw [← e]; exact hj)]; exact hw.fixed j hj
 ·rcases old j z hj with ⟨rfl, rfl⟩ | ⟨j1, j2, j3⟩
  ·rw [upd_same]
   obtain ⟨g1, g2, g3⟩ := hw.owned k _ hkm
   refine ⟨g1.ren fun q hq => by rw [OC.uses_row rfl] at hq; simp at hq, g2, fun j' z' hj' hne' b hb hb' => ?_⟩
   rcases old j' z' hj' with ⟨rfl, rfl⟩ | ⟨i1, i2, i3⟩
   ·exact hne' rfl
   ·rw [upd_other _ _ i1] at hb'; exact g3 j' z' i3 i2 b hb hb'
  ·rw [upd_other _ _ j1]
   obtain ⟨g1, g2, g3⟩ := hw.owned j z j3
   refine ⟨g1.ren fun q hq => upd_other _ _ fun e => ?_, g2, fun j' z' hj' hne' b hb hb' => ?_⟩
   ·subst e; rw [noUse_mem hnu j3] at hq; simp at hq
   rcases old j' z' hj' with ⟨rfl, rfl⟩ | ⟨i1, i2, i3⟩
   ·rw [upd_same] at hb'; exact g3 k _ hkm (fun e => j2 e.symm) b hb hb'
   ·rw [upd_other _ _ i1] at hb'; exact g3 j' z' i3 hne' b hb hb'
theorem del_del {α : Type} (k : Nat) : ∀ l : List (Nat × α), del k (del k l) = del k l
 | [] => rfl
 | (j, x) :: l => by
  by_cases h : k == j
  ·simp only [del, h, if_true]; exact del_del k l
  ·simp [del, h, del_del k l]
theorem ins_ins {α : Type} (k : Nat) (c c0 : α) : ∀ l : List (Nat × α), ins k c (ins k c0 l) = ins k c l
 | [] => by simp [ins, del]
 | (j, x) :: l => by
  by_cases h : k == j
  ·simp only [ins, h, if_true]; simp [ins, del_del]
  ·simp [ins, h, ins_ins k c c0 l]
theorem upd_upd {ρ : RM} {k : Nat} {a b : Value} : upd (upd ρ k a) k b = upd ρ k b := by
 funext j
 by_cases h : j = k
 ·subst h; rw [upd_same, upd_same]
 ·rw [upd_other _ _ h, upd_other _ _ h, upd_other _ _ h]
theorem lk_ins {α : Type} (k : Nat) (c : α) : ∀ l : List (Nat × α), lk (ins k c l) k = some c
 | [] => by simp [ins, lk]
 | (j, x) :: l => by
  by_cases h : k == j
  ·simp [ins, h, lk]
  ·simp [ins, lk, h, lk_ins k c l]
theorem append_to_core {k k2 : Nat} {es news es' : List (List CP)} {zs : List CP} (hdst : o.dst = dst)
  (ht : TySl P t e size bytes zs) (hb : (es.length + news.length) * bytes ≤ 140737488355328) (hm : es.length + news.length ≤ 9223372036854775807)
  (hk : lk s.own k = some (.row e size es)) (he : es ++ news = es') (hfx : n.fix.contains k2 = false) (hnk : noUse k s.own = true) (hnu : noUse k2 s.own = true) (hne : (k2 == k) = false) (hf2 : lk s.own k2 = none)
  (H : ∀ (a : Act) (w : World) (h : PH) (ρ : RM), WR E n s.own h ρ w → SlotsRel h ρ s.slots a.tmps → ∃ u, Src w u h size news ∧ ∀ v' w', (Builtin.append_ #[t, t] ty #[ρ k, u]).run P w = .ok v' w' → (execOp a.eval o).run P w = .ok (.value v') w') :
  Op1 P E n o s ((⟨dropU k2 s.slots, ins k2 (.row e size es') (del k s.own)⟩ : St).put n dst (.b (.row k2))) := by
 subst hdst he
 intro a w ⟨hdf, hn, h, ρ, hw, hs⟩ next Q hnext
 obtain ⟨u, hsrc, hexec⟩ := H a w h ρ hw hs
 have hw2 := wr_rekey hw hk hfx hnk hnu hne hf2
 have hnu2 : noUse k2 (ins k2 (OC.row e size es) (del k s.own)) = true := by
  unfold noUse
  refine List.all_eq_true.2 fun p hp => ?_
  rcases mem_ins (j := p.1) (x := p.2) hp with ⟨_, e2⟩ | ⟨_, e2⟩
  ·rw [e2, OC.uses_row rfl]; rfl
  ·rw [noUse_mem hnu (mem_del e2).1]; rfl
 obtain ⟨v', w', hrun, h1, h2, h3, h4, h5, h6⟩ := append_core (s := ⟨[], ins k2 (OC.row e size es) (del k s.own)⟩) (ty := ty) hw2 ht (lk_ins _ _ _) rfl hsrc hb (by rw [maxLen_eq]; exact hm)
 rw [upd_same] at hrun h4 h6
 have hst := hw2.step k2 v' (.row e size (es ++ news)) (blkOf (ρ k)) (fun b hb => ⟨_, lk_mem (lk_ins _ _ _), by first | exact hb | (rw [upd_same]; exact hb)⟩) h1 h2 h3 h4 (h5.ren fun q hq => by rw [OC.uses_row rfl] at hq; simp at hq) (fun b hb => by
  rcases h6 b hb with h | h
  ·exact .inl (by first | exact h | (rw [upd_same]; exact h) | (simp only [upd_same]; exact h))
  ·exact .inr h) (.inr fun e => by simp at hfx; exact hfx e) (.inr hnu2)
 rw [ins_ins, upd_upd] at hst
 unfold Oper.wp
 rw [hexec v' w' hrun]
 exact hnext _ _ (R.put (s := ⟨dropU k2 s.slots, ins k2 (.row e size (es ++ news)) (del k s.own)⟩) hdf hn hst (hs.dropU k2 v') (upd_same _ _ _).symm)
theorem op_append_to {k k2 : Nat} {es news es' : List (List CP)} {zs : List CP} (ht : TySl P t e size bytes zs) (hb : (es.length + news.length) * bytes ≤ 140737488355328) (hm : es.length + news.length ≤ 9223372036854775807)
  (hx : s.ev x = some (.b (.row k))) (hk : lk s.own k = some (.row e size es)) (hy : s.ev y = some (.b (.one (.sl size news)))) (he : es ++ news = es') (hfx : n.fix.contains k2 = false) (hnk : noUse k s.own = true) (hnu : noUse k2 s.own = true) (hne : (k2 == k) = false) (hf2 : lk s.own k2 = none) :
  Op1 P E n ⟨dst, .call ⟨.builtin .append, #[x, y], #[t, t]⟩, ty, pos, after, g⟩ s ((⟨dropU k2 s.slots, ins k2 (.row e size es') (del k s.own)⟩ : St).put n dst (.b (.row k2))) :=
 append_to_core (dst := dst) (ty := ty) rfl ht hb hm hk he hfx hnk hnu hne hf2 fun ac w h ρ hw hs => by
  have hv : ac.eval x = ρ k := (ev_rel hs hx : BV.rel h ρ (.row k) _)
  refine ⟨ac.eval y, Src.of_sl hw (ev_rel hs hy : (CP.sl size news).rel h _), fun v' w' hrun => ?_⟩
  rw [execOp_builtin, builtin_append]
  simp [hv, hrun]
theorem CV.pers_id {k : Nat} {p : CP} {z : CV} (h : z.uses k = false) : z.pers k p = z := by
 cases z with
 | row j =>
  have h : (j == k) = false := h
  have : (k == j) = false := by rw [Bool.eq_false_iff] at h ⊢; intro e; exact h (by simpa using (by simpa using e : k = j).symm)
  simp [CV.pers, this]
 | _ => rfl
theorem map_id_of {α : Type} {f : α → α} : ∀ {l : List α}, (∀ x ∈ l, f x = x) → l.map f = l
 | [], _ => rfl
 | x :: l, h => by rw [List.map_cons, h x List.mem_cons_self, map_id_of fun y hy => h y (List.mem_cons_of_mem _ hy)]
theorem BV.pers_id {k : Nat} {p : CP} {z : BV} (h : z.uses k = false) : z.pers k p = z := by
 cases z with
 | row j =>
  have h : (j == k) = false := h
  have : (k == j) = false := by rw [Bool.eq_false_iff] at h ⊢; intro e; exact h (by simpa using (by simpa using e : k = j).symm)
  simp [BV.pers, this]
 | clo f fs cs =>
  have h : (fs.any (·.uses k) || cs.any (·.uses k)) = false := h
  simp only [Bool.or_eq_false_iff, List.any_eq_false] at h
  simp only [BV.pers]
  rw [map_id_of fun x hx => CV.pers_id (by simpa using h.1 x hx), map_id_of fun x hx => CV.pers_id (by simpa using h.2 x hx)]
 | xa cs =>
  have h : cs.any (·.uses k) = false := h
  simp only [List.any_eq_false] at h
  simp only [BV.pers]
  rw [map_id_of fun x hx => CV.pers_id (by simpa using h x hx)]
 | _ => rfl
theorem SV.pers_id {k : Nat} {p : CP} {z : SV} (h : z.uses k = false) : z.pers k p = z := by
 cases z with
 | b z => exact congrArg SV.b (BV.pers_id h)
 | tup l =>
  have h : l.any (·.uses k) = false := h
  simp only [List.any_eq_false] at h
  simp only [SV.pers]
  rw [map_id_of fun x hx => BV.pers_id (by simpa using h x hx)]
 | xagg l =>
  have h : l.any (·.uses k) = false := h
  simp only [List.any_eq_false] at h
  simp only [SV.pers]
  rw [map_id_of fun x hx => BV.pers_id (by simpa using h x hx)]
 | opt c z => exact congrArg (SV.opt c) (BV.pers_id h)
theorem mem_del_of {α : Type} {k : Nat} : ∀ {l : List (Nat × α)} {p : Nat × α}, p ∈ l → p.1 ≠ k → p ∈ del k l
 | (j, x) :: l, p, h, hn => by
  unfold del
  cases List.mem_cons.1 h with
  | inl e => subst e; rw [if_neg (by simpa using fun e => hn e.symm)]; exact List.mem_cons_self
  | inr e =>
   split
   ·exact mem_del_of e hn
   ·exact List.mem_cons_of_mem _ (mem_del_of e hn)
theorem mem_persS_of {k : Nat} {p : CP} : ∀ {l : List (Nat × SV)} {j : Nat} {y : SV}, (j, y) ∈ l → (j, y.pers k p) ∈ persS k p l
 | (i, z) :: l, j, y, h => by
  unfold persS
  cases List.mem_cons.1 h with
  | inl e => obtain ⟨rfl, rfl⟩ := Prod.mk.inj e; exact List.mem_cons_self
  | inr e => exact List.mem_cons_of_mem _ (mem_persS_of e)
theorem Op1.persD (k2 : Nat) {sl : List (Nat × SV)} {own : List (Nat × OC)} {es : List (List CP)} (h1 : Op1 P E n o s ((⟨dropU k2 sl, own⟩ : St).put n o.dst (.b (.row k2)))) (hk : lk own k2 = some (.row T size es)) :
  Op1 P E n o s ((⟨dropU k2 sl, persO k2 (.sl size es) (del k2 own)⟩ : St).put n o.dst (.b (.one (.sl size es)))) := h1.then' fun a w hr => by
 have hown : ∀ (z : St) (d : Option Nat) (x : SV), (z.put n d x).own = z.own := fun z d x => by
  unfold St.put; split
  ·unfold St.set; split <;> rfl
  ·rfl
 have hp := hr.persist (k := k2) (T := T) (size := size) (es := es) (by rw [hown]; exact hk)
 rw [hown] at hp
 obtain ⟨hd, hn, h, ρ, hw, hs⟩ := hp
 refine ⟨hd, hn, h, ρ, by rw [hown]; exact hw, fun j x hx => ?_⟩
 have old : ∀ {z : SV}, (j, z) ∈ dropU k2 sl → (∀ d, o.dst = some d → j ≠ d) → ∃ v, a.tmps[j]? = some v ∧ z.rel h ρ v := fun {z} hz hj => by
  have e := (mem_dropU hz).2
  have hm : (j, z) ∈ ((⟨dropU k2 sl, own⟩ : St).put n o.dst (.b (.row k2))).slots := by
   unfold St.put; split
   ·next d e2 =>
    unfold St.set; split
    ·exact List.mem_cons_of_mem _ (mem_del_of hz (hj d e2))
    ·exact hz
   ·exact hz
  have := hs j _ (mem_persS_of (k := k2) (p := .sl size es) hm)
  rwa [SV.pers_id e] at this
 cases hdst : o.dst with
 | none =>
  rw [hdst] at hx
  exact old hx (fun d e => by rw [hdst] at e; cases e)
 | some d =>
  rw [hdst] at hx
  simp only [St.put, St.set] at hx
  split at hx
  ·next hlt =>
   cases List.mem_cons.1 hx with
   | inl e =>
    obtain ⟨rfl, rfl⟩ := Prod.mk.inj e
    have hm : (j, SV.b (.row k2)) ∈ ((⟨dropU k2 sl, own⟩ : St).put n o.dst (.b (.row k2))).slots := by
     rw [hdst]; simp only [St.put, St.set, hlt, if_true]; exact List.mem_cons_self
    have := hs j _ (mem_persS_of (k := k2) (p := .sl size es) hm)
    simpa [SV.pers, BV.pers] using this
   | inr e => exact old (mem_del e).1 (fun d' e' => by rw [hdst] at e'; cases e'; exact (mem_del e).2)
  ·next hlt =>
   by_cases hjd : j = d
   ·exfalso
    subst hjd
    have hm : (j, x) ∈ ((⟨dropU k2 sl, own⟩ : St).put n o.dst (.b (.row k2))).slots := by
     rw [hdst]; simp only [St.put, St.set, hlt, if_false]; exact hx
    obtain ⟨v, hv, _⟩ := hs j _ (mem_persS_of (k := k2) (p := .sl size es) hm)
    have := (Array.getElem?_eq_some_iff.1 hv).1
    omega
   ·exact old hx (fun d' e' => by rw [hdst] at e'; cases e'; exact hjd)
theorem Tri.nilbox (k i size : Nat) {T : TypeId} {ps : List CP} (hk : lk s.own k = some (.box T ps)) (hi : ps[i]? = some .nil) (hz : 0 < size) (h : Tri P E n cd ⟨s.slots, ins k (.box T (ps.set i (.sl size []))) s.own⟩ Q) : Tri P E n cd s Q := fun a w hr => h a w (hr.nilbox hk hi hz)
theorem OpsL.nilbox (k i size : Nat) {T : TypeId} {ps : List CP} (hk : lk s.own k = some (.box T ps)) (hi : ps[i]? = some .nil) (hz : 0 < size) (h : OpsL P E n ops l ⟨s.slots, ins k (.box T (ps.set i (.sl size []))) s.own⟩ Q) : OpsL P E n ops l s Q := fun a w hr => h a w (hr.nilbox hk hi hz)
theorem op_len_nil {e : TypeId} (ht : P.underlying t = some (.slice e)) (hx : s.ev x = some (.b (.one .nil))) :
  Op1 P E n ⟨dst, .call ⟨.builtin .len, #[x], #[t]⟩, ty, pos, after, g⟩ s (s.put n dst (I 0)) :=
 Op1.val (o := ⟨dst, .call ⟨.builtin .len, #[x], #[t]⟩, ty, pos, after, g⟩) fun ac w h ρ hw hs => by
  have hv := (ev_rel hs hx : (CP.nil).rel h _)
  refine ⟨.int .i64 0, ?_, rfl, inR_len (m := 0) (Nat.zero_le _)⟩
  rw [execOp_builtin, builtin_len]
  simp [hv.1, Builtin.len_, run_underlying ht, goInt]
inductive NilTo : List CP → List CP → Prop
 | nil : NilTo [] []
 | same {p : CP} {ps qs : List CP} : NilTo ps qs → NilTo (p :: ps) (p :: qs)
 | sl {size : Nat} {ps qs : List CP} : 0 < size → NilTo ps qs → NilTo (.nil :: ps) (.sl size [] :: qs)
inductive NilToX : List BV → List BV → Prop
 | nil : NilToX [] []
 | same {p : BV} {ps qs : List BV} : NilToX ps qs → NilToX (p :: ps) (p :: qs)
 | sl {size : Nat} {ps qs : List BV} : 0 < size → NilToX ps qs → NilToX (.one .nil :: ps) (.one (.sl size []) :: qs)
theorem nil_sl {h : PH} {size : Nat} {v : Value} (hz : 0 < size) (hr : CP.nil.rel h v) : (CP.sl size []).rel h v := ⟨fun ps hps => by simp at hps, hz, .inl ⟨hr.1, rfl⟩⟩
theorem NilTo.rel {h : PH} : ∀ {ps qs : List CP} {vs : List Value}, NilTo ps qs → cellsRel h ps vs → cellsRel h qs vs
 | _, _, _, .nil, hr => hr
 | _, _, _, .same hn, .cons a b => .cons a (NilTo.rel hn b)
 | _, _, _, .sl hz hn, .cons a b => .cons (nil_sl hz a) (NilTo.rel hn b)
theorem NilToX.rel {h : PH} {ρ : RM} : ∀ {ps qs : List BV} {vs : List Value}, NilToX ps qs → All2 (fun (x : BV) u => x.rel h ρ u ∧ u.oneCell' = true) ps vs → All2 (fun (x : BV) u => x.rel h ρ u ∧ u.oneCell' = true) qs vs
 | _, _, _, .nil, hr => hr
 | _, _, _, .same hn, .cons a b => .cons a (NilToX.rel hn b)
 | _, _, _, .sl hz hn, .cons a b => .cons ⟨nil_sl hz a.1, a.2⟩ (NilToX.rel hn b)
theorem Op1.weak {s1 : St} {x x' : SV} (h1 : Op1 P E n o s (s1.put n o.dst x)) (hx : ∀ (h : PH) (ρ : RM) (v : Value), x.rel h ρ v → x'.rel h ρ v) : Op1 P E n o s (s1.put n o.dst x') := h1.then' fun a w hr => by
 obtain ⟨hd, hn, h, ρ, hw, hs⟩ := hr
 have hown : ∀ (x : SV), (s1.put n o.dst x).own = s1.own := fun x => by
  unfold St.put; split
  ·unfold St.set; split <;> rfl
  ·rfl
 refine ⟨hd, hn, h, ρ, by rw [hown] at hw ⊢; exact hw, fun j y hy => ?_⟩
 cases hdst : o.dst with
 | none => rw [hdst] at hy hs; exact hs j y hy
 | some d =>
  rw [hdst] at hy hs
  simp only [St.put, St.set] at hy hs
  split at hy
  ·next hlt =>
   simp only [hlt, if_true] at hs
   cases List.mem_cons.1 hy with
   | inl e =>
    obtain ⟨rfl, rfl⟩ := Prod.mk.inj e
    obtain ⟨v, hv, hrel⟩ := hs j x List.mem_cons_self
    exact ⟨v, hv, hx h ρ v hrel⟩
   | inr e => exact hs j y (List.mem_cons_of_mem _ e)
  ·next hlt =>
   simp only [hlt, if_false] at hs
   exact hs j y hy
theorem Op1.nilA {s1 : St} {ps qs : List CP} (hn : NilTo ps qs) (h1 : Op1 P E n o s (s1.put n o.dst (.b (.agg ps)))) : Op1 P E n o s (s1.put n o.dst (.b (.agg qs))) :=
 h1.weak fun _ _ _ ⟨cs, e, hr⟩ => ⟨cs, e, hn.rel hr⟩
theorem Op1.nilX {s1 : St} {ps qs : List BV} (hn : NilToX ps qs) (h1 : Op1 P E n o s (s1.put n o.dst (.xagg ps))) : Op1 P E n o s (s1.put n o.dst (.xagg qs)) :=
 h1.weak fun _ _ _ ⟨cs, e, hr⟩ => ⟨cs, e, hn.rel hr⟩
def cpyE {α : Type} (xs ys : List α) : List α := ys.take xs.length ++ xs.drop ys.length
theorem cpyE_map {α : Type} (e : α → List CP) (xs ys : List α) : cpyE (xs.map e) (ys.map e) = (cpyE xs ys).map e := by simp [cpyE, List.map_take, List.map_drop]
theorem spliceE0 {α : Type} (xs ys : List α) : spliceE xs 0 (ys.take xs.length) = cpyE xs ys := by
 unfold spliceE cpyE
 simp only [List.take_zero, List.nil_append, List.length_take]
 congr 1
 by_cases h : ys.length ≤ xs.length
 ·rw [Nat.min_eq_right h]; simp
 ·rw [Nat.min_eq_left (by omega), List.drop_eq_nil_of_le (by omega), List.drop_eq_nil_of_le (by omega)]
theorem op_copy_row {k size bytes : Nat} {T e : TypeId} {zs : List CP} {es es' news : List (List CP)} (ht : TySl P t e size bytes zs) (hx : s.ev x = some (.b (.row k))) (hk : lk s.own k = some (.row T size es)) (hy : s.ev y = some (.b (.one (.sl size news)))) (he : cpyE es news = es') (hfine : (s.slots.all fun p => p.2.fine k || (match p.2 with | .b (.row j) => j == k | _ => false)) = true) (hfx : n.fix.contains k = false) (hnu : noUse k s.own = true := by rfl) :
  Op1 P E n ⟨dst, .call ⟨.builtin .copy, #[x, y], #[t, yt]⟩, ty, pos, after, g⟩ s ((⟨s.slots, ins k (.row T size es') s.own⟩ : St).put n dst (.b (.one .any))) := by
 intro a w hr next Q hnext
 subst he
 obtain ⟨hdf, hn, h, ρ, hw, hs⟩ := hr
 have hv : a.eval x = ρ k := (ev_rel hs hx : BV.rel h ρ (.row k) _)
 obtain ⟨hu, hz, hf⟩ := row_form hw hk
 have hyr := (ev_rel hs hy : (CP.sl size news).rel h _)
 have hrow : ∀ {w' : World}, (execOp a.eval (⟨dst, .call ⟨.builtin .copy, #[x, y], #[t, yt]⟩, ty, pos, after, g⟩ : Oper)).run P w = .ok (.value (goInt ↑(min news.length es.length))) w' → WR E n (ins k (.row T size (cpyE es news)) s.own) h ρ w' → Oper.wp P ⟨dst, .call ⟨.builtin .copy, #[x, y], #[t, yt]⟩, ty, pos, after, g⟩ a w next Q := fun {w'} hrun hw' => by
  unfold Oper.wp
  rw [hrun]
  exact hnext _ _ (R.put (s := ⟨s.slots, _⟩) hdf hn hw' hs rfl)
 rcases hf with ⟨hρ, rfl⟩ | ⟨b, cap, cur, hρ, hb, h1, h2, h3, h4⟩
 ·refine hrow (w' := w) ?_ ?_
  ·rw [execOp_builtin]
   show Sem.run _ _ _ = _
   simp only [builtin, List.map_toArray, List.map_cons, List.map_nil, hv, hρ]
   obtain ⟨_, _, hform⟩ := hyr
   obtain ⟨inf, z, hi, hsz, _⟩ := ht.info
   rcases hform with ⟨hy1, hy2⟩ | ⟨sb, so, sc, hy1, _⟩ | ⟨ad, hy1, _⟩ <;> rw [hy1]
   ·simp [Builtin.copy_, run_underlying ht.und, goInt, Builtin.lenOf, Builtin.firstCells, sizeOf, typeInfo, hi, hsz]
   ·have hl := run_loadCells_list (P := P) w ⟨sb, so, none⟩ [] (fun j v hv => by simp at hv)
    simp at hl
    simp [Builtin.copy_, run_underlying ht.und, goInt, Builtin.lenOf, Builtin.firstCells, sizeOf, typeInfo, hi, hsz, hl]
   ·have hl := run_loadCells_list (P := P) w ad [] (fun j v hv => by simp at hv)
    simp at hl
    simp [Builtin.copy_, run_underlying ht.und, goInt, Builtin.lenOf, Builtin.firstCells, sizeOf, typeInfo, hi, hsz, hl]
  ·have : cpyE ([] : List (List CP)) news = [] := by simp [cpyE]
   rw [this]
   exact (hw.repl hk (hw.owned k _ (lk_mem hk)).1)
 ·obtain ⟨_, _, hform⟩ := id hyr
  obtain ⟨hnu', hnz, _⟩ := hyr
  have hsrc : ∃ sb so sc cs, (a.eval y = .slice none 0 0 ∧ news = []) ∨ (∃ ad, a.eval y = .slice (some ad) 0 0 ∧ news = []) ∨ (a.eval y = .slice (some ⟨sb, so, none⟩) news.length sc ∧ cellsRel h news.flatten cs ∧ ∀ j u, cs[j]? = some u → w.cell? ⟨sb, so + j, none⟩ = some u) := by
   rcases hform with ⟨hy1, hy2⟩ | ⟨sb, so, sc, hy1, hy2, hy3, hy4⟩ | ⟨ad, hy1, hy2⟩
   ·exact ⟨0, 0, 0, [], .inl ⟨hy1, hy2⟩⟩
   rotate_left
   ·exact ⟨0, 0, 0, [], .inr (.inl ⟨ad, hy1, hy2⟩)⟩
   ·obtain ⟨cs, hc1, hc2⟩ := hy4.list
    exact ⟨sb, so, sc, cs, .inr (.inr ⟨hy1, hc1, fun j u hu => hw.agree.cell (hc2 j u hu) (hc1.one u (List.mem_of_getElem? hu))⟩)⟩
  obtain ⟨sb, so, sc, cs, hy | ⟨ad, hy⟩ | ⟨hy1, hc1, hc2⟩⟩ := hsrc
  ·obtain ⟨hy1, rfl⟩ := hy
   refine hrow (w' := w) ?_ ?_
   ·rw [execOp_builtin]
    show Sem.run _ _ _ = _
    simp only [builtin, List.map_toArray, List.map_cons, List.map_nil, hv, hρ, hy1]
    obtain ⟨inf, z, hi, hsz, _⟩ := ht.info
    have hst : (storeCells ⟨b, 0, none⟩ []).run P w = .ok () w := by simp [storeCells, Sem.run]
    simp [Builtin.copy_, run_underlying ht.und, goInt, Builtin.lenOf, Builtin.firstCells, sizeOf, typeInfo, hi, hsz, hst]
   ·have : cpyE es ([] : List (List CP)) = es := by simp [cpyE]
    rw [this]
    exact (hw.repl hk (hw.owned k _ (lk_mem hk)).1)
  ·obtain ⟨hy1, rfl⟩ := hy
   refine hrow (w' := w) ?_ ?_
   ·rw [execOp_builtin]
    show Sem.run _ _ _ = _
    simp only [builtin, List.map_toArray, List.map_cons, List.map_nil, hv, hρ, hy1]
    obtain ⟨inf, z, hi, hsz, _⟩ := ht.info
    have hst : (storeCells ⟨b, 0, none⟩ []).run P w = .ok () w := by simp [storeCells, Sem.run]
    have hl := run_loadCells_list (P := P) w ad [] (fun j v hv => by simp at hv)
    simp at hl
    simp [Builtin.copy_, run_underlying ht.und, goInt, Builtin.lenOf, Builtin.firstCells, sizeOf, typeInfo, hi, hsz, hst, hl]
   ·have : cpyE es ([] : List (List CP)) = es := by simp [cpyE]
    rw [this]
    exact (hw.repl hk (hw.owned k _ (lk_mem hk)).1)
  ·have hm : (news.take es.length).length = min news.length es.length := by rw [List.length_take, Nat.min_comm]
   have hun2 : Uniform size (news.take es.length) := fun ps hp => hnu' ps (List.mem_of_mem_take hp)
   have hcr2 : cellsRel h (news.take es.length).flatten (cs.take (es.length * size)) := by
    have e1 : (news.take es.length).flatten = news.flatten.take (es.length * size) := take_flatten hnu' _
    rw [e1]
    exact All2.take hc1 _
   obtain ⟨w', hrun, g1, g2, g3, g4, g5⟩ := copy_core (ty := ty) (yt := yt) (lo := 0) (dlen := es.length) (dcap := cap) (sb := sb) (so := so) (slen := news.length) (sc := sc) (news := news.take es.length) (cs := cs.take (es.length * size)) hw ht hk hρ (by rw [hm]) hun2 hcr2 (fun j u hj => hc2 j u (by
    rw [List.getElem?_take] at hj
    split at hj
    ·exact hj
    ·cases hj)) (Nat.zero_le _) (by rw [hm]; omega)
   rw [spliceE0] at g5
   have hlen : (cpyE es news).length = es.length := by simp [cpyE]; omega
   rw [hlen] at g5
   refine hrow (w' := w') ?_ ?_
   ·rw [execOp_builtin]
    show Sem.run _ _ _ = _
    simp only [builtin, List.map_toArray, List.map_cons, List.map_nil, hv, hρ, hy1]
    rw [Nat.zero_mul] at hrun
    rw [Sem.run_bind, hrun, hm]
    rfl
   ·have hst := hw.step (w' := w') k (.slice (some ⟨b, 0, none⟩) es.length cap) (.row T size (cpyE es news)) (some b) (fun b' e => by cases e; exact ⟨_, lk_mem hk, by rw [hρ]; rfl⟩) (by omega) g2 g3
     (fun b' _ hne => g4 b' (fun e => hne (by rw [e]))) g5 (fun b' hb' => by simp [blkOf] at hb'; exact .inl (by rw [hb'])) (.inl hρ.symm) (.inl hρ.symm)
    have : upd ρ k (.slice (some ⟨b, 0, none⟩) es.length cap) = ρ := by rw [← hρ]; exact upd_self ρ k
    rwa [this] at hst
theorem op_neq_fn {f : Nat} {fs cs : List CV} (hu : ∃ ps rs v, P.underlying t = some (.func ps rs v)) (hx : s.ev x = some (.b (.clo f fs cs))) :
  Op1 P E n ⟨dst, .binOp .neq t x (.const .nilFunc) yt, ty, pos, after, g⟩ s (s.put n dst (B true)) :=
 Op1.val (o := ⟨dst, .binOp .neq t x (.const .nilFunc) yt, ty, pos, after, g⟩) fun ac w h ρ hw hs => by
  obtain ⟨_, _, _, hu⟩ := hu
  obtain ⟨va, vb, hv, _⟩ := (ev_rel hs hx : BV.rel h ρ (.clo f fs cs) _)
  refine ⟨.bool true, ?_, rfl⟩
  have := run_eql_fn (w := w) (u := ac.eval x) hu (.inl ⟨_, _, _, hv, rfl⟩)
  rw [hv] at this
  simp only [execOp, hv, show ac.eval (.const .nilFunc) = .nilFunc from rfl]
  simp [eqGuard, binOp, this]
theorem op_neq_fnil (hu : ∃ ps rs v, P.underlying t = some (.func ps rs v)) (hx : s.ev x = some (.b (.one (.raw .nilFunc)))) :
  Op1 P E n ⟨dst, .binOp .neq t x (.const .nilFunc) yt, ty, pos, after, g⟩ s (s.put n dst (B false)) :=
 Op1.val (o := ⟨dst, .binOp .neq t x (.const .nilFunc) yt, ty, pos, after, g⟩) fun ac w h ρ hw hs => by
  obtain ⟨_, _, _, hu⟩ := hu
  have hv : ac.eval x = .nilFunc := (ev_rel hs hx : (CP.raw _).rel h _).1
  refine ⟨.bool false, ?_, rfl⟩
  have := run_eql_fn (w := w) (u := ac.eval x) hu (.inr ⟨hv, rfl⟩)
  rw [hv] at this
  simp only [execOp, hv, show ac.eval (.const .nilFunc) = .nilFunc from rfl]
  simp [eqGuard, binOp, this]
end
section
variable {P : Program} {TB : Tabs} {E : Env TB} {n : Sh} {s : St} {Q : Post} {cd : Code} {ops : Array Oper} {l : List Oper}
end
section
variable {P : Program} {TB : Tabs} {E : Env TB} {n : Sh} {s : St} {dst : Option Nat} {t ty yt : TypeId} {pos : String} {after : Array Edge} {g : Option (Nat × Bool)} {x y c : Operand}
end
theorem mrange_step {vis : List Int} {r1 r2 : MapI} {p : Int × Int} {ks : List Int} (h : (vis ++ (r1 ++ p :: r2).map (·.1)).Perm ks) : ((vis ++ [p.1]) ++ (r1 ++ r2).map (·.1)).Perm ks := by
 refine List.Perm.trans ?_ h
 rw [List.append_assoc]
 refine List.Perm.append_left vis ?_
 rw [List.map_append, List.map_append, List.map_cons]
 show (p.1 :: (r1.map (·.1) ++ r2.map (·.1))).Perm _
 exact List.perm_middle.symm
theorem mrange_len {vis : List Int} {r1 r2 : MapI} {p : Int × Int} {m : MapI} (h : (vis ++ (r1 ++ p :: r2).map (·.1)).Perm (m.map (·.1))) (hm : m.length ≤ 1000000000) : vis.length + [p.1].length ≤ 1000000000 := by
 have := h.length_eq
 simp at this ⊢
 omega
theorem sorted_congr {a b : List Int} (h : a.Perm b) : sorted a = sorted b := by
 have pw : ∀ l : List Int, (sorted l).Pairwise (· ≤ ·) := fun l => by
  have := List.pairwise_mergeSort (le := fun x y : Int => decide (x ≤ y)) (by intro a b c; simp; omega) (by intro a b; simp; omega) l
  exact this.imp fun h => by simpa using h
 refine List.Perm.eq_of_pairwise (le := fun x y : Int => x ≤ y) (fun a b _ _ h1 h2 => by omega) (pw a) (pw b) ?_
 exact ((List.mergeSort_perm a _).trans h).trans (List.mergeSort_perm b _).symm
def sort0? (zs : List Int) : Option (List Int) := if zs.length < 1000000000 then some (sorted zs) else none
theorem sort0_perm {vis ks r : List Int} (h : vis.Perm ks) (hr : sort0? ks = some r) : sort0? vis = some r := by
 unfold sort0? at hr ⊢
 rw [h.length_eq, sorted_congr h]
 exact hr
section
open Go Go.BigFrame Go.RowKit Go.Proofs Go.Shelf
variable {P : Program} {TB : Tabs} {ρ : Ren}
theorem meets_Sort0 (L : Lays.n189 P ρ) (hnil : Meets P TB (ρ.f 189) [] [.one .nil] (Is [] (.tup []))) {T : TypeId} {zs r : List Int} (hr : sort0? zs = some r) : Meets P TB (ρ.f 189) [(1, .frow T 1 (zs.map eI))] [.row 1] (Is [(1, .frow T 1 (r.map eI))] (.tup [])) := by
 unfold sort0? at hr
 split at hr
 ·next hl =>
  cases hr
  intro w h ρ' vals tb hag hlent hargs
  obtain ⟨v, rfl, hv⟩ := all2_one hargs
  have hv' : v = ρ' 1 := hv
  subst hv'
  have hw := wr_start tb hag hlent
  obtain ⟨_, _, hf⟩ := frow_form hw (k := 1) rfl
  rcases hf with ⟨hn, h0⟩ | ⟨b, cap, cur, h1, h2, h3, h4, h5, h6⟩
  ·have hz : zs = [] := List.map_eq_nil_iff.1 h0
   subst hz
   refine (hnil w h ρ' _ tb hag (fun k c hk => by simp at hk) (.cons (by rw [hn]; exact ⟨rfl, rfl⟩) .nil)).mono ?_
   rintro e w' ⟨v, own', res, h', ρ'', rfl, ⟨rfl, rfl⟩, hc, vs, rfl, hvs⟩
   have e0 : sorted [] = [] := by simp [sorted]
   exact ⟨_, _, _, h', ρ', rfl, ⟨rfl, rfl⟩, by rw [e0]; exact hw.none hc, vs, rfl, by
    generalize vs.toList = l at hvs
    cases hvs
    exact .nil⟩
  rw [List.length_map] at h1 h3 h6
  rw [Nat.mul_one] at h5 h6
  obtain ⟨e1, e2⟩ := ints_rel h6
  have hlen : (sorted zs).length = zs.length := List.length_mergeSort zs
  have hbl : b < w.heap.size := (Array.getElem?_eq_some_iff.1 h2).1
  rw [h1]
  refine (Any.slices_Sort_int L b 0 cap zs w (holds_ints h2 e1) hbl (by omega)).mono ?_
  rintro e w' ⟨rfl, q, os, rfl⟩
  have hsz : (Sort.putRow (Value.int .i64) (Sort.ahead w q) b 0 (sorted zs).toArray).heap.size = w.heap.size := by simp [Sort.putRow, Sort.mapBlock, Sort.ahead]
  have hst := hw.step (w' := Sort.grow (Sort.putRow (Value.int .i64) (Sort.ahead w q) b 0 (sorted zs).toArray) os) 1 (ρ' 1) (.frow T 1 ((sorted zs).map eI)) (some b) (fun b' e => by cases e; exact ⟨.frow T 1 (zs.map eI), List.mem_cons_self, by rw [h1]; rfl⟩)
   (by rw [Sort.size_grow, hsz]; omega) rfl rfl (fun c hc hne => by
    rw [Sort.heap_grow_old _ _ (by rw [hsz]; exact hc)]
    exact heap_mapBlock_other (w := Sort.ahead w q) (fun e => hne (by rw [e]))) ?_ (fun b' hb' => by rw [h1] at hb'; simp [blkOf] at hb'; exact .inl (by rw [hb'])) (.inl rfl) (.inl rfl)
  ·have : upd ρ' 1 (ρ' 1) = ρ' := by funext j; simp only [upd]; split <;> simp_all
   rw [this] at hst
   exact ⟨.tuple #[], _, _, h, ρ', rfl, ⟨rfl, rfl⟩, hst, _, rfl, .nil⟩
  ·refine ⟨uni_I _, by decide, (sorted zs).map (Value.int .i64), ⟨by simp [hlen], .inr ⟨b, cap, Sort.putCells (Value.int .i64) 0 (sorted zs).toArray cur, by rw [h1, List.length_map, hlen], Nat.zero_le _, ?_, by rw [List.length_map, hlen]; exact h3, h4, ?_, ?_⟩⟩, rel_ints fun z hz => e2 z (List.mem_mergeSort.1 hz)⟩
   ·rw [Sort.heap_grow_old _ _ (by rw [hsz]; exact hbl)]
    exact heap_mapBlock (w := Sort.ahead w q) h2
   ·simp [Sort.putCells, h5]
   ·rw [List.length_map, Nat.mul_one]
    exact putCells_list (by rw [h5, hlen]; exact h3)
 ·simp at hr
end
end Go.Sk

namespace Go.Sk
set_option linter.unusedSimpArgs false
set_option linter.unusedVariables false
open Go Go.ChangeShapes Go.WideShapes Go.ChangeAt Go.RowKit Go.Deep
theorem TyRead.sl {P : Program} {t el : TypeId} {α : Type} {e : α → List CP} {size : Nat} (ht : P.underlying t = some (.slice el)) (hc : P.cellsOf t = 1) (hr : TyRead P el e) (hs : P.cellsOf el = size) (hpos : 0 < size) : TyRead P t (eL size e) where
 len _ := by simp [hc, eL]
 op {H enc W sp held fuel cs x} hsp hf := by
  subst hs
  have hu : ∀ l : List α, Uniform (P.cellsOf el) (l.map e) := fun l => uni_map fun x => hr.len x
  rcases open_slice ht hf with ⟨h1, hx0⟩ | ⟨a, len, cap, m, n, D, Pl, h1, hb, hl, hm, hmm, hx, hi⟩
  ·subst h1
   exact ⟨[], .cons ⟨hu [], hpos, .inl ⟨rfl, rfl⟩⟩ .nil⟩
  ·subst h1
   rw [hsp, if_pos rfl] at hmm
   subst hmm
   by_cases hm0 : m = 0
   ·subst hm0
    have : len = 0 := by omega
    subst this
    exact ⟨[], .cons ⟨hu [], hpos, .inr (.inr ⟨a, rfl, rfl⟩)⟩ .nil⟩
   ·obtain ⟨l, hll, hp⟩ := forall_choose (p := fun i a' => cellsRel (full W) (e a') ((W.cells? 0 (a.add (i * P.cellsOf el)) (P.cellsOf el)).getD [])) len fun i hil => by
     obtain ⟨cs', h2, h3⟩ := hi i (by omega)
     obtain ⟨a', ha'⟩ := hr.op hsp h3
     exact ⟨a', by rw [h2]; exact ha'⟩
    have hspot : a.spot = none := by
     obtain ⟨cs', h2, _⟩ := hi 0 (by omega)
     obtain ⟨_, hcl, hcell⟩ := World.cells?_some h2
     have h3 := hcell 0 hpos
     rw [Nat.zero_mul] at h3
     have e0 : (a.add 0).add 0 = a := by simp [Addr.add]
     rw [e0] at h3
     have hlt : 0 < cs'.length := by omega
     rw [List.getElem?_eq_getElem hlt] at h3
     unfold World.cell? at h3
     split at h3
     ·split at h3
      ·cases h3
      ·next hns => simpa using hns
     ·cases h3
    obtain ⟨b, o, s⟩ := a
    simp only at hspot
    subst hspot
    refine ⟨l, .cons ⟨hu l, hpos, .inr (.inl ⟨b, o, m, by simp [hll], by simp [hll]; omega, hm, ?_⟩)⟩ .nil⟩
    intro j c hj
    have hjl : j < (l.map e).flatten.length := (List.getElem?_eq_some_iff.1 hj).1
    rw [flatten_len (hu l), List.length_map, hll] at hjl
    have hi' : j / P.cellsOf el < len := by
     rw [Nat.div_lt_iff_lt_mul hpos]; exact hjl
    have hj' : j % P.cellsOf el < P.cellsOf el := Nat.mod_lt _ hpos
    have hdm := Nat.div_add_mod j (P.cellsOf el)
    obtain ⟨cs', h2, h3⟩ := hi (j / P.cellsOf el) (by omega)
    have hli : l[j / P.cellsOf el]? = some (l[j / P.cellsOf el]'(by omega)) := List.getElem?_eq_getElem (by omega)
    have hrel := hp _ _ hli
    rw [h2] at hrel
    have hget := flatten_get (hu l) (j / P.cellsOf el) (e (l[j / P.cellsOf el]'(by omega))) (by rw [List.getElem?_map, hli]; rfl) (j % P.cellsOf el) hj'
    have ej : j / P.cellsOf el * P.cellsOf el + j % P.cellsOf el = j := by rw [Nat.mul_comm]; omega
    rw [ej, hj] at hget
    obtain ⟨u, hu1, hu2⟩ := All2.get hrel _ _ hget.symm
    refine ⟨u, ?_, hu2⟩
    obtain ⟨_, hcl, hcell⟩ := World.cells?_some h2
    have := hcell _ hj'
    simp only [Option.getD_some] at hu1
    have ea : ((⟨b, o, none⟩ : Addr).add (j / P.cellsOf el * P.cellsOf el)).add (j % P.cellsOf el) = ⟨b, o + j, none⟩ := by
     rw [add_none, add_none, Nat.add_assoc, ej]
    rw [hu1, ea] at this
    exact look_of_cell this (CP.one _ hu2)
end Go.Sk

namespace Go.Sk
set_option linter.unusedSimpArgs false
set_option linter.unusedVariables false
open Go
theorem cells_rel_mem {h : PH} {ps : List CP} {cs : List Value} (hr : cellsRel h ps cs) {p : CP} (hp : p ∈ ps) : ∃ u, p.rel h u := by
 obtain ⟨i, hi, rfl⟩ := List.getElem_of_mem hp
 obtain ⟨u, _, hu⟩ := All2.get hr i ps[i] (List.getElem?_eq_getElem hi)
 exact ⟨u, hu⟩
theorem sl_rel_mem {h : PH} {size : Nat} {es : List (List CP)} {v : Value} (hv : (CP.sl size es).rel h v) {ps : List CP} (hps : ps ∈ es) {p : CP} (hp : p ∈ ps) : ∃ u, p.rel h u := by
 obtain ⟨_, _, ⟨_, rfl⟩ | ⟨b, o, c, _, _, _, hr⟩ | ⟨_, _, rfl⟩⟩ := hv
 ·cases hps
 ·have hm : p ∈ es.flatten := List.mem_flatten.2 ⟨ps, hps, hp⟩
  obtain ⟨i, hi, rfl⟩ := List.getElem_of_mem hm
  obtain ⟨u, _, hu⟩ := hr i _ (List.getElem?_eq_getElem hi)
  exact ⟨u, hu⟩
 ·cases hps
theorem sl_len_le {h : PH} {size : Nat} {es : List (List CP)} (hv : ∃ u, (CP.sl size es).rel h u) : es.length ≤ 9223372036854775807 := by
 obtain ⟨u, hu⟩ := hv
 have := len_le hu
 rwa [maxLen_eq] at this
end Go.Sk

namespace Go.Sk
open Go
set_option linter.unusedVariables false
set_option linter.unusedSimpArgs false
section
variable {σ σ1 σ2 σ3 τ : Type}
theorem Yld.up2 {A : σ → Int → Option ((σ × Int) ⊕ τ)} {G : σ → Int → τ} {n : Int} {Q : τ → Prop} {F : Nat} {s0 : σ} (N : Nat) (I : Nat → σ → Prop) (hn : n = N) (hF : N < F) (h0 : I 0 s0)
  (step : ∀ (k : Nat) s, k < N → I k s → Yld (A s k) fun o => (∃ s', o = .inl (s', (k : Int) + 1) ∧ I (k + 1) s') ∨ ∃ t, o = .inr t ∧ Q t) (fin : ∀ s, I N s → Q (G s N)) :
  Yld (iter F (fun z : σ × Int => if decide (z.2 < n) = true then A z.1 z.2 else Option.some (.inr (G z.1 z.2))) (s0, 0)) Q := by
 refine Yld.rounds (n := N) (I := fun k s => s.2 = (k : Int) ∧ I k s.1) hF ⟨rfl, h0⟩ ?_
 rintro k ⟨s, i⟩ hk ⟨hi, hI⟩
 simp only at hi hI
 subst hi
 refine Yld.ite (fun hc => ?_) (fun hc => ?_)
 ·have hc := of_decide_eq_true hc
  simp only at hc
  refine (step k s (by omega) hI).mono fun o ho => ?_
  rcases ho with ⟨s', rfl, h⟩ | h
  ·exact .inl ⟨_, rfl, ⟨by push_cast; rfl, h⟩, by omega⟩
  ·exact .inr h
 ·have hc := of_decide_eq_false hc
  simp only at hc
  have : k = N := by omega
  subst this
  exact Yld.some (.inr ⟨_, rfl, fin s hI⟩)
end
theorem mHas_mset (m : MapI) (k v j : Int) : mHas (mset m k v) j = (decide (j = k) || mHas m j) := by
 unfold mHas; rw [mget_mset]; by_cases h : j = k <;> simp [h]
theorem mGet_mset (m : MapI) (k v j : Int) : mGet (mset m k v) j = if j = k then v else mGet m j := by
 unfold mGet; rw [mget_mset]; by_cases h : j = k <;> simp [h]
theorem mHas_cons (a b j : Int) (m : MapI) : mHas ((a, b) :: m) j = (decide (j = a) || mHas m j) := by
 unfold mHas; show (if j = a then some b else mget m j).isSome = _
 by_cases h : j = a <;> simp [h]
theorem mHas_iff (j : Int) : ∀ m : MapI, mHas m j = true ↔ j ∈ m.map (·.1)
 | [] => by simp [mHas, mget]
 | (a, b) :: m => by rw [mHas_cons]; simp [mHas_iff j m]
theorem mkeys_set (k v : Int) : ∀ m : MapI, (mset m k v).map (·.1) = if mHas m k then m.map (·.1) else m.map (·.1) ++ [k]
 | [] => by simp [mHas, mget, mset]
 | (a, b) :: m => by
  rw [mHas_cons]
  unfold mset
  by_cases h : k = a
  ·simp [h]
  ·rw [if_neg h, List.map_cons, mkeys_set k v m]
   by_cases h2 : mHas m k <;> simp [h, h2]
theorem srt_perm (l : List Int) : (sorted l).Perm l := List.mergeSort_perm _ _
theorem srt_pw (l : List Int) : (sorted l).Pairwise (· ≤ ·) :=
 (List.pairwise_mergeSort (le := fun x y : Int => decide (x ≤ y)) (fun a b c h1 h2 => by simp only [decide_eq_true_eq] at *; omega) (fun a b => by simp only [Bool.or_eq_true, decide_eq_true_eq]; omega) l).imp fun h => of_decide_eq_true h
abbrev Asd (l : List Int) : Prop := l.Pairwise (· < ·)
theorem srt_asd {l : List Int} (h : l.Nodup) : Asd (sorted l) := by
 have h1 := srt_pw l
 have h2 : (sorted l).Nodup := (srt_perm l).nodup_iff.2 h
 refine (List.pairwise_and_iff.2 ⟨h1, h2⟩).imp ?_
 rintro a b ⟨h1, h2⟩
 omega
theorem mem_srt {l : List Int} {a : Int} : a ∈ sorted l ↔ a ∈ l := (srt_perm l).mem_iff
theorem asd_ext {l m : List Int} (hl : Asd l) (hm : Asd m) (h : ∀ a, a ∈ l ↔ a ∈ m) : l = m := by
 refine List.Perm.eq_of_pairwise (fun a b _ _ h1 h2 => absurd (Int.lt_trans h1 h2) (Int.lt_irrefl _)) hl hm ?_
 refine (List.perm_ext_iff_of_nodup (hl.imp fun h => Int.ne_of_lt h) (hm.imp fun h => Int.ne_of_lt h)).2 h
theorem nd_len {α : Type} [DecidableEq α] : ∀ {l m : List α}, l.Nodup → (∀ a ∈ l, a ∈ m) → l.length ≤ m.length
 | [], _, _, _ => Nat.zero_le _
 | a :: l, m, h, hs => by
  have h1 := List.nodup_cons.1 h
  have h2 : l.length ≤ (m.erase a).length := nd_len h1.2 fun b hb => by
   have : b ≠ a := fun e => h1.1 (e ▸ hb)
   exact (List.mem_erase_of_ne this).2 (hs b (List.mem_cons_of_mem _ hb))
  have ha := hs a (List.mem_cons_self ..)
  rw [List.length_erase_of_mem ha] at h2
  have : 0 < m.length := List.length_pos_of_mem ha
  simp only [List.length_cons]
  omega
theorem asd_nodup {l : List Int} (h : Asd l) : l.Nodup := h.imp fun h => Int.ne_of_lt h
theorem asd_len {l m : List Int} (h : Asd l) (hs : ∀ a ∈ l, a ∈ m) : l.length ≤ m.length := nd_len (asd_nodup h) hs
def InsL {α : Type} (κ : α → Int) (n : α) (l out : List α) (placed : Bool) : Prop :=
 ∃ A B, l = A ++ B ∧ (∀ a ∈ A, κ a < κ n) ∧ (∀ b ∈ B, κ n < κ b) ∧ ((placed = false ∧ B = [] ∧ out = A) ∨ (placed = true ∧ B ≠ [] ∧ out = A ++ n :: B))
theorem InsL.zero {α : Type} {κ : α → Int} {n : α} : InsL κ n [] [] false := ⟨[], [], rfl, by simp, by simp, .inl ⟨rfl, rfl, rfl⟩⟩
theorem InsL.put {α : Type} {κ : α → Int} {n x : α} {l out : List α} (h : InsL κ n l out false) (hx : κ n < κ x) : InsL κ n (l ++ [x]) (out ++ [n] ++ [x]) true := by
 obtain ⟨A, B, hl, hA, hB, h | h⟩ := h
 ·obtain ⟨_, h2, h3⟩ := h
  subst h2 h3 hl
  refine ⟨out, [x], by simp, hA, by simp [hx], .inr ⟨rfl, by simp, by simp⟩⟩
 ·exact absurd h.1 (by simp)
theorem InsL.next {α : Type} {κ : α → Int} {n x : α} {l out : List α} {p : Bool} (h : InsL κ n l out p) (hp : p = true ∨ κ x ≤ κ n) (hne : κ x ≠ κ n) (hs : ∀ a ∈ l, κ a < κ x) : InsL κ n (l ++ [x]) (out ++ [x]) p := by
 obtain ⟨A, B, rfl, hA, hB, h | h⟩ := h
 ·obtain ⟨rfl, rfl, rfl⟩ := h
  refine ⟨out ++ [x], [], by simp, fun a ha => ?_, by simp, .inl ⟨rfl, rfl, rfl⟩⟩
  rcases List.mem_append.1 ha with ha | ha
  ·exact hA a ha
  ·rw [List.mem_singleton.1 ha]
   rcases hp with hp | hp
   ·exact absurd hp (by simp)
   ·omega
 ·obtain ⟨rfl, hne', rfl⟩ := h
  refine ⟨A, B ++ [x], by simp, hA, fun b hb => ?_, .inr ⟨rfl, by simp, by simp⟩⟩
  rcases List.mem_append.1 hb with hb | hb
  ·exact hB b hb
  ·rw [List.mem_singleton.1 hb]
   obtain ⟨b, B', rfl⟩ := List.exists_cons_of_ne_nil hne'
   have h1 := hB b (List.mem_cons_self ..)
   have h2 := hs b (by simp)
   omega
theorem InsL.fin {α : Type} {κ : α → Int} {n : α} {l out : List α} {p : Bool} (h : InsL κ n l out p) (hs : l.Pairwise fun a b => κ a < κ b) :
  (if !p then out ++ [n] else out).Pairwise (fun a b => κ a < κ b) ∧ (if !p then out ++ [n] else out).Perm (n :: l) := by
 obtain ⟨A, B, rfl, hA, hB, h⟩ := h
 have key : (A ++ n :: B).Pairwise (fun a b => κ a < κ b) := by
  rw [List.pairwise_append] at hs ⊢
  refine ⟨hs.1, List.pairwise_cons.2 ⟨hB, hs.2.1⟩, fun a ha b hb => ?_⟩
  rcases List.mem_cons.1 hb with rfl | hb
  ·exact hA a ha
  ·exact hs.2.2 a ha b hb
 rcases h with ⟨rfl, rfl, rfl⟩ | ⟨rfl, _, rfl⟩
 ·refine ⟨by simpa using key, ?_⟩
  simp only [Bool.not_false, if_true, List.append_nil]
  exact List.perm_append_singleton n out
 ·refine ⟨by simpa using key, ?_⟩
  simp only [Bool.not_true, if_false]
  exact List.perm_middle
inductive Con (P : Int → Int → Prop) : Int → Int → Prop
 | rfl (a) : Con P a a
 | of {a b} : P a b → Con P a b
 | symm {a b} : Con P a b → Con P b a
 | trans {a b c} : Con P a b → Con P b c → Con P a c
theorem Con.lift {P : Int → Int → Prop} {E : Int → Int → Prop} (h1 : ∀ a, E a a) (h2 : ∀ a b, E a b → E b a) (h3 : ∀ a b c, E a b → E b c → E a c) (h : ∀ a b, P a b → E a b) {a b : Int} (hc : Con P a b) : E a b := by
 induction hc with
 | rfl a => exact h1 a
 | of h' => exact h _ _ h'
 | symm _ ih => exact h2 _ _ ih
 | trans _ _ i1 i2 => exact h3 _ _ _ i1 i2
theorem Con.mono {P Q : Int → Int → Prop} (h : ∀ a b, P a b → Con Q a b) {a b : Int} (hc : Con P a b) : Con Q a b :=
 hc.lift (fun a => .rfl a) (fun _ _ h => .symm h) (fun _ _ _ h1 h2 => .trans h1 h2) h
theorem Con.congr {P Q : Int → Int → Prop} (h : ∀ a b, P a b → Con Q a b) (h' : ∀ a b, Q a b → Con P a b) (a b : Int) : Con P a b ↔ Con Q a b := ⟨.mono h, .mono h'⟩
def jn (r : Int → Int) (x y z : Int) : Int := if r z = max (r x) (r y) then min (r x) (r y) else r z
theorem jn_con {P : Int → Int → Prop} {r : Int → Int} (hi : ∀ z, r (r z) = r z) (h : ∀ a b, r a = r b ↔ Con P a b) (x y : Int) (a b : Int) : jn r x y a = jn r x y b ↔ Con (fun u v => P u v ∨ (u = x ∧ v = y)) a b := by
 have up : ∀ {a b}, Con P a b → Con (fun u v => P u v ∨ (u = x ∧ v = y)) a b := fun h => h.mono fun a b h => .of (.inl h)
 have base : ∀ z, Con P z (r z) := fun z => (h _ _).1 (hi z).symm
 have xy : Con (fun u v => P u v ∨ (u = x ∧ v = y)) (r x) (r y) := .trans (up (.symm (base x))) (.trans (.of (.inr ⟨rfl, rfl⟩)) (up (base y)))
 have self : ∀ z, Con (fun u v => P u v ∨ (u = x ∧ v = y)) z (jn r x y z) := fun z => by
  unfold jn
  split
  ·next hz =>
   refine .trans (up (base z)) ?_
   rw [hz]
   by_cases hl : r x ≤ r y
   ·rw [Int.max_eq_right hl, Int.min_eq_left hl]; exact .symm xy
   ·have hl' : r y ≤ r x := by omega
    rw [Int.max_eq_left hl', Int.min_eq_right hl']; exact xy
  ·exact up (base z)
 constructor
 ·intro e
  refine .trans (self a) ?_
  rw [e]
  exact .symm (self b)
 ·intro hc
  refine hc.lift (E := fun a b => jn r x y a = jn r x y b) (fun _ => rfl) (fun _ _ h => h.symm) (fun _ _ _ h1 h2 => h1.trans h2) ?_
  rintro u v (hu | ⟨rfl, rfl⟩)
  ·have := (h u v).2 (.of hu)
   unfold jn; rw [this]
  ·unfold jn
   by_cases hl : r u ≤ r v
   ·rw [Int.max_eq_right hl, Int.min_eq_left hl]
    split <;> split <;> omega
   ·have hl' : r v ≤ r u := by omega
    rw [Int.max_eq_left hl', Int.min_eq_right hl']
    split <;> split <;> omega
theorem jn_idem {r : Int → Int} (hi : ∀ z, r (r z) = r z) (x y z : Int) : jn r x y (jn r x y z) = jn r x y z := by
 have h1 := hi x; have h2 := hi y; have h3 := hi z
 unfold jn
 by_cases hl : r x ≤ r y
 ·rw [Int.max_eq_right hl, Int.min_eq_left hl]
  split <;> split <;> omega
 ·have hl' : r y ≤ r x := by omega
  rw [Int.max_eq_left hl', Int.min_eq_right hl']
  split <;> split <;> omega
structure UpM (m : MapI) (r : Int → Int) : Prop where
 out : ∀ x, mHas m x = false → r x = x
 has : ∀ x, mHas m x = true → mHas m (mGet m x) = true
 le : ∀ x, mHas m x = true → mGet m x ≤ x
 step : ∀ x, mHas m x = true → r (mGet m x) = r x
 fix : ∀ x, mHas m x = true → mGet m x = x → r x = x
 low : ∀ x, mHas m x = true → r x ≤ x ∧ mHas m (r x) = true ∧ mGet m (r x) = r x
 nd : (m.map (·.1)).Nodup
theorem UpM.nil : UpM [] (fun x => x) := ⟨fun _ _ => rfl, by simp [mHas, mget], by simp [mHas, mget], fun _ _ => by simp_all [mHas, mget], fun _ _ _ => rfl, by simp [mHas, mget], by simp⟩
theorem UpM.idem {m : MapI} {r : Int → Int} (h : UpM m r) (z : Int) : r (r z) = r z := by
 cases hz : mHas m z with
 | false => rw [h.out z hz, h.out z hz]
 | true =>
  obtain ⟨_, h2, h3⟩ := h.low z hz
  exact h.fix _ h2 h3
theorem UpM.rle {m : MapI} {r : Int → Int} (h : UpM m r) (z : Int) : r z ≤ z := by
 cases hz : mHas m z with
 | false => rw [h.out z hz]; exact Int.le_refl _
 | true => exact (h.low z hz).1
theorem mset_nodup {m : MapI} {k v : Int} (h : (m.map (·.1)).Nodup) : ((mset m k v).map (·.1)).Nodup := by
 rw [mkeys_set]
 split
 ·exact h
 ·next hn =>
  rw [List.nodup_append]
  refine ⟨h, by simp, fun a ha b hb => ?_⟩
  rw [List.mem_singleton.1 hb]
  rintro rfl
  exact hn ((mHas_iff a m).2 ha)
theorem UpM.add {m : MapI} {r : Int → Int} (h : UpM m r) {x : Int} (hx : mHas m x = false) : UpM (mset m x x) r := by
 have e := h.out x hx
 have hne : ∀ z, mHas m z = true → z ≠ x := fun z hz e => by rw [e, hx] at hz; cases hz
 refine ⟨fun z hz => ?_, fun z hz => ?_, fun z hz => ?_, fun z hz => ?_, fun z hz => ?_, fun z hz => ?_, mset_nodup h.nd⟩
 ·rw [mHas_mset, Bool.or_eq_false_iff] at hz
  exact h.out z hz.2
 ·rw [mHas_mset] at hz ⊢
  rw [mGet_mset]
  by_cases hzx : z = x
  ·simp [hzx]
  ·simp only [hzx, decide_false, Bool.false_or] at hz
   simp [hzx, h.has z hz]
 ·rw [mHas_mset] at hz
  rw [mGet_mset]
  by_cases hzx : z = x
  ·simp [hzx]
  ·simp only [hzx, decide_false, Bool.false_or] at hz
   simp [hzx, h.le z hz]
 ·rw [mHas_mset] at hz
  rw [mGet_mset]
  by_cases hzx : z = x
  ·simp [hzx]
  ·simp only [hzx, decide_false, Bool.false_or] at hz
   simp [hzx, h.step z hz]
 ·rw [mHas_mset] at hz
  rw [mGet_mset]
  by_cases hzx : z = x
  ·simp [hzx, e]
  ·simp only [hzx, decide_false, Bool.false_or] at hz
   simpa [hzx] using h.fix z hz
 ·rw [mHas_mset] at hz ⊢
  rw [mGet_mset]
  by_cases hzx : z = x
  ·simp [hzx, e]
  ·simp only [hzx, decide_false, Bool.false_or] at hz
   obtain ⟨h1, h2, h3⟩ := h.low z hz
   simp [h1, h2, hne _ h2, h3]
theorem UpM.short {m : MapI} {r : Int → Int} (h : UpM m r) {x : Int} (hx : mHas m x = true) : UpM (mset m x (r x)) r := by
 obtain ⟨l1, l2, l3⟩ := h.low x hx
 have hi := h.idem x
 have hh : ∀ z, mHas (mset m x (r x)) z = mHas m z := fun z => by
  rw [mHas_mset]; by_cases e : z = x <;> simp [e, hx]
 refine ⟨fun z hz => ?_, fun z hz => ?_, fun z hz => ?_, fun z hz => ?_, fun z hz => ?_, fun z hz => ?_, mset_nodup h.nd⟩
 ·rw [hh] at hz; exact h.out z hz
 ·rw [hh] at hz ⊢
  rw [mGet_mset]
  split
  ·exact l2
  ·exact h.has z hz
 ·rw [hh] at hz
  rw [mGet_mset]
  split
  ·next e => rw [e]; exact l1
  ·exact h.le z hz
 ·rw [hh] at hz
  rw [mGet_mset]
  split
  ·next e => rw [e]; exact hi
  ·exact h.step z hz
 ·rw [hh] at hz
  rw [mGet_mset]
  split
  ·next e => intro e2; rw [e] at e2 ⊢; exact e2
  ·exact h.fix z hz
 ·rw [hh] at hz ⊢
  obtain ⟨h1, h2, h3⟩ := h.low z hz
  refine ⟨h1, h2, ?_⟩
  rw [mGet_mset]
  split
  ·next e => rw [← e]; exact h.idem z
  ·exact h3
theorem UpM.join {m : MapI} {r : Int → Int} (h : UpM m r) {x y : Int} (hx : mHas m x = true) (hy : mHas m y = true) (hne : r x ≠ r y) : UpM (mset m (max (r x) (r y)) (min (r x) (r y))) (jn r x y) := by
 obtain ⟨a1, a2, a3⟩ := h.low x hx
 obtain ⟨b1, b2, b3⟩ := h.low y hy
 have ia := h.idem x
 have ib := h.idem y
 have hM : ∃ M N, max (r x) (r y) = M ∧ min (r x) (r y) = N ∧ N < M ∧ mHas m M = true ∧ mHas m N = true ∧ mGet m M = M ∧ mGet m N = N ∧ r M = M ∧ r N = N := by
  by_cases hl : r x ≤ r y
  ·exact ⟨r y, r x, Int.max_eq_right hl, Int.min_eq_left hl, by omega, b2, a2, b3, a3, ib, ia⟩
  ·have hl' : r y ≤ r x := by omega
   exact ⟨r x, r y, Int.max_eq_left hl', Int.min_eq_right hl', by omega, a2, b2, a3, b3, ia, ib⟩
 obtain ⟨M, N, eM, eN, hlt, hM, hN, gM, gN, rM, rN⟩ := hM
 have ej : ∀ z, jn r x y z = if r z = M then N else r z := fun z => by unfold jn; rw [eM, eN]
 rw [eM, eN]
 have hh : ∀ z, mHas (mset m M N) z = mHas m z := fun z => by
  rw [mHas_mset]; by_cases e : z = M <;> simp [e, hM]
 refine ⟨fun z hz => ?_, fun z hz => ?_, fun z hz => ?_, fun z hz => ?_, fun z hz => ?_, fun z hz => ?_, mset_nodup h.nd⟩
 ·rw [hh] at hz
  have : r z = z := h.out z hz
  rw [ej, this, if_neg]
  rintro rfl
  rw [hM] at hz; cases hz
 ·rw [hh] at hz ⊢
  rw [mGet_mset]
  split
  ·exact hN
  ·exact h.has z hz
 ·rw [hh] at hz
  rw [mGet_mset]
  split
  ·omega
  ·exact h.le z hz
 ·rw [hh] at hz
  rw [mGet_mset, ej, ej]
  split
  ·next e => rw [e, rN, rM, if_pos rfl]; simp
  ·rw [h.step z hz]
 ·rw [hh] at hz
  rw [mGet_mset, ej]
  split
  ·next e => intro e2; omega
  ·next e =>
   intro e2
   have := h.fix z hz e2
   rw [this, if_neg e]
 ·rw [hh] at hz
  rw [hh, ej, mGet_mset]
  obtain ⟨h1, h2, h3⟩ := h.low z hz
  by_cases e : r z = M
  ·rw [if_pos e, if_neg (by omega)]
   exact ⟨by omega, hN, gN⟩
  ·rw [if_neg e, if_neg e]
   exact ⟨h1, h2, h3⟩
def hd (c : List Int) : Int := c.headD 0
structure IsPt (P : Int → Int → Prop) (D : Int → Prop) (out : List (List Int)) : Prop where
 asd : ∀ c ∈ out, c ≠ [] ∧ Asd c
 dj : out.Pairwise fun c d => ∀ z ∈ c, z ∉ d
 dom : ∀ a, D a ↔ ∃ c ∈ out, a ∈ c
 con : ∀ c ∈ out, ∀ a ∈ c, ∀ b ∈ c, Con P a b
 cl : ∀ c ∈ out, ∀ a b, P a b → (a ∈ c ↔ b ∈ c)
abbrev HdL (out : List (List Int)) : Prop := out.Pairwise fun c d => hd c < hd d
structure Part (P : Int → Int → Prop) (D : Int → Prop) (out : List (List Int)) : Prop extends IsPt P D out where
 srt : HdL out
theorem IsPt.cls {P : Int → Int → Prop} {D : Int → Prop} {out : List (List Int)} (h : IsPt P D out) {c : List Int} (hc : c ∈ out) {a b : Int} (hab : Con P a b) : a ∈ c ↔ b ∈ c :=
 hab.lift (E := fun a b => a ∈ c ↔ b ∈ c) (fun _ => .rfl) (fun _ _ h => h.symm) (fun _ _ _ h1 h2 => h1.trans h2) (h.cl c hc)
theorem IsPt.mem {P : Int → Int → Prop} {D : Int → Prop} {out : List (List Int)} (h : IsPt P D out) {c : List Int} (hc : c ∈ out) {a : Int} (ha : a ∈ c) (b : Int) : b ∈ c ↔ Con P a b :=
 ⟨fun hb => h.con c hc a ha b hb, fun hb => (h.cls hc hb).1 ha⟩
theorem hd_mem {c : List Int} (h : c ≠ []) : hd c ∈ c := by
 cases c with
 | nil => exact absurd rfl h
 | cons a c => exact List.mem_cons_self ..
theorem hd_le {c : List Int} (h : Asd c) {a : Int} (ha : a ∈ c) : hd c ≤ a := by
 cases c with
 | nil => exact absurd ha (by simp)
 | cons x c =>
  rcases List.mem_cons.1 ha with rfl | ha
  ·exact Int.le_refl _
  ·exact Int.le_of_lt ((List.pairwise_cons.1 h).1 a ha)
theorem IsPt.congr {P Q : Int → Int → Prop} {D E : Int → Prop} {out : List (List Int)} (h : IsPt P D out) (hP : ∀ a b, Con P a b ↔ Con Q a b) (hD : ∀ a, D a ↔ E a) : IsPt Q E out :=
 ⟨h.asd, h.dj, fun a => (hD a).symm.trans (h.dom a), fun c hc a ha b hb => (hP _ _).1 (h.con c hc a ha b hb), fun c hc a b hab => h.cls hc ((hP _ _).2 (.of hab))⟩
theorem Part.congr {P Q : Int → Int → Prop} {D E : Int → Prop} {out : List (List Int)} (h : Part P D out) (hP : ∀ a b, Con P a b ↔ Con Q a b) (hD : ∀ a, D a ↔ E a) : Part Q E out :=
 { toIsPt := h.toIsPt.congr hP hD, srt := h.srt }
theorem IsPt.hd_iff {P : Int → Int → Prop} {D : Int → Prop} {out : List (List Int)} (h : IsPt P D out) (z : Int) : z ∈ out.map hd ↔ D z ∧ ∀ b, Con P z b → z ≤ b := by
 rw [List.mem_map]
 constructor
 ·rintro ⟨c, hc, rfl⟩
  obtain ⟨hn, ha⟩ := h.asd c hc
  refine ⟨(h.dom _).2 ⟨c, hc, hd_mem hn⟩, fun b hb => hd_le ha ((h.cls hc hb).1 (hd_mem hn))⟩
 ·rintro ⟨hD, hm⟩
  obtain ⟨c, hc, hz⟩ := (h.dom z).1 hD
  obtain ⟨hn, ha⟩ := h.asd c hc
  refine ⟨c, hc, Int.le_antisymm (hd_le ha hz) (hm _ (h.con c hc z hz _ (hd_mem hn)))⟩
theorem Part.uniq {P : Int → Int → Prop} {D : Int → Prop} {o1 o2 : List (List Int)} (h1 : Part P D o1) (h2 : Part P D o2) : o1 = o2 := by
 have hh : o1.map hd = o2.map hd := asd_ext (List.pairwise_map.2 h1.srt) (List.pairwise_map.2 h2.srt) fun z => by rw [h1.hd_iff, h2.hd_iff]
 have same : ∀ c ∈ o1, ∀ d ∈ o2, hd c = hd d → c = d := fun c hc d hd' e => by
  obtain ⟨n1, a1⟩ := h1.asd c hc
  obtain ⟨n2, a2⟩ := h2.asd d hd'
  refine asd_ext a1 a2 fun z => ?_
  rw [h1.mem hc (hd_mem n1), h2.mem hd' (hd_mem n2), e]
 have hl : o1.length = o2.length := by have := congrArg List.length hh; simpa using this
 refine List.ext_getElem hl fun i i1 i2 => same _ (List.getElem_mem i1) _ (List.getElem_mem i2) ?_
 have := congrArg (fun l => l[i]?) hh
 simpa [List.getElem?_map, List.getElem?_eq_getElem i1, List.getElem?_eq_getElem i2] using this
def canon (r : Int → Int) (ks : List Int) : List (List Int) := (ks.filter fun x => r x = x).map fun h => ks.filter fun z => r z = h
theorem canon_part {r : Int → Int} {ks : List Int} {P : Int → Int → Prop} (hs : Asd ks) (hle : ∀ z, r z ≤ z) (hi : ∀ z, r (r z) = r z) (hk : ∀ z ∈ ks, r z ∈ ks) (hc : ∀ a b, r a = r b ↔ Con P a b) (hP : ∀ a b, P a b → (a ∈ ks ↔ b ∈ ks)) : Part P (· ∈ ks) (canon r ks) := by
 have key : ∀ h ∈ ks.filter (fun x => decide (r x = x)), h ∈ ks ∧ r h = h := fun h hh => by simpa using List.mem_filter.1 hh
 have kh : ∀ h ∈ ks.filter (fun x => decide (r x = x)), hd (ks.filter fun z => decide (r z = h)) = h := fun h hh => by
  obtain ⟨h1, h2⟩ := key h hh
  have hm : h ∈ ks.filter fun z => decide (r z = h) := List.mem_filter.2 ⟨h1, by simpa using h2⟩
  have ha : Asd (ks.filter fun z => decide (r z = h)) := hs.filter _
  refine Int.le_antisymm (hd_le ha hm) ?_
  have := hd_mem (c := ks.filter fun z => decide (r z = h)) (List.ne_nil_of_mem hm)
  have := (List.mem_filter.1 this).2
  have e : r (hd (ks.filter fun z => decide (r z = h))) = h := of_decide_eq_true this
  have := hle (hd (ks.filter fun z => decide (r z = h)))
  omega
 refine { asd := fun c hc' => ?_, dj := ?_, dom := fun a => ?_, con := fun c hc' a ha b hb => ?_, cl := fun c hc' a b hab => ?_, srt := ?_ }
 ·obtain ⟨h, hh, rfl⟩ := List.mem_map.1 hc'
  obtain ⟨h1, h2⟩ := key h hh
  exact ⟨List.ne_nil_of_mem (List.mem_filter.2 ⟨h1, by simpa using h2⟩ : h ∈ _), hs.filter _⟩
 ·refine List.pairwise_map.2 ((hs.filter _).imp ?_)
  intro a b hab z h1 h2
  have e1 := of_decide_eq_true (List.mem_filter.1 h1).2
  have e2 := of_decide_eq_true (List.mem_filter.1 h2).2
  omega
 ·constructor
  ·intro ha
   exact ⟨_, List.mem_map.2 ⟨r a, List.mem_filter.2 ⟨hk a ha, by simpa using hi a⟩, rfl⟩, List.mem_filter.2 ⟨ha, by simp⟩⟩
  ·rintro ⟨c, hc', ha⟩
   obtain ⟨h, hh, rfl⟩ := List.mem_map.1 hc'
   exact (List.mem_filter.1 ha).1
 ·obtain ⟨h, hh, rfl⟩ := List.mem_map.1 hc'
  have e1 := of_decide_eq_true (List.mem_filter.1 ha).2
  have e2 := of_decide_eq_true (List.mem_filter.1 hb).2
  exact (hc a b).1 (e1.trans e2.symm)
 ·obtain ⟨h, hh, rfl⟩ := List.mem_map.1 hc'
  have e := (hc a b).2 (.of hab)
  rw [List.mem_filter, List.mem_filter, e, hP a b hab]
 ·refine List.pairwise_map.2 (List.Pairwise.imp_of_mem ?_ (hs.filter fun x => decide (r x = x)))
  intro a b ha hb hab
  rw [kh a ha, kh b hb]
  exact hab
theorem IsPt.add {P Q : Int → Int → Prop} {D E : Int → Prop} {out : List (List Int)} (h : IsPt P D out) {x y : List Int} (hPD : ∀ a b, P a b → D a ∧ D b) (hx : x ≠ []) (hy : Asd y)
  (hmem : ∀ z, z ∈ y ↔ z ∈ x ∨ ∃ c ∈ out, (∃ u ∈ c, u ∈ x) ∧ z ∈ c) (hQ : ∀ a b, Q a b ↔ P a b ∨ (a ∈ x ∧ b ∈ x)) (hE : ∀ a, E a ↔ D a ∨ a ∈ x)
  {rest : List (List Int)} (hrest : rest = out.filter fun c => !(c.any fun u => x.contains u)) : IsPt Q E (rest ++ [y]) := by
 have hr : ∀ c, c ∈ rest ↔ c ∈ out ∧ ∀ u ∈ c, u ∉ x := fun c => by
  rw [hrest, List.mem_filter]; simp
 have up : ∀ {a b}, Con P a b → Con Q a b := fun h => h.mono fun a b h => .of ((hQ a b).2 (.inl h))
 have inx : ∀ z ∈ y, ∃ u ∈ x, Con Q u z := fun z hz => by
  rcases (hmem z).1 hz with hz | ⟨c, hc, ⟨u, hu, hux⟩, hzc⟩
  ·exact ⟨z, hz, .rfl z⟩
  ·exact ⟨u, hux, up (h.con c hc u hu z hzc)⟩
 refine ⟨fun c hc => ?_, ?_, fun a => ?_, fun c hc a ha b hb => ?_, fun c hc a b hab => ?_⟩
 ·rcases List.mem_append.1 hc with hc | hc
  ·exact h.asd c ((hr c).1 hc).1
  ·rw [List.mem_singleton.1 hc]
   obtain ⟨u, x', rfl⟩ := List.exists_cons_of_ne_nil hx
   exact ⟨List.ne_nil_of_mem ((hmem u).2 (.inl (List.mem_cons_self ..))), hy⟩
 ·refine List.pairwise_append.2 ⟨?_, by simp, fun c hc d hd z hz hzd => ?_⟩
  ·rw [hrest]; exact h.dj.filter _
  ·rw [List.mem_singleton.1 hd] at hzd
   obtain ⟨hc1, hc2⟩ := (hr c).1 hc
   rcases (hmem z).1 hzd with hzx | ⟨d', hd', ⟨u, hu, hux⟩, hzd'⟩
   ·exact hc2 z hz hzx
   ·have : u ∈ c := (h.cls hc1 (h.con d' hd' z hzd' u hu)).1 hz
    exact hc2 u this hux
 ·rw [hE a, h.dom a]
  constructor
  ·rintro (⟨c, hc, ha⟩ | ha)
   ·by_cases hm : ∃ u ∈ c, u ∈ x
    ·exact ⟨y, by simp, (hmem a).2 (.inr ⟨c, hc, hm, ha⟩)⟩
    ·exact ⟨c, List.mem_append.2 (.inl ((hr c).2 ⟨hc, fun u hu hux => hm ⟨u, hu, hux⟩⟩)), ha⟩
   ·exact ⟨y, by simp, (hmem a).2 (.inl ha)⟩
  ·rintro ⟨c, hc, ha⟩
   rcases List.mem_append.1 hc with hc | hc
   ·exact .inl ⟨c, ((hr c).1 hc).1, ha⟩
   ·rw [List.mem_singleton.1 hc] at ha
    rcases (hmem a).1 ha with ha | ⟨d, hd, _, had⟩
    ·exact .inr ha
    ·exact .inl ⟨d, hd, had⟩
 ·rcases List.mem_append.1 hc with hc | hc
  ·exact up (h.con c ((hr c).1 hc).1 a ha b hb)
  ·rw [List.mem_singleton.1 hc] at ha hb
   obtain ⟨u, hu, h1⟩ := inx a ha
   obtain ⟨v, hv, h2⟩ := inx b hb
   exact .trans (.symm h1) (.trans (.of ((hQ u v).2 (.inr ⟨hu, hv⟩))) h2)
 ·rcases List.mem_append.1 hc with hc | hc
  ·obtain ⟨hc1, hc2⟩ := (hr c).1 hc
   rcases (hQ a b).1 hab with hp | ⟨ha, hb⟩
   ·exact h.cl c hc1 a b hp
   ·exact ⟨fun hac => absurd ha (hc2 a hac), fun hbc => absurd hb (hc2 b hbc)⟩
  ·rw [List.mem_singleton.1 hc]
   rcases (hQ a b).1 hab with hp | ⟨ha, hb⟩
   ·have hcl : ∀ {a b}, Con P a b → (∃ c ∈ out, a ∈ c) → a ∈ y → b ∈ y := fun {a b} hp hDa ha => by
     rcases (hmem a).1 ha with hax | ⟨d, hd, hm, had⟩
     ·obtain ⟨c, hc, hac⟩ := hDa
      exact (hmem b).2 (.inr ⟨c, hc, ⟨a, hac, hax⟩, (h.cls hc hp).1 hac⟩)
     ·exact (hmem b).2 (.inr ⟨d, hd, hm, (h.cls hd hp).1 had⟩)
    obtain ⟨da, db⟩ := hPD a b hp
    exact ⟨hcl (.of hp) ((h.dom a).1 da), hcl (.symm (.of hp)) ((h.dom b).1 db)⟩
   ·exact ⟨fun _ => (hmem b).2 (.inl hb), fun _ => (hmem a).2 (.inl ha)⟩
end Go.Sk

namespace Go.Sk
open Go
set_option linter.unusedVariables false
section
variable {α σ σ1 σ2 σ3 τ : Type} [Inhabited α]
theorem idx?_at (pre post : List α) (x : α) : idx? (pre ++ x :: post) (pre.length : Int) = Option.some x := by
 rw [idx?_eq (by omega) (by simp only [List.length_append, List.length_cons]; omega), idx_nat _ _ (by simp)]
 simp
private theorem ea_aux {l : List α} {S : Type} {body : S × Int → Option ((S × Int) ⊕ τ)} {Q : τ → Prop} {F : Nat} {s0 : S} (I : List α → S → Prop) (hF : l.length < F) (hL : l.length ≤ 9223372036854775807) (h0 : I [] s0)
  (step : ∀ pre x post s, l = pre ++ x :: post → idx? l (pre.length : Int) = Option.some x → I pre s → Yld (body (s, (pre.length : Int))) fun o => (∃ s', o = .inl (s', IntKind.i64.wrap ((pre.length : Int) + 1)) ∧ I (pre ++ [x]) s') ∨ ∃ t, o = .inr t ∧ Q t)
  (fin : ∀ s, I l s → Yld (body (s, (l.length : Int))) fun o => ∃ t, o = .inr t ∧ Q t) : Yld (iter F body (s0, 0)) Q := by
 refine Yld.rounds (n := l.length) (I := fun k s => k ≤ l.length ∧ s.2 = (k : Int) ∧ I (l.take k) s.1) hF ⟨Nat.zero_le _, rfl, by simpa using h0⟩ ?_
 rintro k ⟨s, i⟩ hk ⟨hk', hi, hI⟩
 simp only at hi hI
 subst hi
 by_cases hc : k < l.length
 ·have e : l = l.take k ++ l[k] :: l.drop (k + 1) := by rw [← List.drop_eq_getElem_cons hc, List.take_append_drop]
  have hl : (l.take k).length = k := by rw [List.length_take]; omega
  have hx : idx? l ((l.take k).length : Int) = Option.some l[k] := by
   rw [hl, idx?_eq (by omega) (by omega), idx_nat _ _ hc]
  have h := step (l.take k) l[k] (l.drop (k + 1)) s e hx hI
  rw [hl] at h
  refine h.mono fun o ho => ?_
  rcases ho with ⟨s', rfl, h⟩ | h
  ·refine .inl ⟨_, rfl, ⟨by omega, ?_, ?_⟩, hc⟩
   ·show IntKind.i64.wrap ((k : Int) + 1) = _
    rw [wi64' (by omega) (by omega)]; push_cast; rfl
   ·rw [List.take_succ_eq_append_getElem hc]; exact h
  ·exact .inr h
 ·have : k = l.length := by omega
  subst this
  rw [List.take_length] at hI
  refine (fin s hI).mono fun o ho => .inr ho
theorem Yld.ea1 {l : List α} {A : Int → Option (Int ⊕ τ)} {g : τ} {Q : τ → Prop} {F : Nat} (I : List α → Prop) (hF : l.length < F) (hL : l.length ≤ 9223372036854775807) (h0 : I [])
  (step : ∀ pre x post, l = pre ++ x :: post → idx? l (pre.length : Int) = Option.some x → I pre → Yld (A (pre.length : Int)) fun o => (o = .inl (IntKind.i64.wrap ((pre.length : Int) + 1)) ∧ I (pre ++ [x])) ∨ ∃ t, o = .inr t ∧ Q t)
  (fin : I l → Q g) : Yld (iter F (fun i => if decide (i < (l.length : Int)) = true then A i else Option.some (.inr g)) 0) Q := by
 refine Yld.rounds (n := l.length) (I := fun k s => k ≤ l.length ∧ s = (k : Int) ∧ I (l.take k)) hF ⟨Nat.zero_le _, rfl, by simpa using h0⟩ ?_
 rintro k _ hk ⟨hk', rfl, hI⟩
 by_cases hc : k < l.length
 ·have e : l = l.take k ++ l[k] :: l.drop (k + 1) := by rw [← List.drop_eq_getElem_cons hc, List.take_append_drop]
  have hl : (l.take k).length = k := by rw [List.length_take]; omega
  have hx : idx? l ((l.take k).length : Int) = Option.some l[k] := by
   rw [hl, idx?_eq (by omega) (by omega), idx_nat _ _ hc]
  have h := step (l.take k) l[k] (l.drop (k + 1)) e hx hI
  rw [hl] at h
  rw [if_pos (by simpa using hc)]
  refine h.mono fun o ho => ?_
  rcases ho with ⟨rfl, h⟩ | h
  ·refine .inl ⟨_, rfl, ⟨by omega, ?_, ?_⟩, hc⟩
   ·rw [wi64' (by omega) (by omega)]; push_cast; rfl
   ·rw [List.take_succ_eq_append_getElem hc]; exact h
  ·exact .inr h
 ·have : k = l.length := by omega
  subst this
  rw [List.take_length] at hI
  rw [if_neg (by simp)]
  exact Yld.some (.inr ⟨_, rfl, fin hI⟩)
theorem Yld.ea2 {l : List α} {A : σ → Int → Option ((σ × Int) ⊕ τ)} {G : σ → τ} {Q : τ → Prop} {F : Nat} {s0 : σ} (I : List α → σ → Prop) (hF : l.length < F) (hL : l.length ≤ 9223372036854775807) (h0 : I [] s0)
  (step : ∀ pre x post s, l = pre ++ x :: post → idx? l (pre.length : Int) = Option.some x → I pre s → Yld (A s (pre.length : Int)) fun o => (∃ s', o = .inl (s', IntKind.i64.wrap ((pre.length : Int) + 1)) ∧ I (pre ++ [x]) s') ∨ ∃ t, o = .inr t ∧ Q t)
  (fin : ∀ s, I l s → Q (G s)) : Yld (iter F (un2 fun s i => if decide (i < (l.length : Int)) = true then A s i else Option.some (.inr (G s))) (s0, 0)) Q := by
 refine ea_aux I hF hL h0 (fun pre x post s e hx hI => ?_) fun s hI => ?_
 ·simp only [un2]
  rw [if_pos (by rw [e]; simp; omega)]
  exact step pre x post s e hx hI
 ·simp only [un2]
  rw [if_neg (by simp)]
  exact Yld.some ⟨_, rfl, fin s hI⟩
theorem iter_conj {S S' τ' : Type} {body : S → Option (S ⊕ τ')} {body' : S' → Option (S' ⊕ τ')} (f : S → S') (h : ∀ s, body' (f s) = (body s).map (alt2 (fun s => .inl (f s)) .inr)) : ∀ F s, iter F body' (f s) = iter F body s
 | 0, s => rfl
 | F + 1, s => by
  rw [iter_succ, iter_succ, h]
  cases body s with
  | none => rfl
  | some o =>
   cases o with
   | inl s' => exact iter_conj f h F s'
   | inr t => rfl
private theorem sum_id {A B : Type} (o : Option (A ⊕ B)) : o.map (alt2 (fun s => Sum.inl s) Sum.inr) = o := by
 cases o with
 | none => rfl
 | some o => cases o <;> rfl
theorem Yld.ea3 {l : List α} {A : σ1 → σ2 → Int → Option ((σ1 × σ2 × Int) ⊕ τ)} {G : σ1 → σ2 → τ} {Q : τ → Prop} {F : Nat} {a0 : σ1} {b0 : σ2} (I : List α → σ1 → σ2 → Prop) (hF : l.length < F) (hL : l.length ≤ 9223372036854775807) (h0 : I [] a0 b0)
  (step : ∀ pre x post a b, l = pre ++ x :: post → idx? l (pre.length : Int) = Option.some x → I pre a b → Yld (A a b (pre.length : Int)) fun o => (∃ a' b', o = .inl (a', b', IntKind.i64.wrap ((pre.length : Int) + 1)) ∧ I (pre ++ [x]) a' b') ∨ ∃ t, o = .inr t ∧ Q t)
  (fin : ∀ a b, I l a b → Q (G a b)) : Yld (iter F (un3 fun a b i => if decide (i < (l.length : Int)) = true then A a b i else Option.some (.inr (G a b))) (a0, b0, 0)) Q := by
 have e := iter_conj (body := fun z : (σ1 × σ2) × Int => ((un3 fun a b i => if decide (i < (l.length : Int)) = true then A a b i else Option.some (.inr (G a b))) (z.1.1, z.1.2, z.2)).map (alt2 (fun s => .inl ((s.1, s.2.1), s.2.2)) .inr)) (body' := un3 fun a b i => if decide (i < (l.length : Int)) = true then A a b i else Option.some (.inr (G a b))) (fun z => (z.1.1, z.1.2, z.2)) (fun s => by
  rw [Option.map_map]; exact (Eq.trans (by congr 1; funext o; cases o <;> rfl) (sum_id _)).symm) F ((a0, b0), 0)
 rw [e]
 refine ea_aux (S := σ1 × σ2) (fun pre s => I pre s.1 s.2) hF hL h0 (fun pre x post s e hx hI => ?_) fun s hI => ?_
 ·simp only [un3]
  rw [if_pos (by rw [e]; simp; omega)]
  obtain ⟨o, ho, h⟩ := step pre x post s.1 s.2 e hx hI
  rw [ho]
  rcases h with ⟨a', b', rfl, h⟩ | ⟨t, rfl, h⟩
  ·exact Yld.some (.inl ⟨(a', b'), rfl, h⟩)
  ·exact Yld.some (.inr ⟨t, rfl, h⟩)
 ·simp only [un3]
  rw [if_neg (by simp)]
  exact Yld.some ⟨_, rfl, fin s.1 s.2 hI⟩
theorem Yld.ea4 {l : List α} {A : σ1 → σ2 → σ3 → Int → Option ((σ1 × σ2 × σ3 × Int) ⊕ τ)} {G : σ1 → σ2 → σ3 → τ} {Q : τ → Prop} {F : Nat} {a0 : σ1} {b0 : σ2} {c0 : σ3} (I : List α → σ1 → σ2 → σ3 → Prop) (hF : l.length < F) (hL : l.length ≤ 9223372036854775807) (h0 : I [] a0 b0 c0)
  (step : ∀ pre x post a b c, l = pre ++ x :: post → idx? l (pre.length : Int) = Option.some x → I pre a b c → Yld (A a b c (pre.length : Int)) fun o => (∃ a' b' c', o = .inl (a', b', c', IntKind.i64.wrap ((pre.length : Int) + 1)) ∧ I (pre ++ [x]) a' b' c') ∨ ∃ t, o = .inr t ∧ Q t)
  (fin : ∀ a b c, I l a b c → Q (G a b c)) : Yld (iter F (un4 fun a b c i => if decide (i < (l.length : Int)) = true then A a b c i else Option.some (.inr (G a b c))) (a0, b0, c0, 0)) Q := by
 have e := iter_conj (body := fun z : (σ1 × σ2 × σ3) × Int => ((un4 fun a b c i => if decide (i < (l.length : Int)) = true then A a b c i else Option.some (.inr (G a b c))) (z.1.1, z.1.2.1, z.1.2.2, z.2)).map (alt2 (fun s => .inl ((s.1, s.2.1, s.2.2.1), s.2.2.2)) .inr)) (body' := un4 fun a b c i => if decide (i < (l.length : Int)) = true then A a b c i else Option.some (.inr (G a b c))) (fun z => (z.1.1, z.1.2.1, z.1.2.2, z.2)) (fun s => by
  rw [Option.map_map]; exact (Eq.trans (by congr 1; funext o; cases o <;> rfl) (sum_id _)).symm) F ((a0, b0, c0), 0)
 rw [e]
 refine ea_aux (S := σ1 × σ2 × σ3) (fun pre s => I pre s.1 s.2.1 s.2.2) hF hL h0 (fun pre x post s e hx hI => ?_) fun s hI => ?_
 ·simp only [un4]
  rw [if_pos (by rw [e]; simp; omega)]
  obtain ⟨o, ho, h⟩ := step pre x post s.1 s.2.1 s.2.2 e hx hI
  rw [ho]
  rcases h with ⟨a', b', c', rfl, h⟩ | ⟨t, rfl, h⟩
  ·exact Yld.some (.inl ⟨(a', b', c'), rfl, h⟩)
  ·exact Yld.some (.inr ⟨t, rfl, h⟩)
 ·simp only [un4]
  rw [if_neg (by simp)]
  exact Yld.some ⟨_, rfl, fin s.1 s.2.1 s.2.2 hI⟩
theorem Yld.find {υ : Type} {l : List α} {c : α → Bool} {r : α → υ} {Q : Unit ⊕ υ → Prop} {F : Nat} (hF : l.length < F) (hL : l.length ≤ 9223372036854775807) (h1 : (∀ x ∈ l, c x = false) → Q (.inl ())) (h2 : ∀ pre x post, l = pre ++ x :: post → (∀ y ∈ pre, c y = false) → c x = true → Q (.inr (r x))) {A : Int → Option (Int ⊕ (Unit ⊕ υ))}
  (hA : ∀ (i : Int) x, idx? l i = Option.some x → A i = if c x = true then Option.some (.inr (.inr (r x))) else Option.some (.inl (IntKind.i64.wrap (i + 1)))) :
  Yld (iter F (fun i => if decide (i < (l.length : Int)) = true then A i else Option.some (.inr (.inl ()))) 0) Q := by
 refine Yld.ea1 (fun pre => ∀ x ∈ pre, c x = false) hF hL (by simp) (fun pre x post e hx hI => ?_) fun h => h1 h
 rw [hA _ x hx]
 refine Yld.ite (fun h => Yld.some (.inr ⟨_, rfl, h2 pre x post e hI h⟩)) fun h => Yld.some (.inl ⟨rfl, fun y hy => ?_⟩)
 rcases List.mem_append.1 hy with hy | hy
 ·exact hI y hy
 ·rw [List.mem_singleton.1 hy]; exact h
end
end Go.Sk

namespace Go.Sk
open Go
set_option linter.unusedVariables false
def Le {α : Type} (a b : Option α) : Prop := ∀ x, a = some x → b = some x
section
variable {α β γ σ τ : Type}
theorem Le.rfl (a : Option α) : Le a a := fun _ h => h
theorem Le.none (a : Option α) : Le Option.none a := fun _ h => by cases h
theorem Le.bind {a b : Option α} {k k' : α → Option β} (h : Le a b) (hk : ∀ x, Le (k x) (k' x)) : Le (a.bind k) (b.bind k') := fun y hy => by
 cases a with
 | none => cases hy
 | some x => rw [h x (Eq.refl _)]; exact hk x y hy
theorem Le.ite {c : Prop} [Decidable c] {a b a' b' : Option α} (h1 : Le a a') (h2 : Le b b') : Le (if c then a else b) (if c then a' else b') := by
 split
 ·exact h1
 ·exact h2
theorem Le.gcall [Inhabited α] {g : Bool} {a b : Option α} (h : Le a b) : Le (gcall g a) (gcall g b) := by
 unfold Go.Sk.gcall
 split
 ·exact h
 ·exact Le.rfl _
theorem Le.letN {a : γ} {k k' : γ → Option α} (h : ∀ a, Le (k a) (k' a)) : Le (Go.Sk.letN a k) (Go.Sk.letN a k') := h a
theorem Le.alt2 {f f' : α → Option γ} {g g' : β → Option γ} (h1 : ∀ x, Le (f x) (f' x)) (h2 : ∀ x, Le (g x) (g' x)) (z : α ⊕ β) : Le (Go.Sk.alt2 f g z) (Go.Sk.alt2 f' g' z) := by
 cases z with
 | inl x => exact h1 x
 | inr x => exact h2 x
theorem Le.iter {F F' : Nat} (hF : F ≤ F') {f f' : σ → Option (σ ⊕ τ)} (h : ∀ s, Le (f s) (f' s)) (s : σ) : Le (Go.Sk.iter F f s) (Go.Sk.iter F' f' s) := by
 induction F generalizing F' s with
 | zero => exact Le.none _
 | succ F ih =>
  obtain ⟨F', rfl⟩ : ∃ g, F' = g + 1 := ⟨F' - 1, by omega⟩
  rw [iter_succ, iter_succ]
  exact Le.bind (h s) (Le.alt2 (fun x => ih (by omega) x) fun x => Le.rfl _)
theorem Le.yld {a b : Option α} {Q : α → Prop} (h : Le a b) (ha : Yld a Q) : Yld b Q := by
 obtain ⟨x, e, hq⟩ := ha
 exact ⟨x, h x e, hq⟩
end
end Go.Sk

