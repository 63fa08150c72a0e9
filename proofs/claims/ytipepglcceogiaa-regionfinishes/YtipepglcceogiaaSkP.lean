/- The framework, part P: slices.overlaps at a row of one's own. -/
import Derived.Test.YtipepglcceogiaaSkO
namespace Go.Sk
set_option linter.unusedSimpArgs false
set_option linter.unusedVariables false
open Go Go.BigFrame
theorem run_overlaps_own {P : Program} (w : World) (tS tR e : TypeId) (ht : P.underlying tS = some (.slice e)) (size : Nat) (hz : ∀ w, (Go.sizeOf e).run P w = .ok size w)
    (a b : Addr) (la ca lb cb : Nat) (hne : a.block ≠ b.block) (tA : TypeId) (kA : Nat) (cur : Array Value) (T : TypeId)
    (hsa : w.shape? a.block = some (tA, kA)) (hb : w.heap[b.block]? = some (.cells cur T (0, 0))) (hkB : cur.size ≠ 0) (hkA : kA ≠ 0) :
    (Extern.SlicesOverlaps.overlaps #[tS, tS] #[tR] #[.slice (some a) la ca, .slice (some b) lb cb]).run P w = .ok (.bool false) w := by
  have hnb : (a.block != b.block) = true := by simpa using hne
  have hnb' : (a.block == b.block) = false := by simpa using hne
  have hsb : w.shape? b.block = some (T, cur.size) := by simp [World.shape?, hb]
  have hfb : w.frozen? b = false := by simp [World.frozen?, hb]
  have hfb2 : w.frozen? { block := b.block, off := cur.size } = false := by simp [World.frozen?, hb]
  change Sem.run P (α := Value) (do
    let some t := (#[tS, tS] : Array TypeId)[0]? | stuck "slices.overlaps: no parameter types"
    let .slice elem ← underlying t | stuck "slices.overlaps: slice type expected"
    let size ← sizeOf elem
    match (some a : Option Addr), (some b : Option Addr) with
    | some a, some b =>
      if la = 0 ∨ lb = 0 ∨ size = 0 then pure (Value.bool false)
      else if a.block != b.block && (← frozen a) && (← frozen b) then unsupported .addressObserved
      else do
        if a.block != b.block then do
          noView a; noView b
          if ← mayBeOne a b then return Value.bool ((← choose (.extern "sameAddr.stringBytes" 2)) == 1)
        pure (Value.bool (a.block == b.block && a.off < b.off + lb * size && b.off < a.off + la * size))
    | _, _ => pure (Value.bool false)) w = _
  by_cases h0 : la = 0 ∨ lb = 0 ∨ size = 0
  · simp [run_underlying ht, hz, h0]
  · cases hc : cur.size with
    | zero => exact absurd hc hkB
    | succ kB =>
      rw [hc] at hsb hfb2
      cases kA with
      | zero => exact absurd rfl hkA
      | succ kA =>
      cases hfa : w.frozen? a <;> cases hfe : w.frozen? { block := a.block, off := kA + 1 } <;>
        simp [run_underlying ht, hz, h0, hnb, hnb', frozen, noView, viewAt, mayBeOne, stringish, shape, Sem.run, hsa, hsb, hfa, hfe, hfb, hfb2]

/-- a function of the model's own -/
structure Ext (P : Program) (f : FuncId) (e : Array Value → Sem Value) : Prop where
  ok : ∃ fn, P.funcs[f]? = some fn ∧ (fn.name == "runtime.NumGoroutine") = false ∧ fn.body.isNone = true ∧ Extern.findNext fn = none ∧ Extern.find fn = some e
theorem Ext.run {P : Program} {f : FuncId} {e : Array Value → Sem Value} (h : Ext P f e) (args : Array Value) (w : World) : (callFunc f args).run P w = ((e args).run P w).andThen fun v w' => .ok (.value v) w' := by
  obtain ⟨fn, h1, h2, h3, h4, h5⟩ := h.ok
  exact run_callFunc_extern h1 h2 h3 h4 h5 args w
section
variable {P : Program} {E : Env} {n : Sh} {s s' : St} {dst : Option Nat} {t ty yt : TypeId} {pos : String} {after : Array Edge} {g : Option (Nat × Bool)} {x y c : Operand} {ats : Array TypeId}
theorem op_overlaps {f : FuncId} {tR : TypeId} {k size bytes lo len cap : Nat} {T e : TypeId} {zs : List CP} {es news : List (List CP)} (hf : Ext P f (Extern.SlicesOverlaps.overlaps #[t, t] #[tR])) (ht : TySl P t e size bytes zs) (hne : 0 < news.length) (hx : s.ev x = some (.b (.one (.sl size news)))) (hy : s.ev y = some (.b (.part k size lo len cap))) (hk : lk s.own k = some (.row T size es)) (hes : 0 < es.length) :
    Op1 P E n ⟨dst, .call ⟨.value (.func f), #[x, y], ats⟩, ty, pos, after, g⟩ s (s.put n dst (B false)) :=
  Op1.val (o := ⟨dst, .call ⟨.value (.func f), #[x, y], ats⟩, ty, pos, after, g⟩) fun ac w h ρ hw hs => by
    obtain ⟨inf, z, hi, hsz, _⟩ := ht.info
    obtain ⟨b, nn, hρ, hv, hle⟩ := (ev_rel hs hy : BV.rel h ρ (.part k size lo len cap) _)
    obtain ⟨hu, hz, cap', cur, h1, h2, h3, h4, h5, h6⟩ := row_some hw hk hρ
    obtain ⟨hun, _, hsl⟩ := (ev_rel hs hx : (CP.sl size news).rel h _)
    refine ⟨.bool false, ?_, rfl⟩
    rw [show execOp ac.eval (⟨dst, .call ⟨.value (.func f), #[x, y], ats⟩, ty, pos, after, g⟩ : Oper) = callFunc f (#[] ++ (#[x, y] : Array Operand).map ac.eval ++ #[]) from rfl, hf.run]
    rcases hsl with ⟨_, he0⟩ | ⟨sb, so, sc, hxv, _, _, hrd⟩
    · rw [he0] at hne; simp at hne
    · have hargs : (#[] ++ (#[x, y] : Array Operand).map ac.eval ++ #[]) = #[.slice (some ⟨sb, so, none⟩) news.length sc, .slice (some ⟨b, lo * size, none⟩) len (cap - lo)] := by
        simp [hxv, hv]
      rw [hargs]
      have hfl : 0 < news.flatten.length := by rw [flatten_len hun]; exact Nat.mul_pos hne hz
      obtain ⟨u, hu1, _⟩ := hrd 0 _ (List.getElem?_eq_getElem hfl)
      have hcell := hw.agree _ _ _ hu1
      have hne' : sb ≠ b := fun e' => by
        have := ((hw.owned k _ (lk_mem hk)).2.1 b (by rw [hρ]; rfl)).2 (so + 0)
        rw [e'] at hu1; rw [hu1] at this; simp at this
      have hsa : ∃ tA kA, w.shape? sb = some (tA, kA) ∧ kA ≠ 0 := by
        simp only [World.cell?] at hcell
        split at hcell
        · rename_i c' t' fr' hh
          refine ⟨t', c'.size, by simp [World.shape?, hh], fun e0 => ?_⟩
          have : c' = #[] := Array.eq_empty_of_size_eq_zero e0
          simp [this] at hcell
        · simp at hcell
      obtain ⟨tA, kA, hsa1, hsa2⟩ := hsa
      have hc0 : cur.size ≠ 0 := by
        rw [h5]
        have : 0 < cap' * size := Nat.mul_pos (by omega) hz
        omega
      rw [run_overlaps_own w t tR e ht.und size (fun w => by rw [run_sizeOf (i := inf) hi, hsz]) ⟨sb, so, none⟩ ⟨b, lo * size, none⟩ _ _ _ _ hne' tA kA cur T hsa1 h2 hc0 hsa2]
      rfl
end
end Go.Sk
