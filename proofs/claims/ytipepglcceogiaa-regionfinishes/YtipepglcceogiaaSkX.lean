/- The framework, part X: bytes made into a string; bits masked; a step behind which a box's cell is forgotten. -/
import Derived.Test.YtipepglcceogiaaSkW
import Derived.Laws.BytesArg
namespace Go.Sk
set_option linter.unusedSimpArgs false
set_option linter.unusedVariables false
open Go Go.BigFrame
def toStr (l : List Int) : Str := l.map fun n => UInt8.ofNat n.toNat
section
variable {P : Program} {E : Env} {n : Sh} {s s2 : St} {dst : Option Nat} {t ty yt : TypeId} {pos : String} {after : Array Edge} {g : Option (Nat × Bool)} {x y c : Operand} {k : IntKind} {a b : Int} {ops : Array Oper} {o : Oper}
theorem op_conv_bytes {src d e : TypeId} {xs : List Int} (hsrc : P.underlying src = some (.slice e)) (he : P.underlying e = some (.int .u8)) (hd : P.underlying d = some .string) (hx : s.ev x = some (.b (.one (.sl 1 (xs.map (eK .u8)))))) :
    Op1 P E n ⟨dst, .convert src d x, ty, pos, after, g⟩ s (s.put n dst (.b (.one (.str (toStr xs))))) :=
  Op1.val (o := ⟨dst, .convert src d x, ty, pos, after, g⟩) fun ac w h ρ hw hs => by
    obtain ⟨hu, hz, hv⟩ := (ev_rel hs hx : (CP.sl 1 (xs.map (eK .u8))).rel h _)
    rcases hv with ⟨hv, he0⟩ | ⟨bl, o, cp, hv, h1, h2, h3⟩
    · have hxs : xs = [] := by simpa using he0
      subst hxs
      refine ⟨.string ⟨⟨[]⟩⟩, ?_, rfl, Nat.zero_le _⟩
      simp only [execOp, hv]
      have := run_convert_bytes_nil (P := P) w src e hsrc he 0 0 d hd
      simp only [Sem.run_bind, this]
      rfl
    · have hlen : (xs.map (eK .u8)).length = xs.length := by simp
      have hfl : (xs.map (eK .u8)).flatten = xs.map (CP.int .u8) := by
        clear hx hu hv h1 h2 h3 hlen
        induction xs with
        | nil => rfl
        | cons a l ih => simp only [List.map_cons, List.flatten_cons, ih, eK]; rfl
      refine ⟨.string ⟨⟨toStr xs⟩⟩, ?_, rfl, by simp only [toStr, List.length_map] at h1 ⊢; omega⟩
      have hc : ∀ i, i < xs.length → w.cell? ⟨bl, o + i, none⟩ = some (.int .u8 (xs.getD i 0)) := fun i hi => by
        obtain ⟨u, hu1, hu2⟩ := h3 i (CP.int .u8 xs[i]) (by rw [hfl]; simp [hi])
        rw [hw.agree _ _ _ hu1, hu2.1]
        simp [List.getD, List.getElem?_eq_getElem hi]
      have := run_convert_bytes_arg (P := P) w src e hsrc he bl o xs.length cp xs rfl hc d hd
      simp only [execOp, hv, hlen]
      simp only [Sem.run_bind, this]
      rfl
theorem and_mask_nat (m a b : Nat) (h : b = 2 ^ m - 1) : a &&& b = a % 2 ^ m := by subst h; exact Nat.and_two_pow_sub_one_eq_mod a m
theorem op_and_mask2 (m : Nat) (hm : m < k.bits) (hb : b = 2 ^ m - 1) (hx : s.ev x = some (.b (.one (.int k a)))) (hy : s.ev y = some (.b (.one (.int k b)))) :
    Op1 P E n ⟨dst, .binOp .and t x y yt, ty, pos, after, g⟩ s (s.put n dst (.b (.one (.int k (a % 2 ^ m))))) :=
  Op1.val (o := ⟨dst, .binOp .and t x y yt, ty, pos, after, g⟩) fun ac w h ρ hw hs => by
    have hpos : (0 : Int) < 2 ^ m := Int.pow_pos (by decide)
    have hlt := Int.emod_lt_of_pos a hpos
    have hge := Int.emod_nonneg a (Int.ne_of_gt hpos)
    have hpow : (2 : Int) ^ m ≤ 2 ^ (k.bits - 1) := by
      have : (2 : Nat) ^ m ≤ 2 ^ (k.bits - 1) := Nat.pow_le_pow_right (by decide) (by omega)
      exact_mod_cast this
    have hr : inR k (a % 2 ^ m) := by
      unfold inR
      cases k <;> simp [IntKind.min, IntKind.max, IntKind.signed, IntKind.bits] at hpow ⊢ <;> omega
    have hbits : (BitVec.ofInt k.bits a &&& BitVec.ofInt k.bits b).toNat = (a % 2 ^ m).toNat := by
      rw [BitVec.toNat_and, BitVec.toNat_ofInt, BitVec.toNat_ofInt]
      have hbn : (b % ((2 ^ k.bits : Nat) : Int)).toNat = 2 ^ m - 1 := by
        have h1 : (2 : Nat) ^ m ≤ 2 ^ k.bits := Nat.pow_le_pow_right (by decide) (by omega)
        have h0 : 0 < (2 : Nat) ^ m := Nat.pow_pos (by decide)
        have h2 : b = ((2 ^ m - 1 : Nat) : Int) := by rw [hb]; push_cast [Nat.one_le_two_pow]; omega
        rw [h2, ← Int.natCast_emod, Int.toNat_natCast, Nat.mod_eq_of_lt (by omega)]
      rw [and_mask_nat m _ _ hbn]
      have hdvd : ((2 ^ m : Nat) : Int) ∣ ((2 ^ k.bits : Nat) : Int) := by
        exact_mod_cast Nat.pow_dvd_pow 2 (Nat.le_of_lt hm)
      have hbp : (0 : Int) < ((2 ^ k.bits : Nat) : Int) := by exact_mod_cast Nat.pow_pos (by decide)
      have hnn := Int.emod_nonneg a (Int.ne_of_gt hbp)
      have h3 : (((a % ((2 ^ k.bits : Nat) : Int)).toNat % 2 ^ m : Nat) : Int) = a % 2 ^ m := by
        rw [Int.natCast_emod, Int.toNat_of_nonneg hnn]
        have := Int.emod_emod_of_dvd a hdvd
        rw [this]
        simp
      omega
    refine ⟨.int k (a % 2 ^ m), ?_, rfl, hr⟩
    simp only [execOp, (ev_int hs hx).1, (ev_int hs hy).1]
    have hrun : (binOp .and t (.int k a) (.int k b) : Sem Value).run P w = .ok (.int k (a % 2 ^ m)) w := by
      have e1 : binOp .and t (.int k a) (.int k b) = Op.intBits .and k a b := by simp [binOp]
      rw [e1]
      simp only [Op.intBits]
      rw [hbits, Int.toNat_of_nonneg hge, wrap_of_inR hr]
      rfl
    simp [eqGuard, hrun]
theorem Step1.forget (kb off : Nat) {T : TypeId} {cs : List BV} (hk : lk s.own kb = some (.xbox T cs)) (h : Step1 P E n ops o ⟨s.slots, ins kb (.xbox T (cs.set off (.one .any))) s.own⟩ s2) : Step1 P E n ops o s s2 :=
  fun a w hr => h a w (hr.forget kb off hk)
end
end Go.Sk
