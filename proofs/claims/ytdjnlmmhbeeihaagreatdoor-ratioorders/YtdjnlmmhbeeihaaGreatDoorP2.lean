/- the plain law -/
import Derived.Test.YtdjnlmmhbeeihaaGreatDoorP1
namespace Go.Sk
set_option linter.unusedSimpArgs false
set_option linter.unusedVariables false
theorem red_coprime {n d g : Nat} (hg : g = Nat.gcd n d) (h0 : 0 < g) : Nat.gcd (n / g) (d / g) = 1 := by
 obtain ⟨a, ha⟩ : g ∣ n := hg ▸ Nat.gcd_dvd_left n d
 obtain ⟨b, hb⟩ : g ∣ d := hg ▸ Nat.gcd_dvd_right n d
 have e1 : n / g = a := by rw [ha, Nat.mul_div_cancel_left _ h0]
 have e2 : d / g = b := by rw [hb, Nat.mul_div_cancel_left _ h0]
 rw [e1, e2]
 have e3 := Nat.gcd_mul_left g a b
 rw [← ha, ← hb, ← hg] at e3
 have e4 : g * 1 = g * Nat.gcd a b := by omega
 exact (Nat.eq_of_mul_eq_mul_left h0 e4).symm
theorem den_pos (r : Rat) : (0 : Int) < r.den := by have := r.den_nz; omega
theorem divInt_cop {n d : Int} (h0 : 0 < d) (hc : Nat.gcd n.natAbs d.natAbs = 1) : (Rat.divInt n d).num = n ∧ ((Rat.divInt n d).den : Int) = d := by
 have key := Rat.num_divInt_den ⟨n, d.natAbs, by omega, hc⟩
 have e : ((d.natAbs : Nat) : Int) = d := by omega
 dsimp only at key
 rw [e] at key
 rw [key]
 exact ⟨rfl, e⟩
def gcdS (n d : Int) : Int := if d < 0 then -(Nat.gcd n.natAbs d.natAbs : Nat) else (Nat.gcd n.natAbs d.natAbs : Nat)
theorem red {n d : Int} (hd : d ≠ 0) : gcdS n d ≠ 0 ∧ (Rat.divInt n d).num * gcdS n d = n ∧ ((Rat.divInt n d).den : Int) * gcdS n d = d := by
 have g0 : 0 < Nat.gcd n.natAbs d.natAbs := Nat.gcd_pos_of_pos_right _ (by omega)
 have hc := red_coprime (n := n.natAbs) (d := d.natAbs) rfl g0
 have d1 := Nat.div_mul_cancel (Nat.gcd_dvd_left n.natAbs d.natAbs)
 have d2 := Nat.div_mul_cancel (Nat.gcd_dvd_right n.natAbs d.natAbs)
 generalize hg : Nat.gcd n.natAbs d.natAbs = g at *
 generalize n.natAbs / g = a at *
 generalize hb : d.natAbs / g = b at *
 have b0 : 0 < b := by
  rcases Nat.eq_zero_or_pos b with e | e
  ·subst e; omega
  ·exact e
 have e0 : gcdS n d = if d < 0 then -(g : Int) else g := by unfold gcdS; rw [hg]
 have d1' : (a : Int) * g = n.natAbs := by rw [← d1]; simp
 have d2' : (b : Int) * g = d.natAbs := by rw [← d2]; simp
 obtain ⟨x, hx, hn⟩ : ∃ x : Int, x.natAbs = a ∧ x * gcdS n d = n := by
  rw [e0]
  by_cases h1 : d < 0
  ·by_cases h2 : n < 0
   ·exact ⟨a, by omega, by rw [if_pos h1, Int.mul_neg, d1']; omega⟩
   ·exact ⟨-a, by omega, by rw [if_pos h1, Int.mul_neg, Int.neg_mul, d1']; omega⟩
  ·by_cases h2 : n < 0
   ·exact ⟨-a, by omega, by rw [if_neg h1, Int.neg_mul, d1']; omega⟩
   ·exact ⟨a, by omega, by rw [if_neg h1, d1']; omega⟩
 have hdd : (b : Int) * gcdS n d = d := by
  rw [e0]
  by_cases h1 : d < 0
  ·rw [if_pos h1, Int.mul_neg, d2']; omega
  ·rw [if_neg h1, d2']; omega
 have hgs : gcdS n d ≠ 0 := by rw [e0]; split <;> omega
 have hq : Rat.divInt n d = Rat.divInt x b := by
  rw [Rat.divInt_eq_divInt_iff hd (by omega)]
  generalize gcdS n d = G at *
  subst hn; subst hdd
  rw [Int.mul_assoc, Int.mul_comm G]
 have hcop := divInt_cop (n := x) (d := b) (by omega) (by rw [hx]; exact hc)
 rw [hq, hcop.1, hcop.2]
 exact ⟨hgs, hn, hdd⟩
theorem divInt_q (n d : Int) : Rat.divInt n d = (n : Rat) / (d : Rat) := Rat.divInt_eq_div n d
theorem rat_q (r : Rat) : r = (r.num : Rat) / (r.den : Int) := by
 have := Rat.num_divInt_den r
 rw [divInt_q] at this
 exact this.symm
theorem sum_q (r s : Rat) {g p q : Int} (h1 : (r.den : Int) = p * g) (h2 : (s.den : Int) = q * g) : r + s = Rat.divInt (r.num * q + s.num * p) (p * s.den) := by
 have r0 := den_pos r
 have s0 := den_pos s
 have hp : p ≠ 0 := by intro e; subst e; simp at h1; omega
 have hq : q ≠ 0 := by intro e; subst e; simp at h2; omega
 have hg : g ≠ 0 := by intro e; subst e; simp at h2; omega
 rw [divInt_q]
 have er := rat_q r
 have es := rat_q s
 rw [h1] at er
 rw [h2] at es
 rw [h2]
 generalize r.num = a at *
 generalize s.num = b at *
 rw [er, es]
 simp only [Rat.intCast_mul, Rat.intCast_add]
 have hp' : (p : Rat) ≠ 0 := by simpa using hp
 have hq' : (q : Rat) ≠ 0 := by simpa using hq
 have hg' : (g : Rat) ≠ 0 := by simpa using hg
 generalize (p : Rat) = P at *
 generalize (q : Rat) = Q at *
 generalize (g : Rat) = G at *
 generalize (a : Rat) = A at *
 generalize (b : Rat) = B at *
 grind
end Go.Sk

namespace Go.Sk
set_option linter.unusedSimpArgs false
set_option linter.unusedVariables false
def cross (p q r s : Int) : Int := cmpZ (p * s) (r * q)
theorem cross_floor {p q r s : Int} (hq : 0 < q) (hs : 0 < s) (h : cmpZ (p / q) (r / s) ≠ 0) : cross p q r s = cmpZ (p / q) (r / s) := by
 have a1 := Int.ediv_mul_le p (show q ≠ 0 by omega)
 have a2 := Int.lt_ediv_add_one_mul_self p hq
 have b1 := Int.ediv_mul_le r (show s ≠ 0 by omega)
 have b2 := Int.lt_ediv_add_one_mul_self r hs
 generalize p / q = m at *
 generalize r / s = n at *
 have key : ∀ {m n p q r s : Int}, 0 < q → 0 < s → p < (m + 1) * q → n * s ≤ r → m < n → p * s < r * q := fun {m n p q r s} hq hs h1 h2 h => by
  have g1 := Int.mul_lt_mul_of_pos_right h1 hs
  have g2 := Int.mul_le_mul_of_nonneg_right h2 (Int.le_of_lt hq)
  have g3 := Int.mul_le_mul_of_nonneg_right (show m + 1 ≤ n by omega) (show 0 ≤ q * s from Int.mul_nonneg (Int.le_of_lt hq) (Int.le_of_lt hs))
  have e1 : (m + 1) * q * s = (m + 1) * (q * s) := Int.mul_assoc _ _ _
  have e2 : n * s * q = n * (q * s) := by rw [Int.mul_assoc, Int.mul_comm s]
  omega
 unfold cross cmpZ at *
 by_cases h1 : m < n
 ·have := key hq hs a2 b1 h1
  rw [if_pos h1, if_pos this]
 ·rw [if_neg h1] at h ⊢
  by_cases h2 : n < m
  ·have := key hs hq b2 a1 h2
   rw [if_pos h2, if_neg (by omega), if_pos this]
  ·rw [if_neg h2] at h; exact absurd rfl h
theorem cross_rest {p q r s : Int} (h : p / q = r / s) : cross p q r s = cmpZ (p % q * s) (r % s * q) := by
 have e1 := Int.mul_ediv_add_emod p q
 have e2 := Int.mul_ediv_add_emod r s
 rw [← h] at e2
 generalize p / q = k at *
 generalize p % q = a at *
 generalize r % s = b at *
 have e3 : p * s = a * s + k * q * s := by rw [← e1]; grind
 have e4 : r * q = b * q + k * q * s := by rw [← e2]; grind
 unfold cross cmpZ
 rw [e3, e4]
 have h1 : (a * s + k * q * s < b * q + k * q * s) = (a * s < b * q) := propext (by omega)
 have h2 : (b * q + k * q * s < a * s + k * q * s) = (b * q < a * s) := propext (by omega)
 simp only [h1, h2]
theorem cross_end {p q r s : Int} (hq : 0 < q) (hs : 0 < s) (h : p / q = r / s) (h0 : p % q = 0 ∨ r % s = 0) : cross p q r s = sgn (p % q) - sgn (r % s) := by
 rw [cross_rest h]
 have a0 := Int.emod_nonneg p (show q ≠ 0 by omega)
 have b0 := Int.emod_nonneg r (show s ≠ 0 by omega)
 generalize p % q = a at *
 generalize r % s = b at *
 unfold cmpZ sgn
 rcases h0 with rfl | rfl
 ·rw [Int.zero_mul]
  rcases (by omega : b = 0 ∨ 0 < b) with rfl | g
  ·simp
  ·have := Int.mul_pos g hq
   rw [if_pos this, if_pos rfl, if_neg (by omega), if_neg (by omega)]; rfl
 ·rw [Int.zero_mul]
  rcases (by omega : a = 0 ∨ 0 < a) with rfl | g
  ·simp
  ·have := Int.mul_pos g hs
   rw [if_neg (by omega), if_pos this, if_neg (by omega), if_neg (by omega), if_pos rfl]; rfl
theorem cross_next {p q r s : Int} (h : p / q = r / s) : cross p q r s = -cross q (p % q) s (r % s) := by
 rw [cross_rest h]
 unfold cross
 rw [Int.mul_comm (p % q), Int.mul_comm (r % s)]
 generalize s * (p % q) = u
 generalize q * (r % s) = v
 unfold cmpZ
 split <;> split <;> (try split) <;> omega
theorem fq_fr_pos (a : Int) {b : Int} (hb : 0 < b) : fq a b = a / b ∧ fr a b = a % b := by
 have h0 := Int.emod_nonneg a (show b ≠ 0 by omega)
 have h1 := Int.emod_lt_of_pos a hb
 have eb : absZ b = b := if_neg (by omega)
 have er : absZ (a % b) = a % b := if_neg (by omega)
 have := fq_unique (a := a) (b := b) (q := a / b) (r := a % b) (by omega) (Int.mul_ediv_add_emod a b).symm (by rw [eb, er]; exact h1) (.inr (by rw [decide_eq_decide]; omega))
 exact ⟨this.1.symm, this.2.symm⟩
end Go.Sk

namespace Go.Proofs.YtdjnlmmhbeeihaaGreatDoor
open Go Go.Sk
set_option linter.unusedSimpArgs false
set_option linter.unusedVariables false
def bf : Frc := ⟨bad, big 1⟩
def fits (r : Rat) : Prop := InM r.num ∧ InM r.den
noncomputable instance (r : Rat) : Decidable (fits r) := Classical.propDecidable _
def mk (r : Rat) : Frc := ⟨big r.num, big r.den⟩
noncomputable def ofR (r : Rat) : Frc := if fits r then mk r else bf
abbrev inF (x : Frc) : Prop := inB x.N ∧ inB x.D
def qF (x : Frc) : Option Rat := match iv x.N, iv x.D with
 | some n, some d => if 0 < d ∧ Nat.gcd n.natAbs d.natAbs = 1 then some (Rat.divInt n d) else none
 | _, _ => none
noncomputable def mkB (n d : Big) : Frc := match iv n, iv d with
 | some a, some b => if b = 0 then bf else ofR (Rat.divInt a b)
 | _, _ => bf
theorem in_mk {N D : Big} (h1 : inB N) (h2 : inB D) : inF ⟨N, D⟩ := And.intro h1 h2
theorem bf_in : inF bf := in_mk bad_in (big_in 1)
theorem mk_in (r : Rat) : inF (mk r) := in_mk (big_in _) (big_in _)
theorem ofR_in (r : Rat) : inF (ofR r) := by unfold ofR; split; exact mk_in r; exact bf_in
theorem mkB_in (n d : Big) : inF (mkB n d) := by
 unfold mkB; split
 ·split; exact bf_in; exact ofR_in _
 ·exact bf_in
theorem ofR_fits {r : Rat} (h : fits r) : ofR r = mk r := by unfold ofR; rw [if_pos h]
theorem qF_none {N D : Big} (h : iv N = none) : qF ⟨N, D⟩ = none := by
 unfold qF
 dsimp only
 rw [h]
theorem qF_bf : qF bf = none := by
 unfold bf
 exact qF_none iv_bad
theorem qF_of {N D : Big} {n d : Int} (hn : iv N = some n) (hd : iv D = some d) (h0 : 0 < d) (hc : Nat.gcd n.natAbs d.natAbs = 1) : qF ⟨N, D⟩ = some (Rat.divInt n d) := by
 unfold qF
 dsimp only
 rw [hn, hd]
 dsimp only
 rw [if_pos ⟨h0, hc⟩]
theorem qF_mk {r : Rat} (h : fits r) : qF (mk r) = some r := by
 have hc : Nat.gcd r.num.natAbs ((r.den : Int)).natAbs = 1 := by rw [Int.natAbs_natCast]; exact r.reduced
 have := qF_of (iv_big h.1) (iv_big h.2) (den_pos r) hc
 rw [Rat.num_divInt_den] at this
 exact this
theorem qF_ofR (r : Rat) : qF (ofR r) = if fits r then some r else none := by
 unfold ofR
 split
 ·exact qF_mk (by assumption)
 ·exact qF_bf
theorem qF_some {x : Frc} {r : Rat} (hx : inF x) (h : qF x = some r) : fits r ∧ x = mk r := by
 unfold qF at h
 split at h
 ·next n d hn hd =>
  obtain ⟨_, en, rn⟩ := iv_some hx.1 hn
  obtain ⟨_, ed, rd⟩ := iv_some hx.2 hd
  split at h
  ·next hc =>
   have e := divInt_cop hc.1 hc.2
   cases h
   refine ⟨⟨by rw [e.1]; exact rn, by rw [e.2]; exact rd⟩, ?_⟩
   unfold mk
   rw [e.1, e.2, ← en, ← ed]
  ·cases h
 ·cases h
theorem fq_mul {q g : Int} (h : g ≠ 0) : fq (q * g) g = q := by
 refine (fq_unique h (r := 0) (by rw [Int.mul_comm]; omega) ?_ (.inl rfl)).1.symm
 have := absZ_pos h
 simpa [absZ] using this
theorem red_fits {n d : Int} (hd : d ≠ 0) (rn : InM n) (rd : InM d) : fits (Rat.divInt n d) := by
 obtain ⟨g0, e1, e2⟩ := red (n := n) hd
 have key : ∀ {a g m : Int}, g ≠ 0 → a * g = m → InM m → InM a := fun {a g m} hg e hm => by
  have h1 : a.natAbs * g.natAbs = m.natAbs := by rw [← Int.natAbs_mul, e]
  have h2 : a.natAbs * 1 ≤ a.natAbs * g.natAbs := Nat.mul_le_mul_left _ (by omega)
  constructor <;> have := hm.1 <;> have := hm.2 <;> omega
 exact ⟨key g0 e1 rn, key g0 e2 rd⟩
theorem goodz_y {x : Big} : ratio_good_S FF x = some (goodB x) := by
 refine Yld.eq ?_
 unfold ratio_good_S goodB
 cases h : x.Bad with
 | true => exact Yld.g0 rfl (Yld.some (by simp))
 | false => exact Yld.g1 rfl (Yld.bindE (Valid_y FF x) (Yld.some (by simp [h])))
theorem one_y : ratio_one_S FF = some (big 1) := by
 unfold ratio_one_S
 rw [Of_v (by decide) (by decide)]; rfl
theorem Bad_f : ratio_Bad_S FF = some bf := by
 unfold ratio_Bad_S
 rw [Bad_y, Option.bind_some, one_y]; rfl
theorem sgn_pos {d : Int} : decide (0 < sgn d) = decide (0 < d) := by rw [decide_eq_decide]; unfold sgn; split <;> (try split) <;> omega
theorem sgn_neg {d : Int} : decide (sgn d < 0) = decide (d < 0) := by rw [decide_eq_decide]; unfold sgn; split <;> (try split) <;> omega
theorem sgn_zero {d : Int} : decide (sgn d = 0) = decide (d = 0) := by rw [decide_eq_decide]; unfold sgn; split <;> (try split) <;> omega
theorem Good_f {x : Frc} (hx : inF x) : ratio_Good_S FF x = some (qF x).isSome := by
 refine Yld.eq ?_
 unfold ratio_Good_S qF
 refine Yld.bindE goodz_y ?_
 cases hn : iv x.N with
 | none =>
  rw [iv_none hn]
  exact Yld.g0 rfl (Yld.g0 rfl (Yld.g0 rfl (Yld.g0 rfl (Yld.some rfl))))
 | some n =>
  obtain ⟨gn, en, rn⟩ := iv_some hx.1 hn
  rw [gn]
  refine Yld.g1 rfl (Yld.bindE goodz_y ?_)
  cases hd : iv x.D with
  | none =>
   rw [iv_none hd]
   exact Yld.g0 rfl (Yld.g0 rfl (Yld.g0 rfl (Yld.some rfl)))
  | some d =>
   obtain ⟨gd, ed, rd⟩ := iv_some hx.2 hd
   rw [gd, en, ed]
   refine Yld.g1 rfl (Yld.bindE (Sign_v rd) ?_)
   rw [sgn_pos]
   by_cases h0 : 0 < d
   ·rw [decide_eq_true h0]
    refine Yld.g1 rfl (Yld.bindE (Gcd_v rn rd) (Yld.g1 rfl (Yld.bindE one_y (Yld.some ?_))))
    have hg : InM (Nat.gcd n.natAbs d.natAbs : Nat) := by
     have := Nat.gcd_le_right n.natAbs (show 0 < d.natAbs by omega)
     have := rd.1; have := rd.2
     constructor <;> omega
    have e : (big (Nat.gcd n.natAbs d.natAbs : Nat) = big 1) = (Nat.gcd n.natAbs d.natAbs = 1) := by
     rw [eq_iff_iff, big_inj hg one_InM]; omega
    simp only [e]
    by_cases h1 : Nat.gcd n.natAbs d.natAbs = 1
    ·simp [h1, h0]
    ·simp [h1]
   ·rw [decide_eq_false h0]
    refine Yld.g0 rfl (Yld.g0 rfl (Yld.some ?_))
    simp [h0]
theorem Make_f {n d : Big} (hn : inB n) (hd : inB d) : ratio_Make_S FF n d = some (mkB n d) := by
 refine Yld.eq ?_
 unfold ratio_Make_S mkB
 refine Yld.bindE goodz_y ?_
 cases ha : iv n with
 | none =>
  rw [iv_none ha]
  exact Yld.g0 rfl (Yld.g0 rfl (Yld.ift rfl (Yld.bindE Bad_f (Yld.some rfl))))
 | some a =>
  obtain ⟨ga, rfl, ra⟩ := iv_some hn ha
  rw [ga]
  refine Yld.g1 rfl (Yld.bindE goodz_y ?_)
  cases hb : iv d with
  | none =>
   rw [iv_none hb]
   exact Yld.g0 rfl (Yld.ift rfl (Yld.bindE Bad_f (Yld.some rfl)))
  | some b =>
   obtain ⟨gb, rfl, rb⟩ := iv_some hd hb
   rw [gb]
   refine Yld.g1 rfl (Yld.bindE (Sign_v rb) ?_)
   rw [sgn_zero]
   by_cases h0 : b = 0
   ·rw [decide_eq_true h0]
    exact Yld.ift rfl (Yld.bindE Bad_f (Yld.some (by simp [h0])))
   ·rw [decide_eq_false h0]
    have hg : InM (Nat.gcd a.natAbs b.natAbs : Nat) := by
     have := Nat.gcd_le_right a.natAbs (show 0 < b.natAbs by omega)
     have := rb.1; have := rb.2
     constructor <;> omega
    have hgs : InM (gcdS a b) := by unfold gcdS; split <;> (have := hg.1; have := hg.2; constructor <;> omega)
    obtain ⟨g0, e1, e2⟩ := red (n := a) h0
    refine Yld.iff rfl (Yld.bindE (Gcd_v ra rb) (Yld.bind (P := fun g => g = big (gcdS a b)) (Yld.bindE (Sign_v rb) ?_) ?_))
    ·rw [sgn_neg]
     unfold gcdS
     refine Yld.ite (fun h => ?_) (fun h => ?_)
     ·rw [if_pos (of_decide_eq_true h), Neg_y FF1 (big_in _), one_big hg]; exact Yld.some rfl
     ·rw [if_neg (of_decide_eq_false h)]; exact Yld.some rfl
    ·rintro g rfl
     refine Yld.bindE (Quo_v ra hgs g0) (Yld.bindE (Quo_v rb hgs g0) (Yld.some ?_))
     dsimp only
     rw [if_neg h0, ofR_fits (red_fits h0 ra rb)]
     unfold mk
     have f1 : fq a (gcdS a b) = (Rat.divInt a b).num := by
      have := fq_mul (q := (Rat.divInt a b).num) g0
      rwa [e1] at this
     have f2 : fq b (gcdS a b) = ((Rat.divInt a b).den : Int) := by
      have := fq_mul (q := ((Rat.divInt a b).den : Int)) g0
      rwa [e2] at this
     rw [f1, f2]
end Go.Proofs.YtdjnlmmhbeeihaaGreatDoor

namespace Go.Proofs.YtdjnlmmhbeeihaaGreatDoor
open Go Go.Sk
set_option linter.unusedSimpArgs false
set_option linter.unusedVariables false
def un (f : Rat → Frc) (x : Frc) : Frc := match qF x with
 | some r => f r
 | none => bf
def bi (f : Rat → Rat → Frc) (x y : Frc) : Frc := match qF x, qF y with
 | some r, some s => f r s
 | _, _ => bf
theorem un_none {f : Rat → Frc} {x : Frc} (h : qF x = none) : un f x = bf := by unfold un; rw [h]
theorem un_some {f : Rat → Frc} {x : Frc} {r : Rat} (h : qF x = some r) : un f x = f r := by unfold un; rw [h]
theorem bi_none1 {f : Rat → Rat → Frc} {x y : Frc} (h : qF x = none) : bi f x y = bf := by unfold bi; rw [h]
theorem bi_none2 {f : Rat → Rat → Frc} {x y : Frc} (h : qF y = none) : bi f x y = bf := by unfold bi; rw [h]; cases qF x <;> rfl
theorem bi_some {f : Rat → Rat → Frc} {x y : Frc} {r s : Rat} (h : qF x = some r) (h2 : qF y = some s) : bi f x y = f r s := by unfold bi; rw [h, h2]
theorem neg_nd (r : Rat) : (-r).num = -r.num ∧ (-r).den = r.den := ⟨rfl, rfl⟩
theorem neg_fits {r : Rat} (h : fits r) : fits (-r) := by
 obtain ⟨⟨h1, h2⟩, h3⟩ := h
 exact ⟨by rw [(neg_nd r).1]; constructor <;> omega, by rw [(neg_nd r).2]; exact h3⟩
theorem mk_N (r : Rat) : (mk r).N = big r.num := by simp only [mk]
theorem mk_D (r : Rat) : (mk r).D = big r.den := by simp only [mk]
theorem Neg_f {x : Frc} (hx : inF x) : ratio_Neg_S FF x = some (un (fun r => ofR (-r)) x) := by
 refine Yld.eq ?_
 unfold ratio_Neg_S
 refine Yld.bindE (Good_f hx) ?_
 cases hq : qF x with
 | none => rw [un_none hq]; exact Yld.ift rfl (Yld.bindE Bad_f (Yld.some rfl))
 | some r =>
  obtain ⟨hf, rfl⟩ := qF_some hx hq
  rw [un_some hq, ofR_fits (neg_fits hf), mk_N, mk_D]
  refine Yld.iff rfl (Yld.bindE (x := big (-r.num)) (by rw [Neg_y FF1 (big_in _), one_big hf.1]; rfl) (Yld.some ?_))
  unfold mk
  rw [(neg_nd r).1, (neg_nd r).2]
theorem un_in {f : Rat → Frc} (hf : ∀ r, inF (f r)) (x : Frc) : inF (un f x) := by unfold un; split; exact hf _; exact bf_in
theorem bi_in {f : Rat → Rat → Frc} (hf : ∀ r s, inF (f r s)) (x y : Frc) : inF (bi f x y) := by unfold bi; split; exact hf _ _; exact bf_in
theorem mkB_big {a b : Int} (ra : InM a) (rb : InM b) (h : b ≠ 0) : mkB (big a) (big b) = ofR (Rat.divInt a b) := by
 unfold mkB
 rw [iv_big ra, iv_big rb]
 dsimp only
 rw [if_neg h]
def qd (r s : Rat) : Int := ((r.den / Nat.gcd r.den s.den : Nat) : Int)
theorem qd_mul (r s : Rat) : (r.den : Int) = qd r s * (Nat.gcd r.den s.den : Nat) := by
 unfold qd
 have := Nat.div_mul_cancel (Nat.gcd_dvd_left r.den s.den)
 rw [← Int.natCast_mul, this]
theorem gcd_den_pos (r s : Rat) : (0 : Int) < (Nat.gcd r.den s.den : Nat) := by
 have := Nat.gcd_pos_of_pos_left s.den (show 0 < r.den from r.den_pos)
 omega
theorem qd_pos (r s : Rat) : 0 < qd r s := by
 have h := qd_mul r s
 have h0 := den_pos r
 have h1 := gcd_den_pos r s
 rcases (by omega : qd r s ≤ 0 ∨ 0 < qd r s) with h2 | h2
 ·have := Int.mul_nonpos_of_nonpos_of_nonneg h2 (Int.le_of_lt h1)
  omega
 ·exact h2
theorem qd_le (r s : Rat) : qd r s ≤ r.den := by
 unfold qd
 have := Nat.div_le_self r.den (Nat.gcd r.den s.den)
 omega
abbrev plus := fun a b : Int => some (a + b)
noncomputable def addR (r s : Rat) : Frc := mkB (two plus (big (r.num * qd s r)) (big (s.num * qd r s))) (big (qd r s * s.den))
theorem toB_some (z : Int) : toB (some z) = big z := rfl
theorem addR_ok {r s : Rat} (h1 : InM (r.num * qd s r)) (h2 : InM (s.num * qd r s)) (h3 : InM (r.num * qd s r + s.num * qd r s)) (h4 : InM (qd r s * s.den)) : addR r s = ofR (r + s) := by
 unfold addR
 rw [two_big h1 h2, toB_some, mkB_big h3 h4 (by have := Int.mul_pos (qd_pos r s) (den_pos s); omega), sum_q r s (qd_mul r s) (by have := qd_mul s r; rwa [Nat.gcd_comm] at this)]
theorem mkB_bad1 {x y : Big} (h : iv x = none) : mkB x y = bf := by unfold mkB; rw [h]
theorem mkB_bad2 {x y : Big} (h : iv y = none) : mkB x y = bf := by unfold mkB; rw [h]; cases iv x <;> rfl
theorem iv_out {z : Int} (h : ¬ InM z) : iv (big z) = none := by rw [big_out h, iv_bad]
theorem two_bad1 {f : Int → Int → Option Int} {x y : Big} (h : iv x = none) : two f x y = bad := by unfold two; rw [h]
theorem two_bad2 {f : Int → Int → Option Int} {x y : Big} (h : iv y = none) : two f x y = bad := by unfold two; rw [h]; cases iv x <;> rfl
theorem addR_or (r s : Rat) : addR r s = ofR (r + s) ∨ addR r s = bf := by
 by_cases h1 : InM (r.num * qd s r)
 ·by_cases h2 : InM (s.num * qd r s)
  ·by_cases h3 : InM (r.num * qd s r + s.num * qd r s)
   ·by_cases h4 : InM (qd r s * s.den)
    ·exact .inl (addR_ok h1 h2 h3 h4)
    ·exact .inr (by unfold addR; exact mkB_bad2 (iv_out h4))
   ·exact .inr (by unfold addR; exact mkB_bad1 (by rw [two_big h1 h2, toB_some]; exact iv_out h3))
  ·exact .inr (by unfold addR; exact mkB_bad1 (by rw [two_bad2 (iv_out h2)]; exact iv_bad))
 ·exact .inr (by unfold addR; exact mkB_bad1 (by rw [two_bad1 (iv_out h1)]; exact iv_bad))
theorem qd_in {r s : Rat} (h : fits r) : InM (qd r s) := by
 have := qd_pos r s
 have := qd_le r s
 have := h.2.2
 have := MM_pos
 constructor <;> omega
theorem fq_den (r s : Rat) : fq (r.den : Int) (Nat.gcd r.den s.den : Nat) = qd r s := by
 have := fq_mul (q := qd r s) (g := (Nat.gcd r.den s.den : Nat)) (by have := gcd_den_pos r s; omega)
 rwa [← qd_mul] at this
theorem gcd_in {r s : Rat} (h : fits r) : InM (Nat.gcd r.den s.den : Nat) := by
 have := Nat.gcd_le_left s.den (show 0 < r.den from r.den_pos)
 have := h.2.2
 have := MM_pos
 constructor <;> omega
theorem addR_in (r s : Rat) : inF (addR r s) := mkB_in _ _
theorem Add_f {x y : Frc} (hx : inF x) (hy : inF y) : ratio_Add_S FF x y = some (bi addR x y) := by
 refine Yld.eq ?_
 unfold ratio_Add_S
 refine Yld.bindE (Good_f hx) ?_
 cases hq : qF x with
 | none => rw [bi_none1 hq]; exact Yld.g0 rfl (Yld.ift rfl (Yld.bindE Bad_f (Yld.some rfl)))
 | some r =>
  obtain ⟨hf, rfl⟩ := qF_some hx hq
  refine Yld.g1 rfl (Yld.bindE (Good_f hy) ?_)
  cases hq2 : qF y with
  | none => rw [bi_none2 hq2]; exact Yld.ift rfl (Yld.bindE Bad_f (Yld.some rfl))
  | some s =>
   obtain ⟨hs, rfl⟩ := qF_some hy hq2
   rw [bi_some hq hq2, mk_N, mk_D, mk_N, mk_D]
   have e1 := fq_den r s
   have e2 := fq_den s r
   rw [Nat.gcd_comm] at e2
   have hg := gcd_den_pos r s
   have gi := gcd_in (s := s) hf
   refine Yld.iff rfl (Yld.bindE (Gcd_v hf.2 hs.2) ?_)
   rw [Int.natAbs_natCast, Int.natAbs_natCast]
   refine Yld.bindE (Quo_v hf.2 gi (by omega)) (Yld.bindE (Quo_v hs.2 gi (by omega)) ?_)
   rw [e1, e2]
   refine Yld.bindE (Mul_v hf.1 (qd_in hs)) (Yld.bindE (Mul_v hs.1 (qd_in hf)) (Yld.bindE (Add_y FF1 (big_in _) (big_in _)) (Yld.bindE (Mul_v (qd_in hf) hs.2) (Yld.bindE (Make_f (two_in _ _ _) (big_in _)) (Yld.some rfl)))))
noncomputable def subR (r s : Rat) : Frc := addR r (-s)
theorem Sub_f {x y : Frc} (hx : inF x) (hy : inF y) : ratio_Sub_S FF x y = some (bi subR x y) := by
 refine Yld.eq ?_
 unfold ratio_Sub_S
 refine Yld.bindE (Neg_f hy) (Yld.bindE (Add_f hx (un_in (fun r => ofR_in _) _)) (Yld.some ?_))
 cases hq2 : qF y with
 | none => rw [un_none hq2, bi_none2 hq2, bi_none2 qF_bf]
 | some s =>
  obtain ⟨hs, rfl⟩ := qF_some hy hq2
  rw [un_some hq2, ofR_fits (neg_fits hs)]
  cases hq : qF x with
  | none => rw [bi_none1 hq, bi_none1 hq]
  | some r => rw [bi_some hq hq2, bi_some hq (qF_mk (neg_fits hs))]; rfl
noncomputable def mulR (r s : Rat) : Frc := ofR (r * s)
noncomputable def divR (r s : Rat) : Frc := if s.num = 0 then bf else ofR (r / s)
theorem Sign_f {x : Frc} (hx : inF x) : ratio_Sign_S FF x = some (match qF x with | some r => sgn r.num | none => 0) := by
 refine Yld.eq ?_
 unfold ratio_Sign_S
 refine Yld.bindE (Good_f hx) ?_
 cases hq : qF x with
 | none => exact Yld.ift rfl (Yld.some rfl)
 | some r =>
  obtain ⟨hf, rfl⟩ := qF_some hx hq
  exact Yld.iff rfl (Yld.bindE (Sign_v hf.1) (Yld.some rfl))
def unB (f : Rat → Int) (x : Frc) : Big := match qF x with
 | some r => big (f r)
 | none => bad
end Go.Proofs.YtdjnlmmhbeeihaaGreatDoor

namespace Go.Proofs.YtdjnlmmhbeeihaaGreatDoor
open Go Go.Sk
set_option linter.unusedSimpArgs false
set_option linter.unusedVariables false
theorem rSign_v {a : Int} (ra : InM a) : r3_Sign_S FF (big a) = some (sgn a) := by rw [rSign_y FF2 (big_in a), iv_big ra]
theorem rQuo_v {a b : Int} (ra : InM a) (rb : InM b) (h : b ≠ 0) : r3_Quo_S FF (big a) (big b) = some (big (fq a b)) := by rw [rQuo_y FF2 (big_in a) (big_in b), two_big ra rb]; simp only [quoO, h, if_false]; rfl
theorem rOf_v {n : Int} (h0 : -9223372036854775808 ≤ n) (h1 : n ≤ 9223372036854775807) : r3_Of_S FF n = some (big n) := rOf_y FF2 h0 h1
theorem rone_y : r4_one_S FF = some (big 1) := by
 unfold r4_one_S
 rw [rOf_v (by decide) (by decide)]; rfl
theorem rGood_f {x : Frc} (hx : inF x) : r4_Good_S FF x = some (qF x).isSome := by
 refine Yld.eq ?_
 unfold r4_Good_S qF
 refine Yld.bindE (rGood_y FF2 hx.1) ?_
 cases hn : iv x.N with
 | none =>
  rw [iv_none hn]
  exact Yld.g0 rfl (Yld.ift rfl (Yld.some rfl))
 | some n =>
  obtain ⟨gn, en, rn⟩ := iv_some hx.1 hn
  rw [gn]
  refine Yld.g1 rfl (Yld.bindE (rGood_y FF2 hx.2) ?_)
  cases hd : iv x.D with
  | none =>
   rw [iv_none hd]
   exact Yld.ift rfl (Yld.some rfl)
  | some d =>
   obtain ⟨gd, ed, rd⟩ := iv_some hx.2 hd
   rw [gd, en, ed]
   refine Yld.iff rfl (Yld.bindE (rSign_v rd) ?_)
   rw [sgn_pos]
   by_cases h0 : 0 < d
   ·rw [decide_eq_true h0]
    refine Yld.g1 rfl (Yld.bindE (rGcd_v rn rd) (Yld.g1 rfl (Yld.bindE rone_y (Yld.some ?_))))
    have hg : InM (Nat.gcd n.natAbs d.natAbs : Nat) := by
     have := Nat.gcd_le_right n.natAbs (show 0 < d.natAbs by omega)
     have := rd.1; have := rd.2
     constructor <;> omega
    have e : (big (Nat.gcd n.natAbs d.natAbs : Nat) = big 1) = (Nat.gcd n.natAbs d.natAbs = 1) := by
     rw [eq_iff_iff, big_inj hg one_InM]; omega
    simp only [e]
    by_cases h1 : Nat.gcd n.natAbs d.natAbs = 1
    ·simp [h1, h0]
    ·simp [h1]
   ·rw [decide_eq_false h0]
    refine Yld.g0 rfl (Yld.g0 rfl (Yld.some ?_))
    simp [h0]
end Go.Proofs.YtdjnlmmhbeeihaaGreatDoor

namespace Go.Sk
set_option linter.unusedSimpArgs false
set_option linter.unusedVariables false
def sim : Nat → Rat → Rat → Rat
 | 0, _, _ => 0
 | n + 1, r, s => if (r.ceil : Rat) ≤ s then r.ceil else r.floor + 1 / sim n (1 / (s - r.floor)) (1 / (r - r.floor))
theorem num_pos {r : Rat} (h : 0 < r) : 0 < r.num := by
 rw [Rat.lt_iff] at h
 have := den_pos r
 simpa using h
structure SimStep (r s : Rat) : Prop where
 lo : (0 : Rat) < r - r.floor
 hi : r - r.floor ≤ s - r.floor
 one : s - r.floor < 1
 fl : 0 ≤ r.floor
end Go.Sk

namespace Go.Proofs.YtdjnlmmhbeeihaaGreatDoor
open Go Go.Sk
set_option linter.unusedSimpArgs false
set_option linter.unusedVariables false
theorem rRem_v {a b : Int} (ra : InM a) (rb : InM b) (h : b ≠ 0) : r3_Rem_S FF (big a) (big b) = some (big (fr a b)) := by rw [rRem_y FF2 (big_in a) (big_in b), two_big ra rb]; simp only [remO, h, if_false]; rfl
theorem rCmp_v {a b : Int} (ra : InM a) (rb : InM b) : r3_Cmp_S FF (big a) (big b) = some (cmpZ a b) := by rw [rCmp_y FF2 (big_in a) (big_in b), iv_big ra, iv_big rb]
theorem mk_eq (r : Rat) : mk r = ⟨big r.num, big r.den⟩ := by simp only [mk]
def cmpR (r s : Rat) : Int := if r < s then -1 else if s < r then 1 else 0
theorem cross_r (r s : Rat) : cross r.num r.den s.num s.den = cmpR r s := by
 unfold cross cmpZ cmpR
 simp only [Rat.lt_iff]
def cmpF (x y : Frc) : Int := match qF x, qF y with
 | none, none => 0
 | none, some _ => -1
 | some _, none => 1
 | some r, some s => cmpR r s
theorem cmpZ_rng (a b : Int) : -1 ≤ cmpZ a b ∧ cmpZ a b ≤ 1 := by unfold cmpZ; split <;> (try split) <;> omega
theorem sg_mul {o c : Int} (ho : o = 1 ∨ o = -1) (hc : -1 ≤ c ∧ c ≤ 1) : IntKind.i64.wrap (o * c) = o * c := by
 refine wi64' ?_ ?_ <;> rcases ho with rfl | rfl <;> omega
theorem sgn_nn {z : Int} (h : 0 ≤ z) : 0 ≤ sgn z ∧ sgn z ≤ 1 := by unfold sgn; split <;> (try split) <;> omega
theorem dec_sgn {z : Int} : decide (sgn z = 0) = decide (z = 0) := sgn_zero
structure CmpI (c : Int) (p q r s o : Int) : Prop where
 ip : InM p
 iq : InM q
 ir : InM r
 is : InM s
 q0 : 0 < q
 s0 : 0 < s
 o1 : o = 1 ∨ o = -1
 val : o * cross p q r s = c
theorem CmpI.next {c p q r s o : Int} (h : CmpI c p q r s o) (he : p / q = r / s) (h1 : p % q ≠ 0) (h2 : r % s ≠ 0) : CmpI c q (p % q) s (r % s) (-o) := by
 have a0 := Int.emod_nonneg p (show q ≠ 0 by have := h.q0; omega)
 have a1 := Int.emod_lt_of_pos p h.q0
 have b0 := Int.emod_nonneg r (show s ≠ 0 by have := h.s0; omega)
 have b1 := Int.emod_lt_of_pos r h.s0
 have := h.iq.2
 have := h.is.2
 have := MM_pos
 refine ⟨h.iq, ⟨by omega, by omega⟩, h.is, ⟨by omega, by omega⟩, by omega, by omega, by have := h.o1; omega, ?_⟩
 rw [← h.val, cross_next he, Int.neg_mul, Int.mul_neg]
theorem CmpI.start {r s : Rat} (hr : fits r) (hs : fits s) : CmpI (cmpR r s) r.num r.den s.num s.den 1 :=
 ⟨hr.1, hr.2, hs.1, hs.2, den_pos r, den_pos s, .inl rfl, by rw [Int.one_mul, cross_r]⟩
theorem cmpZ_zero {a b : Int} : cmpZ a b = 0 ↔ a = b := by unfold cmpZ; split <;> (try split) <;> omega
def dn (x : Big) : Nat := match iv x with
 | some d => d.toNat
 | none => 0
theorem dn_big {d : Int} (h : InM d) : dn (big d) = d.toNat := by unfold dn; rw [iv_big h]
theorem dn_lt {r : Rat} (h : fits r) : dn (big r.den) < FF := by
 have h1 := h.2.2
 have h2 := FF_MM
 rw [dn_big h.2]
 omega
theorem Cmp_f {x y : Frc} (hx : inF x) (hy : inF y) : ratio_Cmp_S FF x y = some (cmpF x y) := by
 refine Yld.eq ?_
 unfold ratio_Cmp_S cmpF
 refine Yld.bindE (Good_f hx) (Yld.bindE (Good_f hy) ?_)
 cases hq : qF x with
 | none =>
  cases hq2 : qF y with
  | none => exact Yld.ift rfl (Yld.some rfl)
  | some s => exact Yld.iff rfl (Yld.ift rfl (Yld.some rfl))
 | some r =>
  cases hq2 : qF y with
  | none => exact Yld.iff rfl (Yld.iff rfl (Yld.ift rfl (Yld.some rfl)))
  | some s =>
   obtain ⟨hr, rfl⟩ := qF_some hx hq
   obtain ⟨hs, rfl⟩ := qF_some hy hq2
   refine Yld.iff rfl (Yld.iff rfl (Yld.iff rfl ?_))
   refine Yld.bind (P := fun z => z = cmpR r s) (Yld.loop (fun st : Frc × Frc × Int => ∃ p q u v, st.1 = ⟨big p, big q⟩ ∧ st.2.1 = ⟨big u, big v⟩ ∧ CmpI (cmpR r s) p q u v st.2.2) (fun st => dn st.1.D) ⟨r.num, r.den, s.num, s.den, mk_eq r, mk_eq s, CmpI.start hr hs⟩ ?_ ?_) (fun z hz => Yld.some hz)
   ·rw [mk_D]; exact dn_lt hr
   ·rintro ⟨_, _, o⟩ ⟨p, q, u, v, rfl, rfl, hI⟩
    dsimp only at hI
    dsimp only [un3]
    have hq0 : q ≠ 0 := by have := hI.q0; omega
    have hv0 : v ≠ 0 := by have := hI.s0; omega
    refine Yld.bindE (Quo_v hI.ip hI.iq hq0) (Yld.bindE (Quo_v hI.ir hI.is hv0) (Yld.bindE (Cmp_v (fq_rng hq0 hI.ip) (fq_rng hv0 hI.ir)) ?_))
    obtain ⟨f1, g1⟩ := fq_fr_pos p hI.q0
    obtain ⟨f2, g2⟩ := fq_fr_pos u hI.s0
    rw [f1, f2]
    refine Yld.ite (fun h => ?_) (fun h => ?_)
    ·have h' : cmpZ (p / q) (u / v) ≠ 0 := of_decide_eq_true h
     refine Yld.some (.inr ⟨_, rfl, ?_⟩)
     rw [sg_mul hI.o1 (cmpZ_rng _ _), ← hI.val, cross_floor hI.q0 hI.s0 h']
    ·have h' : cmpZ (p / q) (u / v) = 0 := by have := of_decide_eq_false h; omega
     have he := cmpZ_zero.1 h'
     refine Yld.bindE (Rem_v hI.ip hI.iq hq0) (Yld.bindE (Rem_v hI.ir hI.is hv0) (Yld.bindE (Sign_v (fr_rng hq0 hI.iq)) (Yld.bindE (Sign_v (fr_rng hv0 hI.is)) ?_)))
     rw [g1, g2, dec_sgn, dec_sgn]
     have a0 := Int.emod_nonneg p hq0
     have b0 := Int.emod_nonneg u hv0
     have a1 := Int.emod_lt_of_pos p hI.q0
     refine Yld.ite (fun h => ?_) (fun h => ?_)
     ·simp only [Bool.or_eq_true, decide_eq_true_eq] at h
      refine Yld.ln (Yld.some (.inr ⟨_, rfl, ?_⟩))
      have c1 := sgn_nn a0
      have c2 := sgn_nn b0
      rw [wi64' (z := sgn (p % q) - sgn (u % v)) (by omega) (by omega), sg_mul hI.o1 (by omega), ← hI.val, cross_end hI.q0 hI.s0 he h]
     ·simp only [Bool.or_eq_false_iff, decide_eq_false_iff_not] at h
      have ho : IntKind.i64.wrap (-o) = -o := by have := hI.o1; exact wi64' (by omega) (by omega)
      have hn := hI.next he h.1 h.2
      refine Yld.some (.inl ⟨_, rfl, ⟨_, _, _, _, rfl, rfl, by dsimp only; rw [ho]; exact hn⟩, ?_⟩)
      dsimp only
      rw [dn_big hI.iq, dn_big hn.iq]
      omega
theorem kept_y (x : Frc) (g : Bool) : r4_kept_S FF x g = some (if g = true then big 0 else bad) := by
 unfold r4_kept_S
 cases g
 ·rw [if_neg (by simp), if_neg (by simp), rBad_y]; rfl
 ·rw [if_pos rfl, if_pos rfl, rOf_v (by decide) (by decide)]; rfl
theorem kept_iv (g : Bool) : iv (if g = true then big 0 else bad) = if g = true then some 0 else none := by
 cases g
 ·rw [if_neg (by simp), if_neg (by simp), iv_bad]
 ·rw [if_pos rfl, if_pos rfl, iv_big zero_InM]
theorem kept_in (g : Bool) : inB (if g = true then big 0 else bad) := by
 cases g
 ·exact bad_in
 ·exact big_in 0
theorem rCmp_f {x y : Frc} (hx : inF x) (hy : inF y) : r4_Cmp_S FF x y = some (cmpF x y) := by
 refine Yld.eq ?_
 unfold r4_Cmp_S cmpF
 refine Yld.bindE (rGood_f hx) (Yld.bindE (rGood_f hy) ?_)
 cases hq : qF x with
 | none =>
  cases hq2 : qF y with
  | none => exact Yld.ift rfl (Yld.bindE (kept_y _ _) (Yld.bindE (kept_y _ _) (Yld.bindE (rCmp_y FF2 (kept_in _) (kept_in _)) (Yld.some (by simp only [kept_iv]; rfl)))))
  | some s => exact Yld.ift rfl (Yld.bindE (kept_y _ _) (Yld.bindE (kept_y _ _) (Yld.bindE (rCmp_y FF2 (kept_in _) (kept_in _)) (Yld.some (by simp only [kept_iv]; rfl)))))
 | some r =>
  cases hq2 : qF y with
  | none => exact Yld.ift rfl (Yld.bindE (kept_y _ _) (Yld.bindE (kept_y _ _) (Yld.bindE (rCmp_y FF2 (kept_in _) (kept_in _)) (Yld.some (by simp only [kept_iv]; rfl)))))
  | some s =>
   obtain ⟨hr, rfl⟩ := qF_some hx hq
   obtain ⟨hs, rfl⟩ := qF_some hy hq2
   refine Yld.iff rfl ?_
   rw [mk_N, mk_D, mk_N, mk_D]
   refine Yld.bind (P := fun z => z = cmpR r s) (Yld.loop (fun st : Int × Arr2Big × Arr2Big => ∃ p q u v, st.2.1 = ⟨big p, big q⟩ ∧ st.2.2 = ⟨big u, big v⟩ ∧ CmpI (cmpR r s) p q u v st.1) (fun st => dn st.2.1.a1) ⟨r.num, r.den, s.num, s.den, rfl, rfl, CmpI.start hr hs⟩ ?_ ?_) (fun z hz => Yld.some hz)
   ·dsimp only; exact dn_lt hr
   ·rintro ⟨o, _, _⟩ ⟨p, q, u, v, rfl, rfl, hI⟩
    dsimp only at hI
    dsimp only [un3]
    have hq0 : q ≠ 0 := by have := hI.q0; omega
    have hv0 : v ≠ 0 := by have := hI.s0; omega
    refine Yld.bindE (rQuo_v hI.ip hI.iq hq0) (Yld.bindE (rQuo_v hI.ir hI.is hv0) (Yld.bindE (rCmp_v (fq_rng hq0 hI.ip) (fq_rng hv0 hI.ir)) ?_))
    obtain ⟨f1, g1⟩ := fq_fr_pos p hI.q0
    obtain ⟨f2, g2⟩ := fq_fr_pos u hI.s0
    rw [f1, f2]
    refine Yld.ite (fun h => ?_) (fun h => ?_)
    ·have h' : cmpZ (p / q) (u / v) ≠ 0 := of_decide_eq_true h
     refine Yld.some (.inr ⟨_, rfl, ?_⟩)
     rw [sg_mul hI.o1 (cmpZ_rng _ _), ← hI.val, cross_floor hI.q0 hI.s0 h']
    ·have h' : cmpZ (p / q) (u / v) = 0 := by have := of_decide_eq_false h; omega
     have he := cmpZ_zero.1 h'
     refine Yld.bindE (rRem_v hI.ip hI.iq hq0) (Yld.bindE (rRem_v hI.ir hI.is hv0) (Yld.bindE (rSign_v (fr_rng hq0 hI.iq)) ?_))
     rw [g1, g2, dec_sgn]
     have a0 := Int.emod_nonneg p hq0
     have b0 := Int.emod_nonneg u hv0
     have a1 := Int.emod_lt_of_pos p hI.q0
     have ru : InM (u % v) := by rw [← g2]; exact fr_rng hv0 hI.is
     have rp : InM (p % q) := by rw [← g1]; exact fr_rng hq0 hI.iq
     have fin : (p % q = 0 ∨ u % v = 0) → IntKind.i64.wrap (o * IntKind.i64.wrap (sgn (p % q) - sgn (u % v))) = cmpR r s := fun h => by
      have c1 := sgn_nn a0
      have c2 := sgn_nn b0
      rw [wi64' (z := sgn (p % q) - sgn (u % v)) (by omega) (by omega), sg_mul hI.o1 (by omega), ← hI.val, cross_end hI.q0 hI.s0 he h]
     by_cases h1 : p % q = 0
     ·rw [decide_eq_true h1]
      exact Yld.g0 rfl (Yld.ift rfl (Yld.bindE (rSign_v rp) (Yld.bindE (rSign_v ru) (Yld.some (.inr ⟨_, rfl, fin (.inl h1)⟩)))))
     ·rw [decide_eq_false h1]
      refine Yld.g1 rfl (Yld.bindE (rSign_v ru) ?_)
      rw [dec_sgn]
      by_cases h2 : u % v = 0
      ·rw [decide_eq_true h2]
       exact Yld.ift rfl (Yld.bindE (rSign_v rp) (Yld.bindE (rSign_v ru) (Yld.some (.inr ⟨_, rfl, fin (.inr h2)⟩))))
      ·rw [decide_eq_false h2]
       have ho : IntKind.i64.wrap (-o) = -o := by have := hI.o1; exact wi64' (by omega) (by omega)
       have hn := hI.next he h1 h2
       refine Yld.iff rfl (Yld.some (.inl ⟨_, rfl, ⟨_, _, _, _, rfl, rfl, by dsimp only; rw [ho]; exact hn⟩, ?_⟩))
       dsimp only
       rw [dn_big hI.iq, dn_big hn.iq]
       omega
end Go.Proofs.YtdjnlmmhbeeihaaGreatDoor

namespace Go.Proofs.YtdjnlmmhbeeihaaGreatDoor
open Go Go.Sk
set_option linter.unusedSimpArgs false
set_option linter.unusedVariables false
theorem qF_ofR_val {a u : Rat} (h : qF (ofR a) = some u) : u = a := by
 rw [qF_ofR] at h
 split at h
 ·exact (Option.some.inj h).symm
 ·cases h
theorem val_add {X Y : Frc} {u : Rat} (h : qF (bi addR X Y) = some u) : ∃ a b, qF X = some a ∧ qF Y = some b ∧ u = a + b := by
 cases h1 : qF X with
 | none => rw [bi_none1 h1, qF_bf] at h; cases h
 | some a =>
  cases h2 : qF Y with
  | none => rw [bi_none2 h2, qF_bf] at h; cases h
  | some b =>
   rw [bi_some h1 h2] at h
   rcases addR_or a b with e | e
   ·rw [e] at h; exact ⟨a, b, rfl, rfl, qF_ofR_val h⟩
   ·rw [e, qF_bf] at h; cases h
theorem val_sub {X Y : Frc} {u : Rat} (h : qF (bi subR X Y) = some u) : ∃ a b, qF X = some a ∧ qF Y = some b ∧ u = a - b := by
 cases h1 : qF X with
 | none => rw [bi_none1 h1, qF_bf] at h; cases h
 | some a =>
  cases h2 : qF Y with
  | none => rw [bi_none2 h2, qF_bf] at h; cases h
  | some b =>
   rw [bi_some h1 h2] at h
   unfold subR at h
   rcases addR_or a (-b) with e | e
   ·rw [e] at h; exact ⟨a, b, rfl, rfl, by rw [Rat.sub_eq_add_neg]; exact qF_ofR_val h⟩
   ·rw [e, qF_bf] at h; cases h
theorem add_in (x y : Frc) : inF (bi addR x y) := bi_in addR_in x y
theorem sub_in (x y : Frc) : inF (bi subR x y) := bi_in (fun r s => addR_in _ _) x y
theorem unN_mk {r : Rat} (h : fits r) : un (fun r => ofR (-r)) (mk r) = mk (-r) := by
 rw [un_some (qF_mk h), ofR_fits (neg_fits h)]
theorem unN_in (x : Frc) : inF (un (fun r => ofR (-r)) x) := un_in (fun r => ofR_in _) x
theorem cmpR_neg (r s : Rat) : cmpR (-r) (-s) = cmpR s r := by
 unfold cmpR
 simp only [Rat.neg_lt_neg_iff]
theorem cmpR_sw (r s : Rat) : cmpR r s = -cmpR s r := by
 unfold cmpR
 by_cases h1 : r < s
 ·have h2 : ¬ s < r := by grind
  simp [h1, h2]
 ·by_cases h2 : s < r
  ·simp [h1, h2]
  ·simp [h1, h2]
theorem cmpF_some {x y : Frc} {r s : Rat} (h : qF x = some r) (h2 : qF y = some s) : cmpF x y = cmpR r s := by unfold cmpF; rw [h, h2]
theorem cmpR_le {r s : Rat} : cmpR r s ≤ 0 ↔ r ≤ s := by
 unfold cmpR
 by_cases h1 : r < s
 ·simp only [h1, if_true]
  exact ⟨fun _ => Rat.le_of_lt h1, fun _ => by decide⟩
 ·by_cases h2 : s < r
  ·simp only [h1, h2, if_true, if_false]
   exact ⟨fun h => absurd h (by decide), fun h => by grind⟩
  ·simp only [h1, h2, if_false]
   exact ⟨fun _ => by grind, fun _ => by decide⟩
theorem cmpR_eq {r s : Rat} : cmpR r s = 0 ↔ r = s := by
 unfold cmpR
 by_cases h1 : r < s
 ·simp only [h1, if_true]
  exact ⟨fun h => absurd h (by decide), fun h => by grind⟩
 ·by_cases h2 : s < r
  ·simp only [h1, h2, if_true, if_false]
   exact ⟨fun h => absurd h (by decide), fun h => by grind⟩
  ·simp only [h1, h2, if_false]
   exact ⟨fun _ => by grind, fun _ => trivial⟩
theorem cmpR_add (r s t : Rat) : cmpR (r + t) (s + t) = cmpR r s := by
 unfold cmpR
 simp only [Rat.add_lt_add_right]
theorem sgn_num (r s : Rat) : sgn (r - s).num = cmpR r s := by
 unfold sgn cmpR
 by_cases h1 : r < s
 ·have h2 : 0 < -(r - s) := by grind
  have h3 := num_pos h2
  rw [(neg_nd (r - s)).1] at h3
  rw [if_neg (by omega), if_pos (by omega), if_pos h1]
 ·by_cases h2 : s < r
  ·have h3 : 0 < r - s := by grind
   have h4 := num_pos h3
   rw [if_neg (by omega), if_neg (by omega), if_neg h1, if_pos h2]
  ·have h3 : r = s := by grind
   subst h3
   rw [Rat.sub_self, if_pos (show (0 : Rat).num = 0 from rfl), if_neg h1, if_neg h2]
theorem cmpF_sw (x y : Frc) : cmpF x y = -cmpF y x := by
 unfold cmpF
 cases qF x <;> cases qF y <;> simp [← cmpR_sw]
theorem cmpR_rng (r s : Rat) : -1 ≤ cmpR r s ∧ cmpR r s ≤ 1 := by
 unfold cmpR
 split
 ·decide
 ·split <;> decide
theorem cmpF_rng (x y : Frc) : -1 ≤ cmpF x y ∧ cmpF x y ≤ 1 := by
 unfold cmpF
 cases qF x <;> cases qF y <;> simp [cmpR_rng]
theorem cmpF_refl (x : Frc) : cmpF x x = 0 := by have := cmpF_sw x x; omega
theorem cmpF_trans {x y z : Frc} (h1 : cmpF x y ≤ 0) (h2 : cmpF y z ≤ 0) : cmpF x z ≤ 0 := by
 unfold cmpF at *
 cases hx : qF x <;> cases hy : qF y <;> cases hz : qF z <;> simp only [hx, hy, hz] at * <;> try omega
 rw [cmpR_le] at *
 exact Rat.le_trans h1 h2
end Go.Proofs.YtdjnlmmhbeeihaaGreatDoor

namespace Go.Proofs.YtdjnlmmhbeeihaaGreatDoor
open Go Go.Sk
set_option maxRecDepth 100000
theorem sanity_y : l4_sanity_S FF = some true := by
 unfold l4_sanity_S l4_text_S ratio_Text_S whole_Text_S
 simp only [itoa_S_K]
 decide +kernel
end Go.Proofs.YtdjnlmmhbeeihaaGreatDoor

namespace Go.Proofs.YtdjnlmmhbeeihaaGreatDoor
open Go Go.Sk
set_option linter.unusedSimpArgs false
set_option linter.unusedVariables false
theorem wneg {c : Int} (h : -1 ≤ c ∧ c ≤ 1) : IntKind.i64.wrap (-c) = -c := wi64' (by omega) (by omega)
theorem orders_y {x y z : Frc} (hx : inF x) (hy : inF y) (hz : inF z) : l4_RatioOrders_S FF x y z = some true := by
 refine Yld.eq ?_
 unfold l4_RatioOrders_S
 refine Yld.bindE (Cmp_f hx hy) (Yld.bindE (rCmp_f hx hy) (Yld.g1 (by simp) (Yld.bindE (Cmp_f hy hx) ?_)))
 refine Yld.lnE false (by rw [wneg (cmpF_rng _ _), ← cmpF_sw]; simp) ?_
 refine Yld.g1 rfl (Yld.bindE (Cmp_f hx hx) (Yld.iff (by rw [cmpF_refl]; rfl) ?_))
 have key : ∀ {k : Bool → Option Bool} {Q : Bool → Prop}, Yld (k false) Q → Yld ((gcall (decide (cmpF x y ≤ 0)) (ratio_Cmp_S FF y z)).bind fun x_6 => (gcall (decide (cmpF x y ≤ 0) && decide (x_6 ≤ 0)) (ratio_Cmp_S FF x z)).bind fun x_7 => letN ((decide (cmpF x y ≤ 0) && decide (x_6 ≤ 0)) && decide (0 < x_7)) k) Q := fun {k Q} h => by
  by_cases h1 : cmpF x y ≤ 0
  ·rw [decide_eq_true h1]
   refine Yld.g1 rfl (Yld.bindE (Cmp_f hy hz) ?_)
   by_cases h2 : cmpF y z ≤ 0
   ·rw [decide_eq_true h2]
    refine Yld.g1 rfl (Yld.bindE (Cmp_f hx hz) (Yld.lnE false ?_ h))
    have := cmpF_trans h1 h2
    simp; omega
   ·rw [decide_eq_false h2]
    exact Yld.g0 rfl (Yld.lnE false rfl h)
  ·rw [decide_eq_false h1]
   exact Yld.g0 rfl (Yld.g0 rfl (Yld.lnE false rfl h))
 refine key (Yld.iff rfl (Yld.bindE (Good_f hx) ?_))
 cases h1 : qF x with
 | none => exact Yld.g0 rfl (Yld.ift rfl (Yld.bindE sanity_y (Yld.some rfl)))
 | some r =>
  refine Yld.g1 rfl (Yld.bindE (Good_f hy) ?_)
  cases h2 : qF y with
  | none => exact Yld.ift rfl (Yld.bindE sanity_y (Yld.some rfl))
  | some s =>
   obtain ⟨fr, ex⟩ := qF_some hx h1
   obtain ⟨fs, ey⟩ := qF_some hy h2
   rw [cmpF_some h1 h2]
   refine Yld.iff rfl (Yld.bindE (Sub_f hx hy) (Yld.bindE (Add_f hx hz) (Yld.bindE (Add_f hy hz) (Yld.bindE (Good_f (sub_in _ _)) ?_))))
   refine Yld.bind (P := fun o => ((qF (bi subR x y)).isSome && decide (o ≠ cmpR r s)) = false) ?_ ?_
   ·cases h3 : qF (bi subR x y) with
    | none => unfold gcall; rw [if_neg (by simp)]; exact Yld.some rfl
    | some u =>
     obtain ⟨a, b, e1, e2, rfl⟩ := val_sub h3
     rw [h1] at e1; rw [h2] at e2
     cases e1; cases e2
     unfold gcall
     rw [if_pos (by rfl), Sign_f (sub_in _ _), h3]
     refine Yld.some ?_
     dsimp only
     rw [sgn_num]; simp
   ·intro o ho
    rw [ho]
    refine Yld.g1 rfl (Yld.bindE (Good_f (add_in _ _)) ?_)
    have fin : ∀ {A : Option Bool} {k : Bool → Option Bool} {Q : Bool → Prop}, Yld (k false) Q → Yld ((gcall (!false && (qF (bi addR x z)).isSome) (ratio_Good_S FF (bi addR y z))).bind fun x_18 => (gcall (!false && ((qF (bi addR x z)).isSome && x_18)) (ratio_Cmp_S FF (bi addR x z) (bi addR y z))).bind fun x_19 => letN (false || (((qF (bi addR x z)).isSome && x_18) && decide (x_19 ≠ cmpR r s))) k) Q := fun {A k Q} h => by
     cases h4 : qF (bi addR x z) with
     | none => exact Yld.g0 rfl (Yld.g0 rfl (Yld.lnE false rfl h))
     | some a =>
      refine Yld.g1 rfl (Yld.bindE (Good_f (add_in _ _)) ?_)
      cases h5 : qF (bi addR y z) with
      | none => exact Yld.g0 rfl (Yld.lnE false rfl h)
      | some b =>
       refine Yld.g1 rfl (Yld.bindE (Cmp_f (add_in _ _) (add_in _ _)) (Yld.lnE false ?_ h))
       rw [cmpF_some h4 h5]
       obtain ⟨a1, b1, e1, e2, rfl⟩ := val_add h4
       obtain ⟨a2, b2, e3, e4, rfl⟩ := val_add h5
       rw [h1] at e1; rw [h2] at e3; rw [e2] at e4
       cases e1; cases e3; cases e4
       rw [cmpR_add]; simp
    refine fin (A := none) (Yld.iff rfl (Yld.bindE sanity_y (Yld.g1 rfl (Yld.bindE (Neg_f hx) (Yld.g1 rfl (Yld.bindE (Neg_f hy) (Yld.g1 rfl (Yld.bindE (Cmp_f (unN_in _) (unN_in _)) (Yld.some ?_)))))))))
    rw [ex, ey, unN_mk fr, unN_mk fs, cmpF_some (qF_mk (neg_fits fr)) (qF_mk (neg_fits fs)), cmpR_neg, wneg (cmpR_rng _ _), ← cmpR_sw]
    have e1 : (cmpR r s = 0) = (mk r = mk s) := propext ⟨fun h => by rw [cmpR_eq.1 h], fun h => by
     have h6 := qF_mk fr
     rw [h, qF_mk fs] at h6
     rw [Option.some.inj h6, cmpR_eq]⟩
    simp [e1]
end Go.Proofs.YtdjnlmmhbeeihaaGreatDoor

namespace Go.Proofs.YtdjnlmmhbeeihaaGreatDoor
open Go Go.Sk
end Go.Proofs.YtdjnlmmhbeeihaaGreatDoor

namespace Go.Sk
open Go
theorem int_mem_rel {h : PH} {cs : List CP} {L : List Value} {k : IntKind} {z : Int} (hr : cellsRel h cs L) (hm : CP.int k z ∈ cs) : inR k z := by
 obtain ⟨i, hi, he⟩ := List.getElem_of_mem hm
 obtain ⟨u, _, hu⟩ := All2.get hr i (.int k z) (by rw [List.getElem?_eq_getElem hi, he])
 exact hu.2
end Go.Sk
namespace Go.Proofs.YtdjnlmmhbeeihaaGreatDoor
open Go Go.Sk
theorem inD_of {w : A16} (H : ∀ z ∈ w.l, inR .u32 z) : inD 4294967296 w.l := fun i => by
 by_cases hi : i < w.l.length
 ·have h1 := H w.l[i] (List.getElem_mem hi)
  have e : dg w.l i = w.l[i] := by simp [dg, List.getD, List.getElem?_eq_getElem hi]
  rw [e]
  have h2 : 0 ≤ w.l[i] ∧ w.l[i] ≤ 4294967295 := by simpa [inR, IntKind.min, IntKind.max, IntKind.signed, IntKind.bits] using h1
  omega
 ·rw [dg_ge (by omega)]; decide
theorem inF_ints {x : Frc} (H : ∀ z, CP.int .u32 z ∈ eFrc x → inR .u32 z) : inF x := by
 refine ⟨inD_of fun z hz => H z ?_, inD_of fun z hz => H z ?_⟩
 ·unfold eFrc eBig
  exact List.mem_append_left _ (List.mem_cons_of_mem _ (List.mem_cons_of_mem _ (List.mem_map_of_mem hz)))
 ·unfold eFrc eBig
  exact List.mem_append_right _ (List.mem_cons_of_mem _ (List.mem_cons_of_mem _ (List.mem_map_of_mem hz)))
theorem inF_of {x : Frc} {h : PH} {v : Value} (hx : (BV.agg (eFrc x)).rel h (fun _ => .bool false) v) : inF x := by
 obtain ⟨cs, _, hr⟩ := hx
 exact inF_ints fun z hz => int_mem_rel hr hz
end Go.Proofs.YtdjnlmmhbeeihaaGreatDoor

namespace Go.Proofs.YtdjnlmmhbeeihaaGreatDoor
open Go Go.Sk
theorem orders_law {mx : Int} (x : Frc) (y : Frc) (z : Frc) (hx : inF x) (hy : inF y) (hz : inF z) : Meets Tryz.prog (tabs mx) 5 [] [.agg (eFrc x), .agg (eFrc y), .agg (eFrc z)] (Is [] (.b (.one (.bool true)))) :=
 l4_RatioOrders_spec (orders_y hx hy hz)
end Go.Proofs.YtdjnlmmhbeeihaaGreatDoor

